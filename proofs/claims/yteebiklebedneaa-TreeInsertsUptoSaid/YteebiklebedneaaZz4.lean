/- Texts of the law TreeInserts, part 4: lemmas; what is proved stands in the last text. -/
import Derived.Test.YteebiklebedneaaZz3
import Derived.Test.YteebiklebedneaaZz1
import Derived.Below
import Derived.OpenShut
import Derived.WalkKit
import Derived.ProofKit
import Derived.ChangeOld
import Derived.Deep.Strs
import Derived.Test.YteebiklebedneaaProg
import Derived.Lib.Bytealg
import Derived.Lib.BytesEntry
import GoSem.Op.String
set_option linter.unusedSimpArgs false
set_option linter.unusedVariables false
/- The abstract machine, 23: regions that draw their order, where what allocates is not ordered: whatever order. -/
namespace Go.AM
open Go
section
variable {P : Program} {E : Env} {N : Nat}
/-- What a plan that is right gives. -/
structure OkU (ops : Array Oper) (n : Nat) (pl : List PU) (tot : Nat) (dss : List Nat) (zs : List Nat) : Prop where
  len : pl.length = n
  le : n ≤ ops.size
  head : ∀ s, HeadInv .any ops n s → ∀ i, i < n → i ∉ zs → s.getD i true = false → ∀ j ∈ Region.ready .any ops s, j < n
  strag : ∀ z ∈ zs, z < n ∧ ∃ o, ops[z]? = some o ∧ isExt o.op = true ∧ o.guard = none ∧ ∀ (j : Nat) oj, ops[j]? = some oj → j ≠ z → (∀ p, pl[z]? = some p → j ∉ p.anc) → (∀ e ∈ oj.after, Region.binds .any e = true → e.on ≠ z) → o.apart ops oj = true
  sel : zs ≠ [] → ∀ (j : Nat) (o : Oper) cs b, ops[j]? = some o → o.op ≠ .select cs b
  dst : ∀ (i : Nat) o p, i < n → ops[i]? = some o → pl[i]? = some p → ∃ d, o.dst = some d ∧ dss.contains d = true
  back : ∀ (i : Nat) o, i < n → ops[i]? = some o → ∀ e ∈ o.after, Region.binds .any e = true → e.on < i
  anc : ∀ (i : Nat) o p, i < n → ops[i]? = some o → pl[i]? = some p → ∀ a ∈ p.anc, ∃ e ∈ o.after, Region.binds .any e = true ∧ (e.on = a ∨ ∃ q, pl[e.on]? = some q ∧ a ∈ q.anc)
  tot : ∀ (i : Nat) p, i < n → pl[i]? = some p → p.r + p.k ≤ tot
  pair : ∀ (i h : Nat) o p oh q, i < n → h < n → h ≠ i → ops[i]? = some o → pl[i]? = some p → ops[h]? = some oh → pl[h]? = some q → oh.dst ≠ o.dst ∧ (q.k = 0 ∨ h ∈ p.anc ∨ (q.r, q.k) ∈ p.chk) ∧ (p.r + p.k ≤ q.r ∨ q.r + q.k ≤ p.r)
  seq : Region.seqB .any ops (ops.size - n) n ((List.range ops.size).map fun i => decide (i < n)).toArray = true
theorem tail_waitsZ {ops : Array Oper} {n : Nat} {zs : List Nat} {listed : Array Bool} (hs : sinkZ ops n zs = true) (hc : Region.chainB .any ops n = true) (hn : n < ops.size) (inv : HeadInv .any ops n listed) :
    ∀ (d i : Nat), n - i = d → i < n → i ∉ zs → listed.getD i true = false → ∀ t, n ≤ t → t ∉ Region.ready .any ops listed := by
  intro d
  induction d using Nat.strongRecOn with
  | _ d ih =>
    intro i hd hi hiz hun t ht hr
    obtain ⟨_, ot, hot, hall⟩ := mem_ready.1 hr
    have htlt : t < ops.size := (Array.getElem?_eq_some_iff.1 hot).1
    by_cases htn : t = n
    · subst htn
      have h1 := List.all_eq_true.1 hs i (List.mem_range.2 hi)
      rcases Bool.or_eq_true _ _ ▸ h1 with h1 | h1
      · exact hiz (by simpa using h1)
      obtain ⟨j, hj, hj2⟩ := List.any_eq_true.1 h1
      simp only [Bool.and_eq_true, decide_eq_true_eq, Bool.not_eq_true'] at hj2
      obtain ⟨oj, hoj, e, he, hb, hon⟩ := Region.waitsFor_spec hj2.2
      have hjle : j ≤ t := by have := List.mem_range.1 hj; omega
      have hjz : j ∉ zs := by have := hj2.1.2; simpa using this
      by_cases hjt : j = t
      · subst hjt
        have : oj = ot := Option.some.inj (hoj.symm.trans hot)
        subst this
        have h2 := hall e he hb
        rw [hon, getD_both hun] at h2
        cases h2
      · cases hl : listed.getD j false with
        | true =>
          have h2 := inv.closed j oj hoj hl e he hb
          rw [hon, getD_both hun] at h2
          cases h2
        | false =>
          have hjs : j < listed.size := by rw [inv.size]; omega
          exact ih (t - j) (by omega) j rfl (by omega) hjz (getD_in hjs hl) t (Nat.le_refl _) hr
    · have h1 := List.all_eq_true.1 hc t (List.mem_range.2 htlt)
      simp only [Bool.or_eq_true, decide_eq_true_eq] at h1
      rcases h1 with h1 | h1
      · omega
      · obtain ⟨o', ho', e, he, hb, hon⟩ := Region.waitsFor_spec h1
        have : o' = ot := Option.some.inj (ho'.symm.trans hot)
        subst this
        have h2 := hall e he hb
        rw [hon, getD_both (inv.tail (t - 1) (by omega) (by omega))] at h2
        cases h2
/-- What yields whatever the world may be taken first. -/
theorem wpAny_first {P : Program} {ops : Array Oper} {Q : Exit → Act → World → Prop} {i : Nat} {oi : Oper} {v : Value} (hi : ops[i]? = some oi) (hsel : ∀ (j : Nat) (o : Oper) cs b, ops[j]? = some o → o.op ≠ .select cs b) (hQ : ∀ c a w, Q (.panic c) (a.put oi.dst v) w → Q (.panic c) a w) : ∀ (f : Nat) (s : Array Bool) (a : Act) (w : World), (∀ (j : Nat) oj, ops[j]? = some oj → j ≠ i → s.getD j true = false → (∀ e ∈ oj.after, Region.binds .any e = true → e.on ≠ i) → oi.apart ops oj = true) →
      i ∈ Region.ready .any ops s → YieldsIf P ops (fun _ => True) oi v a → wpAny P .any ops Q f (s.setIfInBounds i true) (a.put oi.dst v) w → wpAny P .any ops Q (f + 1) s a w := by
  intro f
  induction f with
  | zero =>
    intro s a w hfree hr hy H
    refine ⟨fun h => (by rw [h] at hr; cases hr), fun j hj => ?_⟩
    by_cases hji : j = i
    · subst hji; exact hy.wpOp hi trivial H
    · have := ready_mono hj hji
      rw [H.1] at this; cases this
  | succ f ih =>
    intro s a w hfree hr hy H
    refine ⟨fun h => (by rw [h] at hr; cases hr), fun j hj => ?_⟩
    by_cases hji : j = i
    · subst hji; exact hy.wpOp hi trivial H
    · have h1 := H.2 j (ready_mono hj hji)
      obtain ⟨hjun, oj, hoj, hall⟩ := mem_ready.1 hj
      have hiun := (mem_ready.1 hr).1
      have hnot : ∀ e ∈ oj.after, Region.binds .any e = true → e.on ≠ i := fun e he hb heq => by
        have h2 := hall e he hb
        rw [heq, getD_both hiun] at h2
        cases h2
      have h2 := wpOp_putIf hoj (hfree j oj hoj hji hjun hnot) (fun cs b => hsel i oi cs b hi) (fun cs b => hsel j oj cs b hoj) hQ hy h1
      refine wpOp_mono (fun a' w' h3 => ih _ a' w' (fun k ok hk hki hun hno => hfree k ok hk hki (by
        by_cases hjk : j = k
        · subst hjk; exact hjun
        · rwa [getD_set_ne true hjk] at hun) hno) (ready_mono hr (Ne.symm hji)) h3.1 ?_) h2
      rw [Array.setIfInBounds_comm _ _ hji]
      exact h3.2
theorem extract_yields {P : Program} {ops : Array Oper} {o : Oper} (ho : isExt o.op = true) (hg : o.guard = none) {a : Act} {w : World} {K : Act → World → Prop} (h : o.wp P a w K (fun _ _ _ => False)) : ∃ u, YieldsIf P ops (fun _ => True) o u a ∧ K (a.put o.dst u) w := by
  obtain ⟨d, op, ty, pos, aft, gd⟩ := o
  simp only at ho hg
  cases op with
  | extract t i =>
    unfold Oper.wp at h
    simp only [execOp] at h
    generalize hv : a.eval t = tv at h
    have key : (∃ u, ∀ w', (Instr.extract tv i).run P w' = .ok u w') ∨ (∃ e, ∀ w', (Instr.extract tv i).run P w' = .halt e w' ∧ ∀ x, e ≠ .panic x) := by
      unfold Instr.extract
      split
      · split
        · rename_i u _; exact .inl ⟨u, fun w' => rfl⟩
        · exact .inr ⟨_, fun w' => ⟨rfl, fun x hx => by cases hx⟩⟩
      · exact .inr ⟨_, fun w' => ⟨rfl, fun x hx => by cases hx⟩⟩
    rcases key with ⟨u, hu⟩ | ⟨e, he⟩
    · refine ⟨u, .inl ⟨by simp [Region.wanted, hg], fun w' _ => ?_⟩, ?_⟩
      · simp only [execOp, hv, Sem.run_bind, hu, Result.andThen_ok]; rfl
      · simp only [Sem.run_bind, hu, Result.andThen_ok] at h; exact h
    · exfalso
      simp only [Sem.run_bind, (he w).1] at h
      have h' : Oper.upon P ⟨d, .extract t i, ty, pos, aft, gd⟩ a K (fun _ _ _ => False) (.halt e w) := h
      cases e with
      | panic x => exact h'
      | _ => exact h'
  | _ => cases ho
theorem okU_spec {ops : Array Oper} {n : Nat} {pl : List PU} {tot : Nat} {dss zs : List Nat} (h : okU ops n pl tot dss zs = true) : OkU ops n pl tot dss zs := by
  simp only [okU, Bool.and_eq_true, decide_eq_true_eq] at h
  obtain ⟨⟨⟨⟨h1, h2⟩, hz⟩, h3⟩, h4⟩ := h
  have hle : n ≤ ops.size := by
    rcases Bool.or_eq_true _ _ ▸ h2 with h2 | h2
    · exact Nat.le_of_eq (of_decide_eq_true h2)
    · simp only [Bool.and_eq_true, decide_eq_true_eq] at h2; exact Nat.le_of_lt h2.2
  have key : ∀ (i : Nat) o p, i < n → ops[i]? = some o → pl[i]? = some p → _ := fun i o p hi ho hp => (by
    have := List.all_eq_true.1 h3 i (by simpa using hi)
    rw [ho, hp] at this
    exact this)
  refine ⟨h1, hle, ?_, ?_, ?_, fun i o p hi ho hp => ?_, fun i o hi ho e he hb => ?_, fun i o p hi ho hp a ha => ?_, fun i p hi hp => ?_, fun i h o p oh q hi hh hne ho hp hoh hq => ?_, h4⟩
  · intro s inv i hi hiz hs j hj
    rcases Bool.or_eq_true _ _ ▸ h2 with b2 | b2
    · have := of_decide_eq_true b2
      obtain ⟨_, oj, hoj, _⟩ := mem_ready.1 hj
      rw [this]; exact (Array.getElem?_eq_some_iff.1 hoj).1
    · simp only [Bool.and_eq_true, decide_eq_true_eq] at b2
      by_cases h : j < n
      · exact h
      · exact absurd hj (tail_waitsZ b2.1.1 b2.1.2 b2.2 inv _ i rfl hi hiz hs j (by omega))
  · intro z hzm
    rcases Bool.or_eq_true _ _ ▸ hz with h0 | h0
    · have : zs = [] := by simpa using h0
      rw [this] at hzm; cases hzm
    · simp only [Bool.and_eq_true] at h0
      have h5 := List.all_eq_true.1 h0.1 z hzm
      simp only [Bool.and_eq_true, decide_eq_true_eq] at h5
      obtain ⟨h6, h7⟩ := h5
      refine ⟨h6, ?_⟩
      split at h7
      · rename_i oz hoz
        simp only [Bool.and_eq_true] at h7
        obtain ⟨⟨h8, h9⟩, h10⟩ := h7
        refine ⟨oz, hoz, h8, by simpa using h9, fun j oj hj hne hna hno => ?_⟩
        have h11 := List.all_eq_true.1 h10 j (by have := (Array.getElem?_eq_some_iff.1 hj).1; simpa using this)
        rw [hj] at h11
        simp only [Bool.or_eq_true, beq_iff_eq] at h11
        rcases h11 with (h11 | h11) | h11 | h11
        · exact (hne h11).elim
        · split at h11
          · rename_i p hp; exact (hna p hp (by simpa using h11)).elim
          · cases h11
        · obtain ⟨e, he, h12⟩ := List.any_eq_true.1 h11
          simp only [Bool.and_eq_true, beq_iff_eq] at h12
          exact (hno e (by simpa using he) h12.1 h12.2).elim
        · exact h11
      · cases h7
  · intro hne j o cs b hj hsel
    rcases Bool.or_eq_true _ _ ▸ hz with h0 | h0
    · exact hne (by simpa using h0)
    · simp only [Bool.and_eq_true] at h0
      have := List.all_eq_true.1 h0.2 o (by have := Array.mem_of_getElem? hj; simpa using this)
      rw [hsel] at this; cases this
  · have := key i o p hi ho hp
    simp only [Bool.and_eq_true] at this
    obtain ⟨⟨⟨⟨g1, _⟩, _⟩, _⟩, _⟩ := this
    split at g1
    · rename_i d hd; exact ⟨d, hd, g1⟩
    · cases g1
  · obtain ⟨p, hp⟩ : ∃ p, pl[i]? = some p := ⟨pl[i]'(by omega), by simp⟩
    have := key i o p hi ho hp
    simp only [Bool.and_eq_true] at this
    obtain ⟨⟨⟨⟨_, g2⟩, _⟩, _⟩, _⟩ := this
    have := List.all_eq_true.1 g2 e (by simpa using he)
    simpa [hb] using this
  · have := key i o p hi ho hp
    simp only [Bool.and_eq_true] at this
    obtain ⟨⟨⟨⟨_, _⟩, g3⟩, _⟩, _⟩ := this
    obtain ⟨e, he, h5⟩ := List.any_eq_true.1 (List.all_eq_true.1 g3 a ha)
    simp only [Bool.and_eq_true, Bool.or_eq_true, beq_iff_eq] at h5
    refine ⟨e, by simpa using he, h5.1, h5.2.imp id fun h6 => ?_⟩
    split at h6
    · rename_i q hq; exact ⟨q, hq, by simpa using h6⟩
    · cases h6
  · obtain ⟨o, ho⟩ : ∃ o, ops[i]? = some o := ⟨ops[i]'(by omega), by simp⟩
    have := key i o p hi ho hp
    simp only [Bool.and_eq_true, decide_eq_true_eq] at this
    exact this.1.2
  · have := key i o p hi ho hp
    simp only [Bool.and_eq_true, decide_eq_true_eq] at this
    have := List.all_eq_true.1 this.2 h (by simpa using hh)
    rw [hoh, hq] at this
    simp only [Bool.or_eq_true, Bool.and_eq_true, beq_iff_eq, decide_eq_true_eq, Bool.not_eq_true', beq_eq_false_iff_ne, ne_eq] at this
    obtain ⟨⟨g1, g2⟩, g3⟩ := this.resolve_left hne
    refine ⟨g1, ?_, g3⟩
    rcases g2 with (g2 | g2) | g2
    · exact .inl g2
    · exact .inr (.inl (by simpa using g2))
    · exact .inr (.inr (by simpa using g2))
theorem lk_mapO_get {φ : Nat → Nat} : ∀ {o : List (Nat × Nd)} {i : Nat} {x : Nd}, (∀ p ∈ o, φ p.1 = φ i → p.1 = i) → lk o i = some x → lk (mapO φ o) (φ i) = some (renNd φ x)
  | [], i, x, _, h => by simp [lk] at h
  | (j, y) :: r, i, x, hi, h => by
    simp only [lk] at h
    simp only [mapO, List.map_cons, lk]
    split at h
    · rename_i e; subst e; cases h; rw [if_pos rfl]
    · rename_i e
      rw [if_neg (fun e2 => e (hi (j, y) (by simp) e2))]
      exact lk_mapO_get (fun p hp => hi p (by simp [hp])) h
theorem mapO_none {φ : Nat → Nat} {o : List (Nat × Nd)} {i : Nat} (h : ∀ p ∈ o, φ p.1 ≠ i) : lk (mapO φ o) i = none := by
  induction o with
  | nil => rfl
  | cons p r ih =>
    obtain ⟨j, y⟩ := p
    simp only [mapO, List.map_cons, lk]
    rw [if_neg (h (j, y) (by simp))]
    exact ih (fun p hp => h p (by simp [hp]))
theorem anyU {ops : Array Oper} {n : Nat} {pl : List PU} {tot : Nat} {dss zs : List Nat} {L : List En} {bs : AS} {n0 : Nat} {Q : Exit → Act → World → Prop} {g : Nat} (ok : OkU ops n pl tot dss zs) (hQ : ∀ c a d v w, Q (.panic c) (a.put d v) w → Q (.panic c) a w) (hL : L.length = n) (hM : bs.n = n0 + tot) (hbig : bs.n + tot ≤ 1000000000) (hE : E.th0.length ≤ n0)
    (hprop : ∀ j, j < n → ∃ o p e, ops[j]? = some o ∧ pl[j]? = some p ∧ L[j]? = some e ∧ PropE P E N bs n0 L j o p e)
    (hbm : ∀ i x, lk bs.m i = some x → dss.contains i = false ∧ ∀ f : Nat → Nat, (∀ i, i < n0 → f i = i) → ren f x = x) (hbo : ∀ i nd, lk bs.o i = some nd → i < n0 ∧ ∀ f : Nat → Nat, (∀ i, i < n0 → f i = i) → renNd f nd = nd)
    (hend : ∀ lD th z a w, (∀ e ∈ lD, L[e.i]? = some e) → (∀ e ∈ L, e ∈ lD) → Sim E N (stE bs lD) th z a w → wpAny P .any ops Q g ((List.range ops.size).map fun i => decide (i < n)).toArray a w) :
    ∀ (f : Nat) (lD : List En) (s : Array Bool) (th : List NLoc) (z : Zone) (a : Act) (w : World), HeadInv .any ops n s → f + lD.length = n → (∀ e ∈ lD, e.i < n ∧ L[e.i]? = some e) → (lD.map (·.i)).Nodup → (∀ i, i < n → (s.getD i false = true ↔ ∃ e ∈ lD, e.i = i)) →
      (∀ e ∈ lD, ∀ p, pl[e.i]? = some p → ∀ x ∈ p.anc, ∃ e' ∈ lD, e'.i = x) → Sim E N (stE bs lD) th z a w → wpAny P .any ops Q (f + g) s a w := by
  have same : ∀ {a b : En}, L[a.i]? = some a → L[b.i]? = some b → a.i = b.i → a = b := fun {a b} h1 h2 h => by rw [h] at h1; exact Option.some.inj (h1.symm.trans h2)
  have range : (List.range n).Nodup := List.nodup_range
  intro f
  induction f with
  | zero =>
    intro lD s th z a w inv hlen hmem hnd hs hanc hsim
    have hall : ∀ i, i < n → ∃ e ∈ lD, e.i = i := by
      intro i hi
      apply Classical.byContradiction
      intro hno
      have h1 : (i :: lD.map (·.i)).Nodup := List.nodup_cons.2 ⟨fun h => by
        obtain ⟨e, he, rfl⟩ := List.mem_map.1 h
        exact hno ⟨e, he, rfl⟩, hnd⟩
      have := nodup_sub_len (l' := List.range n) h1 (fun x hx => by
        rcases List.mem_cons.1 hx with rfl | hx
        · simpa using hi
        · obtain ⟨e, he, rfl⟩ := List.mem_map.1 hx
          simpa using (hmem e he).1)
      simp at this; omega
    have hsF : s = ((List.range ops.size).map fun i => decide (i < n)).toArray := by
      apply Array.ext
      · simp [inv.size]
      · intro i h1 h2
        simp only [List.getElem_toArray, List.getElem_map, List.getElem_range]
        by_cases hi : i < n
        · have := (hs i hi).2 (hall i hi)
          simp [h1] at this
          simp [this, hi]
        · have := inv.tail i (by omega) (by rw [← inv.size]; exact h1)
          simp [h1] at this
          simp [this, hi]
    rw [Nat.zero_add, hsF]
    refine hend lD th z a w (fun e he => (hmem e he).2) (fun e he => ?_) hsim
    obtain ⟨i, hi, rfl⟩ := List.mem_iff_getElem.1 he
    rw [hL] at hi
    obtain ⟨e', he', h2⟩ := hall i hi
    obtain ⟨o, p, e, _, _, q3, q4⟩ := hprop i hi
    have h3 := (hmem e' he').2
    rw [h2] at h3
    have : L[i]'(by omega) = e' := by
      have := List.getElem?_eq_some_iff.1 h3
      exact this.2
    rw [this]; exact he'
  | succ f ih =>
    intro lD s th z a w inv hlen hmem hnd hs hanc hsim
    have hund : ∀ i, i < n → (¬ ∃ e ∈ lD, e.i = i) → s.getD i true = false := by
      intro i hi hno
      refine getD_in (by rw [inv.size]; have := ok.le; omega) ?_
      cases hv : s.getD i false with
      | false => rfl
      | true => exact (hno ((hs i hi).1 hv)).elim
    have hready : Region.ready .any ops s ≠ [] := by
      have hex : ∃ i, i < n ∧ ¬ ∃ e ∈ lD, e.i = i := by
        apply Classical.byContradiction
        intro hno
        have := nodup_sub_len (l' := lD.map (·.i)) range (fun i hi => by
          have hi : i < n := by simpa using hi
          have : ∃ e ∈ lD, e.i = i := Classical.byContradiction fun h => hno ⟨i, hi, h⟩
          obtain ⟨e, he, rfl⟩ := this
          exact List.mem_map_of_mem he)
        simp at this; omega
      obtain ⟨i0, hi0⟩ := hex
      obtain ⟨i, ⟨hi, hno⟩, hmin⟩ := exists_min (fun i => i < n ∧ ¬ ∃ e ∈ lD, e.i = i) i0 hi0
      obtain ⟨o, p, e, q1, q2, q3, q4⟩ := hprop i hi
      have : i ∈ Region.ready .any ops s := mem_ready.2 ⟨hund i hi hno, o, q1, fun e he hb => by
        have hlt := ok.back i o hi q1 e he hb
        refine (hs e.on (by omega)).2 (Classical.byContradiction fun h => ?_)
        have := hmin e.on ⟨by omega, h⟩
        omega⟩
      intro h; rw [h] at this; cases this
    rw [show f + 1 + g = (f + g) + 1 by omega]
    have body : ∀ (Q2 : Exit → Act → World → Prop) (i : Nat), i ∈ Region.ready .any ops s → i < n → ∃ o', ops[i]? = some o' ∧ o'.guard = none ∧ o'.wp P a w (fun a' w' => wpAny P .any ops Q (f + g) (s.setIfInBounds i true) a' w') Q2 := by
      intro Q2 i hir hi
      have hun := (mem_ready.1 hir).1
      obtain ⟨_, o', ho', hdeps⟩ := mem_ready.1 hir
      obtain ⟨o, p, e, q1, q2, q3, ⟨ei, eg, ed, ⟨vM, oM, hfr, hk0, hk1⟩, efix, ekeys⟩⟩ := hprop i hi
      obtain rfl : o' = o := Option.some.inj (ho'.symm.trans q1)
      have hnot : ¬ ∃ e ∈ lD, e.i = i := fun h => by
        have := (hs i hi).2 h
        rw [getD_both hun] at this; cases this
      have hancD : ∀ x ∈ p.anc, ∃ e' ∈ lD, e'.i = x := by
        intro x hx
        obtain ⟨ed', he', hb, h6⟩ := ok.anc i o' p hi q1 q2 x hx
        have hdone := hdeps ed' he' hb
        have hlt := ok.back i o' hi q1 ed' he' hb
        obtain ⟨e1, h7, h8⟩ := (hs ed'.on (by omega)).1 hdone
        rcases h6 with rfl | ⟨q, hq, hxq⟩
        · exact ⟨e1, h7, h8⟩
        · exact hanc e1 h7 q (by rw [h8]; exact hq) x hxq
      have epair : ∀ e1 ∈ lD, ∃ o1 p1, ops[e1.i]? = some o1 ∧ pl[e1.i]? = some p1 ∧ PropE P E N bs n0 L e1.i o1 p1 e1 ∧ e1.i ≠ i := by
        intro e1 he1
        obtain ⟨h1, h2⟩ := hmem e1 he1
        obtain ⟨o1, p1, e1', r1, r2, r3, r4⟩ := hprop e1.i h1
        rw [h2] at r3; cases r3
        exact ⟨o1, p1, r1, r2, r4, fun h => hnot ⟨e1, he1, h⟩⟩
      have hdist : ∀ a ∈ lD, ∀ b ∈ lD, a.d = b.d → a = b := by
        intro a ha b hb hab
        obtain ⟨o1, p1, r1, r2, r3, _⟩ := epair a ha
        obtain ⟨o2, p2, t1, t2, t3, _⟩ := epair b hb
        by_cases hne : b.i = a.i
        · exact same (hmem a ha).2 (hmem b hb).2 hne.symm
        · have := (ok.pair a.i b.i o1 p1 o2 p2 (hmem a ha).1 (hmem b hb).1 hne r1 r2 t1 t2).1
          rw [t3.d, r3.d, hab] at this; exact (this rfl).elim
      have hle : (stE bs (fltE p.anc (L.take i).reverse)).le (stE bs lD) := by
        have hin : ∀ e1 ∈ fltE p.anc (L.take i).reverse, e1 ∈ lD := by
          intro e1 he1
          obtain ⟨h1, h2⟩ := fltE_mem.1 he1
          obtain ⟨e2, h3, h4⟩ := hancD e1.i (by simpa using h2)
          obtain ⟨k, hk, hk2⟩ := List.mem_iff_getElem.1 (List.mem_of_mem_take (List.mem_reverse.1 h1))
          have hkn : k < n := by omega
          obtain ⟨_, _, e3, _, _, u3, u4⟩ := hprop k hkn
          have : e3 = e1 := by
            have := List.getElem?_eq_some_iff.1 u3
            exact this.2.symm.trans hk2
          subst this
          have hl : L[e3.i]? = some e3 := by rw [u4.i]; exact u3
          rw [same hl (hmem e2 h3).2 h4.symm]; exact h3
        have hbase : ∀ e1 ∈ lD, dss.contains e1.d = true := by
          intro e1 he1
          obtain ⟨o1, p1, r1, r2, r3, _⟩ := epair e1 he1
          obtain ⟨d, h1, h2⟩ := ok.dst e1.i o1 p1 (hmem e1 he1).1 r1 r2
          rw [r3.d] at h1; cases h1; exact h2
        refine ⟨fun j x hj => ?_, fun j x hj => ?_⟩
        · rcases lk_finM hj with ⟨e1, h1, rfl, rfl⟩ | ⟨_, h2⟩
          · exact finM_get (hin e1 h1) hdist
          · show lk (finM lD bs.m) j = some x
            rw [finM_none (fun e1 he1 h => by have := hbase e1 he1; rw [h, (hbm j x h2).1] at this; cases this)]; exact h2
        · refine finO_get (fun e1 he1 y hy => ?_) ?_
          · obtain ⟨o1, p1, r1, r2, r3, _⟩ := epair e1 he1
            have hk1 := r3.keys _ (lk_mem hy)
            rcases lk_finO hj with ⟨e2, h1, h2⟩ | h2
            · obtain ⟨o2, p2, t1, t2, t3, _⟩ := epair e2 (hin e2 h1)
              have hk2 := t3.keys _ (lk_mem h2)
              by_cases hne : e2.i = e1.i
              · rw [same (hmem e2 (hin e2 h1)).2 (hmem e1 he1).2 hne, hy] at h2; exact Option.some.inj h2
              · have := (ok.pair e1.i e2.i o1 p1 o2 p2 (hmem e1 he1).1 (hmem e2 (hin e2 h1)).1 hne r1 r2 t1 t2).2.2
                simp only at hk1 hk2; omega
            · have := (hbo j x h2).1
              simp only at hk1; omega
          · rcases lk_finO hj with ⟨e2, h1, h2⟩ | h2
            · exact .inl ⟨e2, hin e2 h1, h2⟩
            · exact .inr h2
      have hptot := ok.tot i p hi q2
      refine ⟨o', q1, eg, hfr (stE bs lD) th z a w hle rfl hsim _ _ (fun th' z' a' w' hS => ?_)⟩
      have hnext : ∃ th'', Sim E N (stE bs (e :: lD)) th'' z' a' w' := by
        rw [ed] at hS
        by_cases hk : p.k = 0
        · obtain ⟨rfl, rfl⟩ := hk0 hk
          rw [hk] at hS
          exact ⟨th', hS⟩
        · obtain ⟨rfl, rfl⟩ := hk1 (by omega)
          refine ⟨_, hS.renL (rho bs.n (n0 + p.r) p.k) (rho_lt (by omega)) (by show bs.n + p.k ≤ 1000000000; omega) ?_ ?_ (by rw [rho_len]; rfl) ?_ rho_nodup⟩
          · intro j x hj
            have hj' : lk ((e.d, e.v) :: finM lD bs.m) j = some x := hj
            show lk ((e.d, ren (by_ (rho bs.n (n0 + p.r) p.k)) e.v) :: finM lD bs.m) j = _
            simp only [lk] at hj' ⊢
            split at hj'
            · rename_i h; cases hj'; rw [if_pos h]
            · rename_i h
              rw [if_neg h, hj']
              congr 1
              rcases lk_finM hj' with ⟨e1, h1, _, rfl⟩ | ⟨_, h2⟩
              · obtain ⟨o1, p1, r1, r2, r3, r4⟩ := epair e1 h1
                rcases (ok.pair e1.i i o1 p1 o' p (hmem e1 h1).1 hi (Ne.symm r4) r1 r2 q1 q2).2.1 with h5 | h5 | h5
                · exact (hk h5).elim
                · exact (hnot (hanc e1 h1 p1 r2 i h5)).elim
                · exact (fixU_mem r3.fix h5).1.symm
              · exact ((hbm j x h2).2 _ (fun i hi => by rw [by_rho (by omega), if_neg (by omega)])).symm
          · intro j nd hj
            have hj' : lk (e.o ++ finO lD bs.o) j = some nd := hj
            have eqS : ∀ j, lk (({ stE bs lD with o := mapO (by_ (rho bs.n (n0 + p.r) p.k)) e.o ++ (stE bs lD).o, n := (stE bs lD).n + p.k }.put (some e.d) (ren (by_ (rho bs.n (n0 + p.r) p.k)) e.v)).o) j = lk (mapO (by_ (rho bs.n (n0 + p.r) p.k)) e.o ++ finO lD bs.o) j := fun _ => rfl
            rw [lk_append] at hj'
            split at hj'
            · rename_i y hy; cases hj'
              have hkk := ekeys _ (lk_mem hy)
              simp only at hkk
              refine ⟨bs.n + (j - (n0 + p.r)), by rw [rho_get (by omega), if_pos (by omega)], ?_⟩
              have e1 : by_ (rho bs.n (n0 + p.r) p.k) j = bs.n + (j - (n0 + p.r)) := by rw [by_rho (by omega), if_pos (by omega)]
              rw [eqS, lk_append, ← e1, lk_mapO_get (fun q hq h => by
                have := ekeys q hq
                rw [by_rho (by omega), by_rho (by omega), if_pos (by omega), if_pos (by omega)] at h
                omega) hy]
            · rename_i hy
              have hjn : j < bs.n ∧ ¬ (n0 + p.r ≤ j ∧ j < n0 + p.r + p.k) ∧ renNd (by_ (rho bs.n (n0 + p.r) p.k)) nd = nd := by
                rcases lk_finO hj' with ⟨e1, h1, h2⟩ | h2
                · obtain ⟨o1, p1, r1, r2, r3, r4⟩ := epair e1 h1
                  have hk1 := r3.keys _ (lk_mem h2)
                  have ht1 := ok.tot e1.i p1 (hmem e1 h1).1 r2
                  simp only at hk1
                  have hp := ok.pair e1.i i o1 p1 o' p (hmem e1 h1).1 hi (Ne.symm r4) r1 r2 q1 q2
                  refine ⟨by omega, by have := hp.2.2; omega, ?_⟩
                  rcases hp.2.1 with h5 | h5 | h5
                  · exact (hk h5).elim
                  · exact (hnot (hanc e1 h1 p1 r2 i h5)).elim
                  · exact (fixU_mem r3.fix h5).2 _ (lk_mem h2)
                · obtain ⟨h3, h4⟩ := hbo j nd h2
                  exact ⟨by omega, by omega, h4 _ (fun i hi => by rw [by_rho (by omega), if_neg (by omega)])⟩
              refine ⟨j, by rw [rho_get hjn.1, if_neg hjn.2.1], ?_⟩
              rw [eqS, lk_append, mapO_none (fun q hq h => by
                have := ekeys q hq
                rw [by_rho (by omega), if_pos (by omega)] at h
                omega), hjn.2.2]
              exact hj'
          · intro j hj
            rw [rho_get (by omega), if_neg (by omega)]
      obtain ⟨th'', hS2⟩ := hnext
      refine ih (e :: lD) (s.setIfInBounds i true) th'' z' a' w' (inv.set hir hi) (by simp; omega) ?_ ?_ ?_ ?_ hS2
      · intro e1 he1
        rcases List.mem_cons.1 he1 with rfl | he1
        · rw [ei]; exact ⟨hi, q3⟩
        · exact hmem e1 he1
      · rw [List.map_cons, ei]
        exact List.nodup_cons.2 ⟨fun h => by
          obtain ⟨e1, h1, h2⟩ := List.mem_map.1 h
          exact hnot ⟨e1, h1, h2⟩, hnd⟩
      · intro j hj
        by_cases hij : i = j
        · subst hij
          refine ⟨fun _ => ⟨e, by simp, ei⟩, fun _ => ?_⟩
          have : i < s.size := by rw [inv.size]; have := ok.le; omega
          simp [this]
        · rw [getD_set_ne false hij, hs j hj]
          constructor
          · rintro ⟨e1, h1, h2⟩; exact ⟨e1, by simp [h1], h2⟩
          · rintro ⟨e1, h1, h2⟩
            rcases List.mem_cons.1 h1 with rfl | h1
            · exact (hij (ei.symm.trans h2)).elim
            · exact ⟨e1, h1, h2⟩
      · intro e1 he1 p1 hp1 x hx
        rcases List.mem_cons.1 he1 with rfl | he1
        · rw [ei, q2] at hp1; cases hp1
          obtain ⟨e2, h1, h2⟩ := hancD x hx
          exact ⟨e2, by simp [h1], h2⟩
        · obtain ⟨e2, h1, h2⟩ := hanc e1 he1 p1 hp1 x hx
          exact ⟨e2, by simp [h1], h2⟩
    by_cases hz : ∃ z ∈ zs, z ∈ Region.ready .any ops s
    · obtain ⟨z, hzm, hzr⟩ := hz
      obtain ⟨hzn, oz, hoz, hext, hgz, hfree⟩ := ok.strag z hzm
      obtain ⟨o', q1, _, h1⟩ := body (fun _ _ _ => False) z hzr hzn
      obtain rfl : o' = oz := Option.some.inj (q1.symm.trans hoz)
      obtain ⟨u, hy, hK⟩ := extract_yields (ops := ops) hext hgz h1
      refine wpAny_first hoz (ok.sel (fun h => by rw [h] at hzm; cases hzm)) (fun c a w => hQ c a _ _ w) (f + g) s a w (fun j oj hj hne hun hno => hfree j oj hj hne (fun p hp hja => ?_) hno) hzr hy hK
      obtain ⟨_, o2, ho2, hdeps⟩ := mem_ready.1 hzr
      obtain ⟨ed, he, hb, h6⟩ := ok.anc z o2 p hzn ho2 hp j hja
      have hdone := hdeps ed he hb
      have hlt := ok.back z o2 hzn ho2 ed he hb
      obtain ⟨e1, h7, h8⟩ := (hs ed.on (by omega)).1 hdone
      have hj2 : ∃ e' ∈ lD, e'.i = j := by
        rcases h6 with rfl | ⟨q, hq, hxq⟩
        · exact ⟨e1, h7, h8⟩
        · exact hanc e1 h7 q (by rw [h8]; exact hq) j hxq
      obtain ⟨e2, h9, h10⟩ := hj2
      have := (hs j (by rw [← h10]; exact (hmem e2 h9).1)).2 ⟨e2, h9, h10⟩
      rw [getD_both hun] at this; cases this
    refine ⟨fun h => absurd h hready, fun i hir => ?_⟩
    have hi : i < n := by
      have hex : ∃ i, i < n ∧ ¬ ∃ e ∈ lD, e.i = i := by
        apply Classical.byContradiction
        intro hno
        have := nodup_sub_len (l' := lD.map (·.i)) range (fun i hi => by
          have hi : i < n := by simpa using hi
          have : ∃ e ∈ lD, e.i = i := Classical.byContradiction fun h => hno ⟨i, hi, h⟩
          obtain ⟨e, he, rfl⟩ := this
          exact List.mem_map_of_mem he)
        simp at this; omega
      obtain ⟨i0, hi0⟩ := hex
      obtain ⟨i1, ⟨hi1, hno⟩, hmin⟩ := exists_min (fun i => i < n ∧ ¬ ∃ e ∈ lD, e.i = i) i0 hi0
      obtain ⟨o, p, e, q1, q2, q3, q4⟩ := hprop i1 hi1
      have hr1 : i1 ∈ Region.ready .any ops s := mem_ready.2 ⟨hund i1 hi1 hno, o, q1, fun e he hb => by
        have hlt := ok.back i1 o hi1 q1 e he hb
        refine (hs e.on (by omega)).2 (Classical.byContradiction fun h => ?_)
        have := hmin e.on ⟨by omega, h⟩
        omega⟩
      exact ok.head s inv i1 hi1 (fun h => hz ⟨i1, h, hr1⟩) (hund i1 hi1 hno) i hir
    obtain ⟨o', q1, eg, h1⟩ := body Q i hir hi
    unfold wpOp
    simp only [q1]
    have hw : Region.wanted o' (yielded ops a.tmps) = true := by simp [Region.wanted, eg]
    rw [if_pos hw]
    exact .inl h1
end
end Go.AM
/- The abstract machine, 24: regions that draw their order, where what allocates is not ordered: how they are run. -/
namespace Go.AM
open Go
section
variable {P : Program} {E : Env} {N : Nat} {st : AS}
theorem awp_du {id : Nat} {ops : Array Oper} {AQ : AExit → AS → Prop} {ds : List (Option Nat)} {l l' : List Oper} (hm : P.follows .mixedOrders = true) (n : Nat) (pl : List PU) (tot : Nat) (dss zs : List Nat) (hB : okU ops n pl tot dss zs = true) (hd : dstOK N ops = true) (hds : dsOf ops = ds) (ht : ops.toList.drop n = l') (hh : ops.toList.take n = l)
    {m' : List (Nat × AV)} {M : Nat} (hf : fltM dss st.m = m') (hM : st.n + tot = M) (hbig : M + tot ≤ 1000000000) (hcl : cls st.o = true) (h : ∀ (K : AS → Prop) (kp : AV → AS → Prop), (∀ st', AQ .normal st' → K st') → (∀ x st', AQ (.pan x) st' → kp x st') → exU P E N ds kp l' st.n ⟨m', st.o, M⟩ pl l 0 [] K) : AWP P E N (.region id ops true) st AQ := by
  subst hds ht hh hf
  have h := h (AQ .normal) (fun x st => AQ (.pan x) st) (fun _ h => h) (fun _ _ h => h)
  have ok := okU_spec hB
  intro Q hQ th z a w hs
  let Q' : Exit → Act → World → Prop := fun e a w => match e with
    | .panic c => ∀ a' : Act, a'.defers = a.defers → Q (.panic c) a' w
    | e => Q e a w
  refine wp_mono (Q := Q') ?_ (fun e a w hq => by
    cases e
    case panic c => exact hq a rfl
    all_goals exact hq)
  refine wp_region_any hm ?_
  have hdst := dstOK_spec hd
  obtain ⟨L, _, hL, hprop, htail⟩ := exU_out (N := N) (es := []) (j := 0) rfl (fun o ho => hdst o (List.mem_of_mem_take ho)) (fun p hp => by
    obtain ⟨i, hi⟩ := List.mem_iff_getElem?.1 hp
    have hi' : i < n := by have := (List.getElem?_eq_some_iff.1 hi).1; have := ok.len; omega
    have := ok.tot i p hi' hi
    show st.n + p.r + p.k ≤ M
    omega) h
  have hlen : (ops.toList.take n).length = n := by have := ok.le; simp; omega
  rw [hlen, Nat.zero_add] at hL
  simp only [Nat.zero_add] at hprop
  have hprop' : ∀ j, j < n → ∃ o p e, ops[j]? = some o ∧ pl[j]? = some p ∧ L[j]? = some e ∧ PropE P E N ⟨fltM dss st.m, st.o, M⟩ st.n L j o p e := by
    intro j hj
    obtain ⟨o, p, e, q1, q2, q3, q4⟩ := hprop j (by omega)
    rw [List.getElem?_take_of_lt hj] at q1
    exact ⟨o, p, e, by simpa using q1, q2, q3, q4⟩
  have hs0 := hs.ext (ext_drew w)
  have hm0 := hs.mem.len
  have inv0 : HeadInv .any ops n (Array.replicate ops.size false) :=
    ⟨by simp, fun j oj _ hl => (by rw [getD_replicate_false] at hl; cases hl), fun t _ ht => getD_in (by simpa using ht) (getD_replicate_false _ _)⟩
  have hbase : Sim E N (stE ⟨fltM dss st.m, st.o, M⟩ []) (th ++ List.replicate tot ⟨0, 0, 0, 0, false⟩) z a w.drew :=
    (hs0.more tot).sub (by show M = st.n + tot; omega) (fun i x hi => hi) (fun i x hi => (fltM_lk hi).2)
  have hE : E.th0.length ≤ st.n := by
    apply Classical.byContradiction
    intro hno
    have := hs.mem.pre st.n E.th0[st.n] (by simp [show st.n < E.th0.length by omega])
    have := (List.getElem?_eq_some_iff.1 this).1
    omega
  have key := anyU (Q := Q') (g := ops.size - n) (bs := ⟨fltM dss st.m, st.o, M⟩) (n0 := st.n) ok (fun c a d v w h a2 ha => h a2 (by rw [ha]; cases d <;> rfl)) hL hM.symm hbig hE hprop'
    (fun i x hi => by
      obtain ⟨h1, h2⟩ := fltM_lk hi
      refine ⟨h1, fun f hf => ?_⟩
      obtain ⟨y, _, hr⟩ := hs.slots i x h2
      exact hr.lt (fun i hi => hf i (by omega)))
    (fun i nd hi => by
      obtain ⟨L, h1, h2, _⟩ := hs.mem.nds i nd hi
      exact ⟨by have := (List.getElem?_eq_some_iff.1 h1).1; omega, fun f hf => h2.lt (cls_get hcl hi) (fun i hi => hf i (by omega))⟩)
    (fun lD th' z' a' w' hin hall hsim => by
      have hsub : Sim E N (stE ⟨fltM dss st.m, st.o, M⟩ L.reverse) th' z' a' w' := by
        have hLi : ∀ e ∈ L, L[e.i]? = some e := fun e he => hin e (hall e he)
        have props : ∀ e ∈ L, ∃ o p, e.i < n ∧ ops[e.i]? = some o ∧ pl[e.i]? = some p ∧ PropE P E N ⟨fltM dss st.m, st.o, M⟩ st.n L e.i o p e := by
          intro e he
          have h1 := hLi e he
          have hlt : e.i < n := by have := (List.getElem?_eq_some_iff.1 h1).1; omega
          obtain ⟨o, p, e', q1, q2, q3, q4⟩ := hprop' e.i hlt
          rw [h1] at q3; cases q3
          exact ⟨o, p, hlt, q1, q2, q4⟩
        have back : ∀ e ∈ lD, e ∈ L := fun e he => List.mem_of_getElem? (hin e he)
        have hdist : ∀ a ∈ lD, ∀ b ∈ lD, a.d = b.d → a = b := by
          intro a ha b hb hab
          obtain ⟨o1, p1, l1, r1, r2, r3⟩ := props a (back a ha)
          obtain ⟨o2, p2, l2, t1, t2, t3⟩ := props b (back b hb)
          by_cases hne : b.i = a.i
          · have h1 := hin a ha
            have h2 := hin b hb
            rw [hne, h1] at h2; exact Option.some.inj h2
          · have := (ok.pair a.i b.i o1 p1 o2 p2 l1 l2 hne r1 r2 t1 t2).1
            rw [t3.d, r3.d, hab] at this; exact (this rfl).elim
        refine hsim.sub rfl (fun i x hi => ?_) (fun i x hi => ?_)
        · refine finO_get (fun e1 he1 y hy => ?_) ?_
          · obtain ⟨o1, p1, l1, r1, r2, r3⟩ := props e1 (back e1 he1)
            have hk1 := r3.keys _ (lk_mem hy)
            rcases lk_finO hi with ⟨e2, h1, h2⟩ | h2
            · obtain ⟨o2, p2, l2, t1, t2, t3⟩ := props e2 (List.mem_reverse.1 h1)
              have hk2 := t3.keys _ (lk_mem h2)
              by_cases hne : e2.i = e1.i
              · have g1 := hLi e2 (List.mem_reverse.1 h1)
                have g2 := hin e1 he1
                rw [hne, g2] at g1
                rw [← Option.some.inj g1, hy] at h2; exact Option.some.inj h2
              · have := (ok.pair e1.i e2.i o1 p1 o2 p2 l1 l2 hne r1 r2 t1 t2).2.2
                simp only at hk1 hk2; omega
            · obtain ⟨L', g1, _⟩ := hs.mem.nds i x h2
              have := (List.getElem?_eq_some_iff.1 g1).1
              simp only at hk1; omega
          · rcases lk_finO hi with ⟨e2, h1, h2⟩ | h2
            · exact .inl ⟨e2, hall e2 (List.mem_reverse.1 h1), h2⟩
            · exact .inr h2
        · rcases lk_finM hi with ⟨e2, h1, rfl, rfl⟩ | ⟨h1, h2⟩
          · exact finM_get (hall e2 (List.mem_reverse.1 h1)) hdist
          · show lk (finM lD _) i = _
            rw [finM_none (fun e1 he1 => h1 e1 (List.mem_reverse.2 (back e1 he1)))]; exact h2
      have := wpAny_of_seq (md := .any) (Q' := Q') (ops.toList.drop n) n ((List.range ops.size).map fun i => decide (i < n)).toArray a' w' (fun j => by simp [List.getElem?_drop]) (by simpa using ok.seq)
        (exec_sound (Q := Q') (K := AQ .normal) (kp := fun x st => AQ (.pan x) st) (fun x v st' th' z' a' w' g1 g2 g3 a2 ha => hQ.2.2.2 x v st' th' z' w' g1 g2.mem g3 a2 (ha.trans g2.dfs)) (fun st' th' z' a' w' g1 g2 => hQ.1 st' th' z' a' w' g1 g2) _ (fun o ho => hdst o (List.mem_of_mem_drop ho)) hsub (exec_of htail))
      simpa using this)
    n [] (Array.replicate ops.size false) _ z a w.drew inv0 (by simp) (by simp) (by simp) (fun i hi => by rw [getD_replicate_false]; simp) (by simp) hbase
  have e : n + (ops.size - n) = ops.size := by have := ok.le; omega
  rw [e] at key
  exact key
end
section
variable (P : Program) (E : Env) (N : Nat) (ds : List (Option Nat)) (kp : AV → AS → Prop) (tail : List Oper) (n0 : Nat) (bs : AS) (p : PU) (pl : List PU) (rest : List Oper) (j d : Nat) (es : List En) (K : AS → Prop)
def kontU (v : AV) (oo : List (Nat × Nd)) : Prop := fixU bs.n n0 p.chk v oo ∧ exU P E N ds kp tail n0 bs pl rest (j + 1) (⟨j, d, v, oo⟩ :: es) K
def goUQ (r : SR) : Prop := match r with
  | .val v _ => p.k = 0 ∧ kontU P E N ds kp tail n0 bs p pl rest j d es K v []
  | _ => False
def goUL (r : Option (Prop × TypeId × Nat × Nat × List (List AV))) : Prop := match r with
  | some (c, e, sz, len, els) => c ∧ p.k = 1 ∧ kontU P E N ds kp tail n0 bs p pl rest j d es K (.s (n0 + p.r) 0 len) [(n0 + p.r, .lst e sz els)]
  | none => False
def goUA (T : TypeId) (r : Option TY) : Prop := match r with
  | some ⟨_, _, _, some zs⟩ => p.k = 1 ∧ kontU P E N ds kp tail n0 bs p pl rest j d es K (.p (n0 + p.r) 0 0) [(n0 + p.r, .box T (zs.map .r))]
  | _ => False
def callU (R : AS) (g : Nat) (xs : List AV) : Prop := CallU P E.G R g xs (n0 + p.r) p.k (kontU P E N ds kp tail n0 bs p pl rest j d es K)
def goUC (R : AS) (f : Option AV) (xs : Option (List AV)) : Prop := match f, xs with
  | some (.fn g caps), some xs => callU P E N ds kp tail n0 bs p pl rest j d es K R g (xs ++ caps)
  | _, _ => False
def goU (q : Bool) (R : AS) (op : Op) : Prop := match q with
  | true => goUQ P E N ds kp tail n0 bs p pl rest j d es K (stepR P E.G R op)
  | false => MakesU P E R op (n0 + p.r) p.k (kontU P E N ds kp tail n0 bs p pl rest j d es K)
@[go_sem] theorem exU_nil (pl : List PU) : exU P E N ds kp tail n0 bs pl [] j es K = ex P E N ds kp tail (stE bs es) K := by cases pl <;> rfl
theorem makes_q (R : AS) (op : Op) (h : isQ op = true) (r k : Nat) (kont : AV → List (Nat × Nd) → Prop) : MakesU P E R op r k kont = (match stepR P E.G R op with | .val v _ => k = 0 ∧ kont v [] | _ => False) := by
  have key : ∀ x : Option AV, (match x with | some v => k = 0 ∧ kont v [] | none => False) = (match ofO R x with | .val v _ => k = 0 ∧ kont v [] | _ => False) := by
    intro x; cases x <;> rfl
  cases op
  case call c =>
    obtain ⟨callee, args, ats⟩ := c
    cases callee with
    | value f => simp [isQ] at h
    | builtin b => cases b <;> first | (simp [isQ] at h; done) | (rw [stepR_call_else (by simp) (by simp) (by simp)]; exact key _)
    | invoke a b => simp [isQ] at h
  all_goals first | (simp [isQ] at h; done) | exact key _ | exact key none | rfl
@[go_sem] theorem exU_cons (op : Op) (t : TypeId) (pp : String) (af : Array Edge) : exU P E N ds kp tail n0 bs (p :: pl) (⟨some d, op, t, pp, af, none⟩ :: rest) j es K = goU P E N ds kp tail n0 bs p pl rest j d es K (isQ op) (stE bs (fltE p.anc es)) op := by
  have e : exU P E N ds kp tail n0 bs (p :: pl) (⟨some d, op, t, pp, af, none⟩ :: rest) j es K = MakesU P E (stE bs (fltE p.anc es)) op (n0 + p.r) p.k (kontU P E N ds kp tail n0 bs p pl rest j d es K) := by
    simp only [exU, true_and]; rfl
  rw [e]
  cases h : isQ op
  · rfl
  · exact makes_q P E _ op h _ _ _
@[go_sem] theorem goU_t (R : AS) (op : Op) : goU P E N ds kp tail n0 bs p pl rest j d es K true R op = goUQ P E N ds kp tail n0 bs p pl rest j d es K (stepR P E.G R op) := rfl
@[go_sem] theorem goU_list (R : AS) (T : TypeId) (len : Nat) (ps : Array (Nat × Operand)) : goU P E N ds kp tail n0 bs p pl rest j d es K false R (.buildSlice T len ps) = goUL P E N ds kp tail n0 bs p pl rest j d es K (lstU P E.G R (.buildSlice T len ps)) := rfl
@[go_sem] theorem goU_alloc (R : AS) (T : TypeId) : goU P E N ds kp tail n0 bs p pl rest j d es K false R (.alloc T) = goUA P E N ds kp tail n0 bs p pl rest j d es K T (tyOf P T) := rfl
@[go_sem] theorem goUA_some (T : TypeId) (k1 : TK) (s1 b1 : Nat) (zs : List Value) : goUA P E N ds kp tail n0 bs p pl rest j d es K T (some ⟨k1, s1, b1, some zs⟩) = (p.k = 1 ∧ kontU P E N ds kp tail n0 bs p pl rest j d es K (.p (n0 + p.r) 0 0) [(n0 + p.r, .box T (zs.map .r))]) := rfl
@[go_sem] theorem goU_call (R : AS) (f : Operand) (args : Array Operand) (ats : Array TypeId) : goU P E N ds kp tail n0 bs p pl rest j d es K false R (.call { callee := .value f, args := args, argTypes := ats }) = goUC P E N ds kp tail n0 bs p pl rest j d es K R (ev R E.G f) (evs R E.G args.toList) := rfl
@[go_sem] theorem goUQ_val (v : AV) (s : AS) : goUQ P E N ds kp tail n0 bs p pl rest j d es K (.val v s) = (p.k = 0 ∧ kontU P E N ds kp tail n0 bs p pl rest j d es K v []) := rfl
@[go_sem] theorem goUL_some (c : Prop) (e : TypeId) (sz len : Nat) (els : List (List AV)) : goUL P E N ds kp tail n0 bs p pl rest j d es K (some (c, e, sz, len, els)) = (c ∧ p.k = 1 ∧ kontU P E N ds kp tail n0 bs p pl rest j d es K (.s (n0 + p.r) 0 len) [(n0 + p.r, .lst e sz els)]) := rfl
@[go_sem] theorem goUC_some (R : AS) (g : Nat) (caps xs : List AV) : goUC P E N ds kp tail n0 bs p pl rest j d es K R (some (.fn g caps)) (some xs) = callU P E N ds kp tail n0 bs p pl rest j d es K R g (xs ++ caps) := rfl
@[go_sem] theorem kontU_eq (v : AV) (oo : List (Nat × Nd)) : kontU P E N ds kp tail n0 bs p pl rest j d es K v oo = (fixU bs.n n0 p.chk v oo ∧ exU P E N ds kp tail n0 bs pl rest (j + 1) (⟨j, d, v, oo⟩ :: es) K) := rfl
end
section
variable {P : Program} {E : Env} {N : Nat} {ds : List (Option Nat)} {kp : AV → AS → Prop} {tail : List Oper} {n0 : Nat} {bs : AS} {p : PU} {pl : List PU} {rest : List Oper} {j d : Nat} {es : List En} {K : AS → Prop}
theorem callU_i {R : AS} {g : Nat} {xs ys : List AV} {res : AV} {os : List (Nat × Nd)} {k : Nat} (hc : Con P E.G g ys [] 0 (Is res os k) No) (hb : borL R xs = some ys) (hp : PT res) (hq : ∀ p ∈ os, PTNd p.2)
    (hx : k = p.k ∧ (∀ x ∈ os, x.1 < p.k) ∧ (p.k = 0 → ren (· + R.n) res = ren (· + (n0 + p.r)) res) ∧ (0 < p.k → ren (by_ (rho R.n (n0 + p.r) p.k)) (ren (· + (n0 + p.r)) res) = ren (· + R.n) res ∧ mapO (by_ (rho R.n (n0 + p.r) p.k)) (shO (n0 + p.r) os) = shO R.n os))
    (hk : kontU P E N ds kp tail n0 bs p pl rest j d es K (ren (· + (n0 + p.r)) res) (shO (n0 + p.r) os)) : callU P E N ds kp tail n0 bs p pl rest j d es K R g xs := by
  obtain ⟨rfl, h1, h2, h3⟩ := hx
  exact ⟨ys, res, os, hc, hb, hp, hq, h1, h2, h3, hk⟩
@[go_sem] theorem by_rho_lo {M r k i : Nat} (h : i < M) (h1 : i < r) : by_ (rho M r k) i = i := by rw [by_rho h, if_neg (by omega)]
end
attribute [go_sem] stE finM finO fltE fltM fixU fixO lstU pureL pureA mapO memN true_and and_true cond_true cond_false
end Go.AM
/- The abstract machine, 25: the same laws under short names; what is plain about them is found by itself. -/
namespace Go.AM
open Go
section
variable {P : Program} {E : Env} {N : Nat} {st : AS} {AQ : AExit → AS → Prop}
theorem rR {id : Nat} {ops : Array Oper} (h : ∀ (K : AS → Prop) (kp : AV → AS → Prop), (∀ st', AQ .normal st' → K st') → (∀ x st', AQ (.pan x) st' → kp x st') → ex P E N (dsOf ops) kp ops.toList st K) (hd : dstOK N ops = true := by kernel_rfl) : AWP P E N (.region id ops false) st AQ := awp_r hd h
theorem rD {id : Nat} {ops : Array Oper} {ds : List (Option Nat)} {l l' : List Oper} (hm : P.follows .mixedOrders = true) (n : Nat) (ord : List Nat)
    (h : ∀ (K : AS → Prop) (kp : AV → AS → Prop), (∀ st', AQ .normal st' → K st') → (∀ x st', AQ (.pan x) st' → kp x st') → exD P E N ds kp l' l st K)
    (hB : okDraw ops n ord = true := by kernel_rfl) (hd : dstOK N ops = true := by kernel_rfl) (hg : ((ordOf ops ord).all fun o => isG o.op) = true := by kernel_rfl)
    (hds : dsOf ops = ds := by simp only [go_sem]; rfl) (ht : ops.toList.drop n = l' := by simp only [go_sem]; rfl) (hh : ordOf ops ord = l := by simp only [go_sem]; rfl) : AWP P E N (.region id ops true) st AQ :=
  awp_dr hm n ord hB hd hg hds ht hh h
theorem rX {id : Nat} {ops : Array Oper} {ds : List (Option Nat)} {l l' : List Oper} (hm : P.follows .mixedOrders = true) (ws : List Nat) (n : Nat) (ord : List Nat)
    (h : ∀ (K : AS → Prop) (kp : AV → AS → Prop), (∀ st', AQ .normal st' → K st') → (∀ x st', AQ (.pan x) st' → kp x st') → exX P E N ws ds kp l' l st K)
    (hB : okDraw ops n ord = true := by kernel_rfl) (hd : dstOK N ops = true := by kernel_rfl)
    (hds : dsOf ops = ds := by simp only [go_sem]; rfl) (ht : ops.toList.drop n = l' := by simp only [go_sem]; rfl) (hh : ordOf ops ord = l := by simp only [go_sem]; rfl) (hws : prs ws st = true := by rfl) : AWP P E N (.region id ops true) st AQ :=
  awp_dx hm ws n ord hB hd hds ht hh hws h
theorem rU {id : Nat} {ops : Array Oper} {ds : List (Option Nat)} {l l' : List Oper} {m' : List (Nat × AV)} {M : Nat} (hm : P.follows .mixedOrders = true) (n : Nat) (pl : List PU) (tot : Nat) (dss zs : List Nat)
    (h : ∀ (K : AS → Prop) (kp : AV → AS → Prop), (∀ st', AQ .normal st' → K st') → (∀ x st', AQ (.pan x) st' → kp x st') → exU P E N ds kp l' st.n ⟨m', st.o, M⟩ pl l 0 [] K)
    (hB : okU ops n pl tot dss zs = true := by kernel_rfl) (hd : dstOK N ops = true := by kernel_rfl)
    (hds : dsOf ops = ds := by simp only [go_sem]; rfl) (ht : ops.toList.drop n = l' := by simp only [go_sem]; rfl) (hh : ops.toList.take n = l := by simp only [go_sem]; rfl)
    (hf : fltM dss st.m = m' := by simp only [go_sem]; rfl) (hM : st.n + tot = M := by simp only [go_sem]; rfl) (hbig : M + tot ≤ 1000000000 := by omega) (hcl : cls st.o = true := by rfl) : AWP P E N (.region id ops true) st AQ :=
  awp_du hm n pl tot dss zs hB hd hds ht hh hf hM hbig hcl h
variable {ds : List (Option Nat)} {kp : AV → AS → Prop} {tail rest : List Oper} {K : AS → Prop} {d : Option Nat} {ws : List Nat}
theorem cR {f : Nat} {xs ys : List AV} {res : AV} {os : List (Nat × Nd)} {m : Nat} (hc : Con P E.G f ys [] 0 (Is res os m) No) (hk : ex P E N ds kp rest ({ st with o := shO st.n os ++ st.o, n := st.n + m }.put d (ren (· + st.n) res)) K)
    (hb : borL st xs = some ys := by first | (simp (implicitDefEqProofs := false) (maxSteps := 2000000) (disch := omega) only [go_sem]; first | done | rfl) | rfl | (simp (implicitDefEqProofs := false) (maxSteps := 2000000) (disch := omega) only [go_sem, *, List.map_take, List.map_drop]; first | done | rfl))
    (hp : PT res := by first | (simp [-List.map_drop, -List.map_take]; done) | exact .ro _ _ (pt_map _ _))
    (hq : ∀ p ∈ os, PTNd p.2 := by first | (simp [-List.map_drop, -List.map_take]; done) | (intro _ h; simp only [List.mem_singleton] at h; subst h; exact pt_map _ _)) : callR P E N ds kp rest st K f xs d := callR_i hc hb hp hq hk
theorem cD {f : Nat} {xs ys : List AV} {res : AV} {os : List (Nat × Nd)} {m : Nat} (hc : Con P E.G f ys [] 0 (Is res os m) No) (hk : exD P E N ds kp tail rest ({ st with o := shO st.n os ++ st.o, n := st.n + m }.put d (ren (· + st.n) res)) K)
    (hb : borL st xs = some ys := by first | (simp (implicitDefEqProofs := false) (maxSteps := 2000000) (disch := omega) only [go_sem]; first | done | rfl) | rfl | (simp (implicitDefEqProofs := false) (maxSteps := 2000000) (disch := omega) only [go_sem, *, List.map_take, List.map_drop]; first | done | rfl))
    (hp : PT res := by first | (simp [-List.map_drop, -List.map_take]; done) | exact .ro _ _ (pt_map _ _))
    (hq : ∀ p ∈ os, PTNd p.2 := by first | (simp [-List.map_drop, -List.map_take]; done) | (intro _ h; simp only [List.mem_singleton] at h; subst h; exact pt_map _ _)) : callD P E N ds kp tail rest st K f xs d := callD_i hc hb hp hq hk
theorem cU {n0 : Nat} {bs : AS} {p : PU} {pl : List PU} {j d : Nat} {es : List En} {R : AS} {g : Nat} {xs ys : List AV} {res : AV} {os : List (Nat × Nd)} {k : Nat} (hc : Con P E.G g ys [] 0 (Is res os k) No)
    (hk : kontU P E N ds kp tail n0 bs p pl rest j d es K (ren (· + (n0 + p.r)) res) (shO (n0 + p.r) os))
    (hb : borL R xs = some ys := by first | (simp (implicitDefEqProofs := false) (maxSteps := 2000000) (disch := omega) only [go_sem]; first | done | rfl) | rfl | (simp (implicitDefEqProofs := false) (maxSteps := 2000000) (disch := omega) only [go_sem, *, List.map_take, List.map_drop]; first | done | rfl))
    (hp : PT res := by first | (simp [-List.map_drop, -List.map_take]; done) | exact .ro _ _ (pt_map _ _))
    (hq : ∀ p ∈ os, PTNd p.2 := by first | (simp [-List.map_drop, -List.map_take]; done) | (intro _ h; simp only [List.mem_singleton] at h; subst h; exact pt_map _ _))
    (hx : k = p.k ∧ (∀ x ∈ os, x.1 < p.k) ∧ (p.k = 0 → ren (· + R.n) res = ren (· + (n0 + p.r)) res) ∧ (0 < p.k → ren (by_ (rho R.n (n0 + p.r) p.k)) (ren (· + (n0 + p.r)) res) = ren (· + R.n) res ∧ mapO (by_ (rho R.n (n0 + p.r) p.k)) (shO (n0 + p.r) os) = shO R.n os) := by simp (disch := omega) [go_sem]) :
    callU P E N ds kp tail n0 bs p pl rest j d es K R g xs := callU_i hc hb hp hq hx hk
variable {op : Op} {b w : Bool}
theorem aG (h1 : b = true → goG P E N ds kp rest st K (.ask true w) d op) (h2 : b = false → goG P E N ds kp rest st K (.ask false w) d op) : goG P E N ds kp rest st K (.ask b w) d op := goG_ask h1 h2
theorem aD (h1 : b = true → goGD P E N ds kp tail rest st K (.ask true w) d op) (h2 : b = false → goGD P E N ds kp tail rest st K (.ask false w) d op) : goGD P E N ds kp tail rest st K (.ask b w) d op := goGD_ask h1 h2
theorem iG {g : GV} (h : goG P E N ds kp rest st K g d op) : goG P E N ds kp rest st K g d op := h
theorem iD {g : GV} (h : goGD P E N ds kp tail rest st K g d op) : goGD P E N ds kp tail rest st K g d op := h
theorem eN {x y : AV} (hE : E.th0.length = 0) (hx : x = ren (by_ []) y) (hb : st.n ≤ 1000000000 := by simp) : EmbS E N st x [] 0 y := (embV_nil hE hb hx).s
end
theorem ifs : (∀ (p : Prop) [Decidable p], (decide p = true) = p) ∧ (∀ (p : Prop) [Decidable p], (decide p = false) = ¬ p) ∧ (∀ a b : Int, (¬ a < b) = (b ≤ a)) ∧ (∀ a b : Int, (¬ a ≤ b) = (b < a)) ∧ (∀ b : Bool, (¬ b = true) = (b = false)) ∧ (∀ b : Bool, (¬ b = false) = (b = true)) ∧
    (∀ a b : Int, ((a != b) = true) = ¬ a = b) ∧ (∀ a b : Int, ((a == b) = true) = (a = b)) ∧ (∀ a b : Int, ((a != b) = false) = (a = b)) ∧ (∀ a b : Int, ((a == b) = false) = ¬ a = b) := by
  refine ⟨fun p _ => by simp, fun p _ => by simp, fun a b => by simp, fun a b => by simp, fun b => by simp, fun b => by simp, fun a b => by simp, fun a b => by simp, fun a b => by simp, fun a b => by simp⟩
end Go.AM
/- The abstract machine, 27: regions that draw their order: moves that may come late are taken first. -/
namespace Go.AM
open Go
section
variable {P : Program} {ops : Array Oper} {Q : Exit → Act → World → Prop} {n : Nat} {L : Array Bool → Act → World → Prop}
theorem getD_set_self (s : Array Bool) (i : Nat) : (s.setIfInBounds i true).getD i true = true := by
  rcases Nat.lt_or_ge i s.size with h | h
  · simp [Array.getD_eq_getD_getElem?, h]
  · rw [Array.getD_eq_getD_getElem?, Array.getElem?_eq_none (by simpa using h)]; rfl
/-- These have come up. -/
def Did (fs : List Nat) (s : Array Bool) : Prop := ∀ f ∈ fs, s.getD f true = true
theorem Did.set {fs : List Nat} {s : Array Bool} (h : Did fs s) (i : Nat) : Did fs (s.setIfInBounds i true) := by
  intro f hf
  by_cases e : i = f
  · subst e; exact getD_set_self _ _
  · rw [getD_set_ne true e]; exact h f hf
theorem anyE_firstF {fs : List Nat} {i : Nat} {oi : Oper} {v : Value} (hi : ops[i]? = some oi) (hsel : ∀ (j : Nat) (o : Oper) cs b, ops[j]? = some o → o.op ≠ .select cs b)
    (hQ : ∀ c a w, Q (.panic c) (a.put oi.dst v) w → Q (.panic c) a w) (hlt : ∀ s, HeadInv .any ops n s → Did fs s → ∀ i, i < n → s.getD i true = false → ∀ j ∈ Region.ready .any ops s, j < n) (hin : i < n)
    (hdone : ∀ s a w, L s a w → ∀ j ∈ Region.ready .any ops s, n ≤ j) : ∀ (f : Nat) (s : Array Bool) (a : Act) (w : World), HeadInv .any ops n s → Did fs s →
      (∀ j oj, ops[j]? = some oj → j ≠ i → s.getD j true = false → (∀ e ∈ oj.after, Region.binds .any e = true → e.on ≠ i) → oi.apart ops oj = true) →
      i ∈ Region.ready .any ops s → YieldsIf P ops (Ext w) oi v a → anyE P ops Q n L f (s.setIfInBounds i true) (a.put oi.dst v) w → anyE P ops Q n L (f + 1) s a w := by
  intro f
  induction f with
  | zero =>
    intro s a w inv did _ hr hy H
    refine ⟨fun h => (by rw [h] at hr; cases hr), fun j hj => ?_⟩
    have hjn : j < n := hlt s inv did i hin (mem_ready.1 hr).1 j hj
    by_cases hji : j = i
    · subst hji; exact ⟨hjn, hy.wpOp hi (Ext.refl w) ⟨Ext.refl w, H⟩⟩
    · have := hdone _ _ _ H j (ready_mono hj hji)
      omega
  | succ f ih =>
    intro s a w inv did hfree hr hy H
    refine ⟨fun h => (by rw [h] at hr; cases hr), fun j hj => ?_⟩
    have hjn : j < n := hlt s inv did i hin (mem_ready.1 hr).1 j hj
    refine ⟨hjn, ?_⟩
    by_cases hji : j = i
    · subst hji; exact hy.wpOp hi (Ext.refl w) ⟨Ext.refl w, H⟩
    · have h1 := (H.2 j (ready_mono hj hji)).2
      obtain ⟨hjun, oj, hoj, hall⟩ := mem_ready.1 hj
      have hiun := (mem_ready.1 hr).1
      have hnot : ∀ e ∈ oj.after, Region.binds .any e = true → e.on ≠ i := fun e he hb heq => by
        have h2 := hall e he hb
        rw [heq, getD_both hiun] at h2
        cases h2
      have h2 := wpOp_putIf hoj (hfree j oj hoj hji hjun hnot) (fun cs b => hsel i oi cs b hi) (fun cs b => hsel j oj cs b hoj) hQ hy h1
      refine wpOp_mono (fun a' w' h3 => ⟨h3.2.1, ih _ a' w' (inv.set hj hjn) (did.set j) (fun k ok hk hki hun hno => hfree k ok hk hki ?_ hno) (ready_mono hr (Ne.symm hji)) (yields_ext h3.1 h3.2.1) ?_⟩) h2
      · by_cases hjk : j = k
        · subst hjk; exact hjun
        · rwa [getD_set_ne true hjk] at hun
      · rw [Array.setIfInBounds_comm _ _ hji]
        exact h3.2.2
end
section
variable {P : Program} {E : Env} {N : Nat} {st : AS} {th : List NLoc} {z : Zone} {a : Act} {w : World} {AQ : AExit → AS → Prop}
theorem execD_soundF {ops : Array Oper} {kp : AV → AS → Prop} {Q : Exit → Act → World → Prop} {K : AS → Prop} {n : Nat} {fs : List Nat} (hQ : ∀ c a d v w, Q (.panic c) (a.put d v) w → Q (.panic c) a w)
    (hp : ∀ x v st' th' z' a' w', kp x st' → Sim E N st' th' z' a' w' → Rep w' z' th' x v → Q (.panic [{ v := v, recovered := false }]) a' w')
    (hK : ∀ st' th' z' a' w', K st' → Sim E N st' th' z' a' w' → Q .normal a' w') (hd : ∀ o ∈ ops.toList, ∀ i, o.dst = some i → i < N)
    (h1 : Region.noSelect ops = true) (h2 : ∀ s, HeadInv .any ops n s → Did fs s → ∀ i, i < n → s.getD i true = false → ∀ j ∈ Region.ready .any ops s, j < n) :
    ∀ (ord : List Nat) {s : Array Bool} {st : AS} {th : List NLoc} {z : Zone} {a : Act} {w : World}, HeadInv .any ops n s → Did fs s → okOrd ops n ord s = true → Sim E N st th z a w → execD P E N (dsOf ops) kp (ops.toList.drop n) (ordOf ops ord) st K → anyE P ops Q n (tailE P ops Q n) ord.length s a w
  | [], s, st, th, z, a, w, inv, did, ho, h, hx => ⟨ho, exec_sound hp hK _ (fun o ho => hd o (List.mem_of_mem_drop ho)) h hx⟩
  | i :: rest, s, st, th, z, a, w, inv, did, ho, h, hx => by
    simp only [okOrd, Bool.and_eq_true, decide_eq_true_eq] at ho
    obtain ⟨⟨hin, ho1⟩, ho2⟩ := ho
    cases hi : ops[i]? with
    | none => rw [hi] at ho1; simp at ho1
    | some o =>
      simp only [ordOf, List.filterMap_cons, hi] at hx
      unfold execD at hx
      change branch _ (stepG P E N st o.op (fun v st' => execD P E N (dsOf ops) kp (ops.toList.drop n) (ordOf ops rest) (st'.put o.dst v) K) kp) (execD P E N (dsOf ops) kp (ops.toList.drop n) (ordOf ops rest) (st.put o.dst (.r (.tuple #[]))) K) at hx
      have hmem : o ∈ ops.toList := Array.mem_toList_iff.2 (Array.mem_of_getElem? hi)
      have hdo := hd o hmem
      simp only [hi] at ho1
      have ih : ∀ {s : Array Bool} {st : AS} {th : List NLoc} {z : Zone} {a : Act} {w : World}, HeadInv .any ops n s → Did fs s → okOrd ops n rest s = true → Sim E N st th z a w → execD P E N (dsOf ops) kp (ops.toList.drop n) (ordOf ops rest) st K → anyE P ops Q n (tailE P ops Q n) rest.length s a w :=
        execD_soundF hQ hp hK hd h1 h2 rest
      have guard := guard_sound h hx
      split at ho1
      · rename_i hq
        simp only [Bool.and_eq_true] at ho1
        obtain ⟨hr, hf⟩ := ho1
        have hr' : i ∈ Region.ready .any ops s := by simpa using hr
        rcases guard with ⟨hw, hs⟩ | ⟨hw, hs⟩
        · obtain ⟨x, hqv, hs⟩ := stepG_quiet hq hs
          obtain ⟨v, hrep, hrun⟩ := qv_sound h o hqv
          exact anyE_firstF hi (Region.noSelect_spec h1) (fun c a w => hQ c a _ _ w) h2 hin (fun s a w hL => seqB_ready hL.1) _ s a w inv did (Region.free_spec hi hf) hr' (.inl ⟨hw, fun w' e => hrun w' (e.sameK h)⟩)
            (ih (inv.set hr' hin) (did.set i) ho2 (h.put hrep o.dst hdo) hs)
        · exact anyE_firstF hi (Region.noSelect_spec h1) (fun c a w => hQ c a _ _ w) h2 hin (fun s a w hL => seqB_ready hL.1) _ s a w inv did (Region.free_spec hi hf) hr' (.inr ⟨hw, rfl⟩)
            (ih (inv.set hr' hin) (did.set i) ho2 (h.put (.r th undef) o.dst hdo) hs)
      · simp only [decide_eq_true_eq] at ho1
        have hr' : i ∈ Region.ready .any ops s := by rw [ho1]; simp
        refine ⟨fun h0 => (by rw [h0] at hr'; cases hr'), fun j hj => ?_⟩
        rw [ho1] at hj
        obtain rfl : j = i := by simpa using hj
        refine ⟨hin, ?_⟩
        unfold wpOp
        simp only [hi]
        rcases guard with ⟨hw, hs⟩ | ⟨hw, hs⟩
        · rw [if_pos hw]
          exact .inl (stepG_sound h o hs hdo (fun x st' th' z' a' w' g1 g2 g3 => ⟨g3, ih (inv.set hr' hin) (did.set j) ho2 g2 g1⟩) (fun x v st' th' z' w' g1 g2 g3 => hp x v st' th' z' a w' g1 g2 g3))
        · rw [if_neg (by rw [hw]; exact Bool.false_ne_true)]
          exact ⟨Ext.refl w, ih (inv.set hr' hin) (did.set j) ho2 (h.put (.r th undef) o.dst hdo) hs⟩
/-- Moves, one behind the other. -/
def movF (G : List (Nat × List Value)) : List Oper → AS → Option AS
  | [], st => some st
  | ⟨d, .move x, _, _, _, none⟩ :: r, st => match ev st G x with
    | some v => movF G r (st.put d v)
    | none => none
  | _ :: _, _ => none
def okF (ops : Array Oper) (n : Nat) : List Nat → Array Bool → Bool
  | [], _ => true
  | i :: r, s => decide (i < n) && (ops[i]?).isSome && (Region.ready .any ops s).contains i && Region.free .any ops s i && okF ops n r (s.setIfInBounds i true)
def allF (fs : List Nat) (s : Array Bool) : Array Bool := fs.foldl (fun s i => s.setIfInBounds i true) s
def okDrawF (ops : Array Oper) (n : Nat) (fs ord : List Nat) : Bool :=
  Region.noSelect ops && sinkZ ops n fs && Region.chainB .any ops n && decide (n < ops.size) && decide (fs.length + ord.length = n) && okF ops n fs (Array.replicate ops.size false) && okOrd ops n ord (allF fs (Array.replicate ops.size false))
theorem allF_did {fs : List Nat} : ∀ {gs : List Nat} {s : Array Bool}, (∀ f ∈ fs, f ∈ gs ∨ s.getD f true = true) → Did fs (allF gs s)
  | [], s, h => fun f hf => (h f hf).elim (fun h => by cases h) id
  | i :: r, s, h => by
    show Did fs (allF r (s.setIfInBounds i true))
    refine allF_did fun f hf => ?_
    rcases h f hf with h1 | h1
    · rcases List.mem_cons.1 h1 with rfl | h1
      · exact .inr (getD_set_self _ _)
      · exact .inl h1
    · refine .inr ?_
      by_cases e : i = f
      · subst e; exact getD_set_self _ _
      · rw [getD_set_ne true e]; exact h1
theorem take_F {ops : Array Oper} {Q : Exit → Act → World → Prop} {n g : Nat} (hQ : ∀ c a d v w, Q (.panic c) (a.put d v) w → Q (.panic c) a w) (hsel : Region.noSelect ops = true) (hd : ∀ o ∈ ops.toList, ∀ i, o.dst = some i → i < N) :
    ∀ (fs : List Nat) {s : Array Bool} {st st1 : AS} {a : Act}, okF ops n fs s = true → HeadInv .any ops n s → Sim E N st th z a w → movF E.G (ordOf ops fs) st = some st1 →
      (∀ a', HeadInv .any ops n (allF fs s) → Sim E N st1 th z a' w → wpAny P .any ops Q g (allF fs s) a' w) → wpAny P .any ops Q (fs.length + g) s a w
  | [], s, st, st1, a, _, inv, h, hm, hk => by
    simp only [ordOf, List.filterMap_nil, movF, Option.some.injEq] at hm
    subst hm
    have h0 := hk a inv h
    rw [List.length_nil, Nat.zero_add]
    exact h0
  | i :: r, s, st, st1, a, ho, inv, h, hm, hk => by
    simp only [okF, Bool.and_eq_true, decide_eq_true_eq] at ho
    obtain ⟨⟨⟨⟨hin, hsome⟩, hr⟩, hf⟩, ho2⟩ := ho
    obtain ⟨o, hi⟩ := Option.isSome_iff_exists.1 hsome
    have hr' : i ∈ Region.ready .any ops s := by simpa using hr
    have hmem : o ∈ ops.toList := Array.mem_toList_iff.2 (Array.mem_of_getElem? hi)
    simp only [ordOf, List.filterMap_cons, hi] at hm
    obtain ⟨d, op, ty, pos, aft, gd⟩ := o
    unfold movF at hm
    split at hm
    · rename_i hq; cases hq
    · rename_i x d' x' t' p' af' r' e1
      simp only [List.cons.injEq, Oper.mk.injEq] at e1
      obtain ⟨⟨rfl, rfl, rfl, rfl, rfl, rfl⟩, rfl⟩ := e1
      split at hm
      · rename_i v hv
        rw [show (i :: r).length + g = (r.length + g) + 1 by simp; omega]
        refine wpAny_take (v := a.eval x') hi hsel hf hr (fun c a w => hQ c a _ _ w) (.inl ⟨by simp [Region.wanted], fun w' => by simp [execOp]⟩) ?_
        exact take_F hQ hsel hd r ho2 (inv.set hr' hin) (h.put (ev_sound h hv) _ (hd _ hmem)) hm hk
      · cases hm
    · cases hm
theorem awp_df {id : Nat} {ops : Array Oper} {ds : List (Option Nat)} {l l' lf : List Oper} {st1 : AS} (hm : P.follows .mixedOrders = true) (n : Nat) (fs ord : List Nat) (hB : okDrawF ops n fs ord = true) (hd : dstOK N ops = true)
    (hds : dsOf ops = ds) (ht : ops.toList.drop n = l') (hh : ordOf ops ord = l) (hf : ordOf ops fs = lf) (hv : movF E.G lf st = some st1) (h : execD P E N ds (fun x st => AQ (.pan x) st) l' l st1 (AQ .normal)) : AWP P E N (.region id ops true) st AQ := by
  subst hds ht hh hf
  intro Q hQ th z a w hs
  simp only [okDrawF, Bool.and_eq_true, decide_eq_true_eq] at hB
  obtain ⟨⟨⟨⟨⟨⟨b1, b2⟩, b3⟩, b4⟩, b5⟩, b6⟩, b7⟩ := hB
  have hlt : ∀ s, HeadInv .any ops n s → Did fs s → ∀ i, i < n → s.getD i true = false → ∀ j ∈ Region.ready .any ops s, j < n := by
    intro s inv did i hi hs j hj
    by_cases h : j < n
    · exact h
    · have hz : i ∉ fs := fun hz => by rw [did i hz] at hs; cases hs
      exact absurd hj (tail_waitsZ b2 b3 b4 inv _ i rfl hi hz hs j (by omega))
  let Q' : Exit → Act → World → Prop := fun e a w => match e with
    | .panic c => ∀ a' : Act, a'.defers = a.defers → Q (.panic c) a' w
    | e => Q e a w
  refine wp_mono (Q := Q') ?_ (fun e a w hq => by
    cases e
    case panic c => exact hq a rfl
    all_goals exact hq)
  have hQ' : ∀ c a d v w, Q' (.panic c) (a.put d v) w → Q' (.panic c) a w := fun c a d v w hq a' ha => hq a' (by rw [ha]; cases d <;> rfl)
  have inv0 : HeadInv .any ops n (Array.replicate ops.size false) :=
    ⟨by simp, fun j oj _ hl => (by rw [getD_replicate_false] at hl; cases hl), fun t _ ht => getD_in (by simpa using ht) (getD_replicate_false _ _)⟩
  refine wp_region_any hm ?_
  rw [show ops.size = fs.length + (ord.length + (ops.size - n)) by omega]
  refine take_F (P := P) (n := n) (E := E) (N := N) (th := th) (z := z) (g := ord.length + (ops.size - n)) hQ' b1 (dstOK_spec hd) fs (st1 := st1) (by rw [show fs.length + (ord.length + (ops.size - n)) = ops.size by omega]; exact b6) (by rw [show fs.length + (ord.length + (ops.size - n)) = ops.size by omega]; exact inv0) (hs.ext (ext_drew w)) hv (fun a' inv hsim => ?_)
  have did : Did fs (allF fs (Array.replicate ops.size false)) := allF_did fun f hf => .inl hf
  rw [show fs.length + (ord.length + (ops.size - n)) = ops.size by omega] at inv ⊢
  have key := execD_soundF (Q := Q') (K := AQ .normal) (kp := fun x st => AQ (.pan x) st) (P := P) (fs := fs) hQ' (fun x v st' th' z' a' w' g1 g2 g3 a2 ha => hQ.2.2.2 x v st' th' z' w' g1 g2.mem g3 a2 (ha.trans g2.dfs))
    (fun st' th' z' a' w' g1 g2 => hQ.1 st' th' z' a' w' g1 g2) (dstOK_spec hd) b1 hlt ord inv did b7 hsim h
  exact anyE_out (g := ops.size - n) (fun s a w hL => by
    have := wpAny_of_seq (md := .any) (Q' := Q') (ops.toList.drop n) n s a w (fun j => by simp [List.getElem?_drop]) (by simpa using hL.1) hL.2
    simpa using this) _ _ _ _ key
end
section
variable {P : Program} {E : Env} {N : Nat} {st : AS} {AQ : AExit → AS → Prop}
attribute [go_sem] movF
theorem rF {id : Nat} {ops : Array Oper} {ds : List (Option Nat)} {l l' lf : List Oper} {st1 : AS} (hm : P.follows .mixedOrders = true) (n : Nat) (fs ord : List Nat)
    (h : ∀ (K : AS → Prop) (kp : AV → AS → Prop), (∀ st', AQ .normal st' → K st') → (∀ x st', AQ (.pan x) st' → kp x st') → exD P E N ds kp l' l st1 K)
    (hB : okDrawF ops n fs ord = true := by kernel_rfl) (hd : dstOK N ops = true := by kernel_rfl) (hg : ((ordOf ops ord).all fun o => isG o.op) = true := by kernel_rfl)
    (hds : dsOf ops = ds := by simp only [go_sem]; rfl) (ht : ops.toList.drop n = l' := by simp only [go_sem]; rfl) (hh : ordOf ops ord = l := by simp only [go_sem]; rfl) (hf : ordOf ops fs = lf := by simp only [go_sem]; rfl)
    (hv : movF E.G lf st = some st1 := by simp only [go_sem]; rfl) : AWP P E N (.region id ops true) st AQ :=
  awp_df hm n fs ord hB hd hds ht hh hf hv (execD_of (by rw [← hh]; exact hg) (h _ _ (fun _ h => h) (fun _ _ h => h)))
end
end Go.AM
/- The abstract machine, 26: the same thing under another description: a nil slice in a box as an own list. -/
namespace Go.AM
open Go
section
variable {P : Program} {E : Env} {N : Nat} {st : AS} {th : List NLoc} {z : Zone} {a : Act} {w : World}
theorem Reps.set_at {c : List AV} {ys : List Value} (h : Reps w z th c ys) {j : Nat} {x : AV} (hx : ∀ y, ys[j]? = some y → Rep w z th x y) : Reps w z th (c.set j x) ys := by
  refine ⟨by simp [h.1], fun i u y h1 h2 => ?_⟩
  rw [List.getElem?_set] at h1
  split at h1
  · rename_i e; subst e
    split at h1
    · cases h1; exact hx y h2
    · cases h1
  · exact h.2 i u y h1 h2
/-- A nil slice in a box as an own list without elements. -/
theorem emb_nilB (n j : Nat) (T : TypeId) (k : Nat) {T' : TypeId} {c : List AV} (h : lk st.o n = some (.box T' c)) (hj : c[j]? = some (.r (.slice none 0 0))) (hne : n < st.n) :
    Emb E N st { m := st.m, o := (n, .box T' (c.set j (.s st.n 0 0))) :: (st.n, .lst T k []) :: st.o, n := st.n + 1 } := by
  intro th z a w hs
  have hk := hs.know ⟨0, 0, 0, 0, true⟩ (.lst T k []) (fun hp => by cases hp) (fun _ _ _ _ _ _ hp => by cases hp) (.inl ⟨rfl, rfl⟩) (.inl rfl)
  have hl : lk (putNd st (.lst T k [])).o n = some (.box T' c) := by simp only [putNd, lk]; rw [if_neg (by omega)]; exact h
  refine ⟨_, z, hk.say hl (fun L hL hn => ?_)⟩
  obtain ⟨hp, cells, fr, h1, h2, h3, h4⟩ := hn
  refine ⟨hp, cells, fr, h1, h2, h3, h4.set_at fun y hy => ?_⟩
  obtain ⟨y', hy', hr⟩ := h4.get hj
  rw [hy] at hy'; cases hy'
  rw [show y = .slice none 0 0 from hr.r_inv]
  exact .sn _ _ 0 _ (hs.get_new _) rfl
end
end Go.AM
/- The abstract machine, 19: slices that came in, as what is read. -/
namespace Go.AM
open Go Go.ChangeShapes Go.WideShapes Go.ChangeAt Go.RowKit
theorem add_none_ (a : Addr) (n : Nat) (h : a.spot = none) : a.add n = ⟨a.block, a.off + n, none⟩ := by
  unfold Addr.add
  split
  · rename_i h0; subst h0; cases a; simp_all
  · rfl
/-- All that lies. -/
def zAll (w : World) : Zone := fun _ b => b < w.heap.size
theorem open_ro {H α : Type} {E : TypeId × Value → H} {P : Program} {w : World} {base : Nat} {spare : Nat → Bool} {held : Bool} {k fuel : Nat} {t e : TypeId} {cs : List Value} {x : DataW H × List MemPlace}
    (enc : α → List AV) (R : α → DataW H → Prop) (tt : Bool) (ht : P.underlying t = some (.slice e)) (hk : P.cellsOf e = k) (hk0 : 0 < k)
    (leaf : ∀ fuel cs x, DataW.trod E P w base spare held fuel e cs = some x → ∃ y, Reps w (zAll w) [] (enc y) cs ∧ (∀ v ∈ cs, v.oneCell' = true) ∧ R y x.1)
    (h : DataW.trod E P w base spare held fuel t cs = some x) :
    ∃ (v : Value) (l : List α), cs = [v] ∧ Rep w (zAll w) [] (.ro tt k (l.map enc)) v ∧ v.oneCell' = true ∧
      ((l = [] ∧ x.1 = .nil) ∨ ∃ ds rest, x.1 = .slice ds rest ∧ ds.length = l.length ∧ ∀ (i : Nat) y, l[i]? = some y → ∃ d, ds[i]? = some d ∧ R y d) := by
  rcases DataW.trod_slice ht h with ⟨rfl, rfl⟩ | ⟨a, len, cap, elems, rest, n, _, rfl, rfl, hb, hl, hm, hlen, hel, -, -⟩
  · exact ⟨_, [], rfl, .nil _ _ _ _ _, rfl, .inl ⟨rfl, rfl⟩⟩
  have hy : ∀ i : Fin len, ∃ y cs', w.cells? base (a.add (i.1 * k)) k = some cs' ∧ Reps w (zAll w) [] (enc y) cs' ∧ (∀ v ∈ cs', v.oneCell' = true) ∧ ∃ d, (elems.map (·.1))[i.1]? = some d ∧ R y d := fun ⟨i, hi⟩ => by
    have h1 := hel i hi
    rw [List.getElem?_eq_getElem (by omega), hk] at h1
    obtain ⟨cs', h2, h3⟩ := Option.bind_eq_some_iff.1 h1
    obtain ⟨y, h4, h5, hR⟩ := leaf _ _ _ h3
    exact ⟨y, cs', h2, h4, h5, _, by simp [show i < elems.length by omega], hR⟩
  obtain ⟨f, hf⟩ := Classical.axiomOfChoice hy
  obtain ⟨g, hg⟩ := Classical.axiomOfChoice hf
  refine ⟨_, List.ofFn f, rfl, ?_, rfl, .inr ⟨_, _, rfl, by simp [hlen], fun i y hi => ?_⟩⟩
  · by_cases h0 : len = 0
    · subst h0; simp only [List.ofFn_zero, List.map_nil]; exact .nil _ _ _ _ _
    have c0 := hg ⟨0, by omega⟩
    obtain ⟨_, l0, g0⟩ := World.cells?_some c0.1
    have g1 := g0 0 hk0
    rw [List.getElem?_eq_getElem (by omega)] at g1
    have hs : a.spot = none := by
      simp only [Nat.zero_mul] at g1
      have e0 : (a.add 0).add 0 = a := by simp [Addr.add]
      rw [e0] at g1
      unfold World.cell? at g1
      split at g1
      · split at g1
        · cases g1
        · rename_i h5; simpa using h5
      · cases g1
    have hlt : a.block < w.heap.size := by
      have := World.block_lt_of_cell? _ _ g1
      simpa [Addr.add] using this
    have ha : a = ⟨a.block, a.off, none⟩ := by cases a; simp_all
    have hlk : ∀ i : Fin len, (g i).length = k := fun i => (World.cells?_some (hg i).1).2.1
    have hmem : ∀ (i : Nat) (e : List AV), ((List.ofFn f).map enc)[i]? = some e → ∃ h : i < len, e = enc (f ⟨i, h⟩) := by
      intro i e hi
      rw [List.getElem?_map, List.getElem?_ofFn] at hi
      split at hi
      · rename_i h; exact ⟨h, by simpa using hi.symm⟩
      · simp at hi
    have key : ∀ (i : Nat) (e : List AV) (j : Nat) (x : AV), ((List.ofFn f).map enc)[i]? = some e → e[j]? = some x → ∃ (h : i < len) (y : Value), (g ⟨i, h⟩)[j]? = some y ∧ Rep w (zAll w) [] x y ∧ w.cell? ⟨a.block, a.off + i * k + j, none⟩ = some y := by
      intro i e j x hi hj
      obtain ⟨h, rfl⟩ := hmem i e hi
      obtain ⟨y, h1, h2⟩ := (hg ⟨i, h⟩).2.1.get hj
      refine ⟨h, y, h1, h2, ?_⟩
      obtain ⟨_, l1, g2⟩ := World.cells?_some (hg ⟨i, h⟩).1
      have hj' : j < k := by rw [← hlk ⟨i, h⟩]; exact (List.getElem?_eq_some_iff.1 h1).1
      have g3 := g2 j hj'
      rw [add_none_ a _ hs, add_none_ _ _ rfl] at g3
      rw [← h1, ← g3]
    have hlen2 : ((List.ofFn f).map enc).length = len := by simp
    let ys : Nat → Nat → Value := fun i j => if h : i < len then ((g ⟨i, h⟩)[j]?).getD undef else undef
    have hys : ∀ {i j : Nat} (h : i < len) {y : Value}, (g ⟨i, h⟩)[j]? = some y → ys i j = y := by
      intro i j h y hy; simp only [ys]; rw [dif_pos h, hy]; rfl
    have hro := Rep.ro (w := w) (z := zAll w) [] tt k ((List.ofFn f).map enc) a.block a.off cap ys hlt (by rw [hlen2]; exact hl) (fun i e hi => by obtain ⟨h, rfl⟩ := hmem i e hi; rw [← (hg ⟨i, h⟩).2.1.1]; exact hlk _)
      (fun i e j x hi hj => by obtain ⟨h, y, h1, _, h3⟩ := key i e j x hi hj; rw [hys h h1]; exact h3)
      (fun i e j x hi hj => by obtain ⟨h, y, h1, _, _⟩ := key i e j x hi hj; rw [hys h h1]; exact (hg ⟨i, h⟩).2.2.1 y (List.mem_of_getElem? h1))
      (fun i e j x hi hj => by obtain ⟨h, y, h1, h2, _⟩ := key i e j x hi hj; rw [hys h h1]; exact h2)
    rw [hlen2, ← ha] at hro
    exact hro
  · obtain ⟨hi', rfl⟩ : ∃ h : i < len, f ⟨i, h⟩ = y := by
      rw [List.getElem?_ofFn] at hi
      split at hi
      · rename_i h; exact ⟨h, by simpa using hi⟩
      · cases hi
    exact (hg ⟨i, hi'⟩).2.2.2
theorem rep1 {w : World} {z : Zone} {th : List NLoc} {x : AV} {v : Value} (h : Rep w z th x v) : Reps w z th [x] [v] := .cons h .nil
end Go.AM
/- The abstract machine, 20: contracts of the old form; arguments that say less. -/
namespace Go.AM
open Go
section
variable {P : Program}
/-- What lies in the tables. -/
def Globs (G : List (Nat × List Value)) (w : World) : Prop := ∀ g cs, (g, cs) ∈ G → g < w.heap.size ∧ ∀ (j : Nat) u, cs[j]? = some u → w.cell? ⟨g, j, none⟩ = some u
/-- A contract of the old form: a plain value; what was there is as it was. -/
theorem con_of_calls {f : Nat} {G : List (Nat × List Value)} {xs : List AV} {v : Value} (hok : okFn P f = true)
    (h : ∀ (w : World) (z : Zone) (vs : List Value), (∀ t b, z t b → b < w.heap.size) → Reps w z [] xs vs → Globs G w → Calls P f vs.toArray w (fun e w' => e = .returned v ∧ Go.RowKit.Below w.heap.size w w')) : Con P G f xs [] 0 (Is (.r v) [] 0) No := by
  refine ⟨hok, fun w th z own vs ho hm hr => ?_⟩
  have hth : th = [] := List.length_eq_zero_iff.1 hm.len
  subst hth
  refine (h w z vs hm.zlt hr (fun g cs hg => ⟨hm.zlt _ _ (hm.globs g cs hg).1, (hm.globs g cs hg).2⟩)).mono ?_
  rintro e w' ⟨rfl, hb⟩
  refine ⟨v, .r v, [], 0, [], z, .inl ⟨rfl, rfl, rfl, rfl⟩, ?_, .r _ _⟩
  refine ⟨rfl, fun i nd hi => by simp [lk] at hi, fun i j x y L M hi => by simp [lk] at hi, fun t b hz => Nat.lt_of_lt_of_le (hm.zlt t b hz) hb.size, hb.size, fun b hlt _ => hb.block b hlt, fun t b h => h, fun b h => .inl h, fun b h => h, ?_, fun i L hi => by simp at hi, ⟨hb.os, hb.tape, hb.output⟩, ⟨fun _ _ => False, fun i T k els op L hi => by simp [lk] at hi, fun _ _ h => h.elim, fun _ _ h => h.elim, fun _ _ h => h.elim, fun _ _ _ h => h.elim, fun i nd L j hi => by simp [lk] at hi⟩⟩
  intro g cs hg
  obtain ⟨h1, h2⟩ := hm.globs g cs hg
  exact ⟨h1, fun j u hu => (cell_heap (hb.block g (hm.zlt _ _ h1)) j).trans (h2 j u hu)⟩
mutual
/-- The second says no more than the first: a nil slice is a slice without elements; what is read for good is read. -/
def wk : AV → AV → Prop
  | .r (.slice none 0 0), .ro _ _ [] => True
  | .agg a, .agg b => wkL a b
  | x, y => x = y
def wkL : List AV → List AV → Prop
  | [], [] => True
  | x :: a, y :: b => wk x y ∧ wkL a b
  | _, _ => False
end
variable {w : World} {z : Zone} {th : List NLoc}
mutual
theorem wk_rep : ∀ {x y : AV} {v : Value}, wk x y → Rep w z th x v → Rep w z th y v
  | .r u, y, v, h, hr => by
    unfold wk at h
    split at h
    · rename_i t k e; cases e; exact nil_ro _ _ hr
    · rename_i a b e; cases e
    · subst h; exact hr
  | .agg a, y, v, h, hr => by
    unfold wk at h
    split at h
    · rename_i e; cases e
    · rename_i a' b e; cases e
      obtain ⟨ys, rfl, hc⟩ := hr.agg_inv
      have := wkL_rep h hc
      exact .agg _ _ _ this.1 this.2
    · subst h; exact hr
  | .ro t k e, y, v, h, hr => by simp [wk] at h; subst h; exact hr
  | .re t c o, y, v, h, hr => by simp [wk] at h; subst h; exact hr
  | .s n l k, y, v, h, hr => by simp [wk] at h; subst h; exact hr
  | .p n i o, y, v, h, hr => by simp [wk] at h; subst h; exact hr
  | .tup c, y, v, h, hr => by simp [wk] at h; subst h; exact hr
  | .fn f c, y, v, h, hr => by simp [wk] at h; subst h; exact hr
  | .ifc t c, y, v, h, hr => by simp [wk] at h; subst h; exact hr
  | .q n, y, v, h, hr => by simp [wk] at h; subst h; exact hr
  | .u a b c, y, v, h, hr => by simp [wk] at h; subst h; exact hr
  | .any, y, v, h, hr => by simp [wk] at h; subst h; exact hr
theorem wkL_rep : ∀ {x y : List AV} {vs : List Value}, wkL x y → Reps w z th x vs → Reps w z th y vs
  | [], [], vs, _, hr => hr
  | x :: a, y :: b, vs, h, hr => by
    unfold wkL at h
    obtain ⟨v, r, rfl, h1, h2⟩ := hr.head
    exact .cons (wk_rep h.1 h1) (wkL_rep h.2 h2)
  | [], _ :: _, _, h, _ => by simp [wkL] at h
  | _ :: _, [], _, h, _ => by simp [wkL] at h
end
theorem Con.weak {G : List (Nat × List Value)} {f : Nat} {xs xs' : List AV} {o : List (Nat × Nd)} {n : Nat} {Q R : AV → List (Nat × Nd) → Nat → Prop} (hc : Con P G f xs' o n Q R) (h : wkL xs xs') : Con P G f xs o n Q R :=
  hc.args (fun _ _ _ _ hr => wkL_rep h hr)
end
end Go.AM
/- The abstract machine: lists of lists: opened, shut, read alone from now on. -/
namespace Go.AM
open Go
section
variable {P : Program} {E : Env} {N : Nat} {st : AS} {th : List NLoc} {z : Zone} {a : Act} {w : World} {o : List (Nat × Nd)} {n : Nat}
theorem lk_set {n : Nat} {nd : Nd} {o : List (Nat × Nd)} {j : Nat} {x : Nd} (h : lk ((n, nd) :: o) j = some x) : (n = j ∧ x = nd) ∨ (n ≠ j ∧ lk o j = some x) := by
  simp only [lk] at h
  split at h
  · rename_i e; cases h; exact .inl ⟨e, rfl⟩
  · rename_i e; exact .inr ⟨e, h⟩
/-- A list as a list of lists. -/
theorem emb_toU (n : Nat) {T k : Nat} {els : List (List AV)} (h : lk st.o n = some (.lst T k els)) : Emb E N st (setNd st n (.ul T k els [])) := by
  intro th z a w hs
  obtain ⟨U, hU⟩ := hs.mem.uls
  obtain ⟨L, h1, h2, h3⟩ := hs.mem.nds n _ h
  refine ⟨th, z, hs.mem.sayU h rfl (fun e he => ?_) ⟨U, hU.say0 h (fun M hM => ?_)⟩, hs.size, hs.dfs, hs.slots⟩
  · obtain ⟨i, hi⟩ := List.mem_iff_getElem?.1 he
    rcases h2 with ⟨_, h0⟩ | ⟨_, cells, fr, g1, g2, g3, g4, g5, g6⟩
    · subst h0; simp at hi
    · rw [← g3]; exact (g6 i e hi).1
  · rw [h1] at hM; cases hM
    refine ⟨fun _ _ _ => False, fun _ _ _ h => h, fun _ _ _ _ _ h => h.elim, fun i e he j x hx => ?_⟩
    rcases h2 with ⟨_, h0⟩ | ⟨_, cells, fr, g1, g2, g3, g4, g5, g6⟩
    · subst h0; simp at he
    · obtain ⟨y, hy, hr, ho⟩ := (g6 i e he).2 j x hx
      exact ⟨y, by rw [cell_of g1]; exact hy, ho, .r _ _ _ hr⟩
/-- What the elements bear is read alone from now on. -/
theorem emb_toL (n : Nat) {T k : Nat} {els : List (List AV)} (h : lk st.o n = some (.ul T k els [])) : Emb E N st (setNd st n (.lst T k (dfzR true els))) := by
  intro th z a w hs
  obtain ⟨U, hU⟩ := hs.mem.uls
  have m := hs.mem
  obtain ⟨L, h1, h2, h3⟩ := m.nds n _ h
  let z' : Zone := fun t b => z t b ∨ (t = true ∧ U n b)
  have le : Le w z w z' := ⟨fun _ _ h => .inl h, fun _ _ _ => rfl⟩
  have key : ∀ j x, lk ((n, Nd.lst T k (dfzR true els)) :: st.o) j = some x → ∃ y, lk st.o j = some y := by
    intro j x hj
    rcases lk_set hj with ⟨rfl, _⟩ | ⟨_, hj⟩
    · exact ⟨_, h⟩
    · exact ⟨_, hj⟩
  have hnz : ∀ j nd M, lk st.o j = some nd → th[j]? = some M → M.ph = false → ∀ t, ¬ z' t M.b := by
    intro j nd M hj hM hp t hz
    obtain ⟨M', k1, _, k3⟩ := m.nds j nd hj
    rw [hM] at k1; cases k1
    rcases hz with hz | ⟨_, hz⟩
    · exact (k3 hp).2.1 t hz
    · exact hU.kn j nd M n hj hM hp hz
  refine ⟨th, z', ⟨m.len, fun j x hj => ?_, fun i j x y A B hi hj => ?_, fun t b hz => ?_, m.grow, m.frame, fun t b hb => .inl (m.zin t b hb), fun b hz => ?_, fun b hz => ?_, fun g cs hg => ⟨.inl (m.globs g cs hg).1, (m.globs g cs hg).2⟩, m.pre, m.sys, fun i b => i ≠ n ∧ U i b, fun i T' k' els' op' M hi hM => ?_, fun i b hb => hU.lt i b hb.2, fun i b hb t hz => ?_, fun i b hb => hU.ow i b hb.2, fun i j b hb hb' => hU.inj i j b hb.2 hb'.2, fun i nd M j hi hM hp hb => ?_⟩, hs.size, hs.dfs, fun i x hi => ?_⟩
  · rcases lk_set hj with ⟨rfl, rfl⟩ | ⟨hne, hj⟩
    · refine ⟨L, h1, ?_, fun hp => ⟨(h3 hp).1, hnz n _ L h h1 hp, (h3 hp).2.2⟩⟩
      rcases h2 with ⟨hp, h0⟩ | ⟨hp, cells, fr, g1, g2, g3, g4, g5, g6⟩
      · subst h0; exact .inl ⟨hp, by simp [dfzR]⟩
      · obtain ⟨F, f1, _, f3⟩ := hU.at_ n _ _ _ _ L h h1
        refine .inr ⟨hp, cells, fr, g1, g2, g3, g4, by rw [dfzR_len]; exact g5, fun i e he => ?_⟩
        rw [dfzR_get, Option.map_eq_some_iff] at he
        obtain ⟨e0, he0, rfl⟩ := he
        refine ⟨by rw [dfzC_len]; exact g6 i e0 he0, fun j x hx => ?_⟩
        rw [dfzC_get, Option.map_eq_some_iff] at hx
        obtain ⟨x0, hx0, rfl⟩ := hx
        obtain ⟨y, hy, ho, hcu⟩ := f3 i e0 he0 j x0 hx0
        exact ⟨y, by rw [← cell_of g1]; exact hy, UC.seen (show UC w z (F i j) x0 y from hcu) (fun _ _ h => .inl h) (fun b hb => .inr ⟨rfl, f1 _ _ _ hb⟩), ho⟩
    · obtain ⟨M, k1, k2, k3⟩ := m.nds j x hj
      exact ⟨M, k1, by simpa using k2.on le (fun _ => rfl) [], fun hp => ⟨(k3 hp).1, hnz j x M hj k1 hp, (k3 hp).2.2⟩⟩
  · obtain ⟨x', hx'⟩ := key i x hi
    obtain ⟨y', hy'⟩ := key j y hj
    exact m.inj i j x' y' A B hx' hy'
  · rcases hz with hz | ⟨_, hz⟩
    · exact m.zlt t b hz
    · exact hU.lt n b hz
  · rcases hz with hz | ⟨_, hz⟩
    · exact m.zout b hz
    · exact .inr (hU.ow n b hz)
  · rcases hz with hz | ⟨hf, _⟩
    · exact m.zb b hz
    · cases hf
  · rcases lk_set hi with ⟨_, he⟩ | ⟨hne, hi⟩
    · cases he
    · obtain ⟨F, f1, f2, f3⟩ := (hU.at_ i T' k' els' op' M hi hM).on le (fun _ _ => rfl) (.inr rfl) []
      rw [List.append_nil] at f3
      exact ⟨F, fun a b c hc => ⟨Ne.symm hne, f1 a b c hc⟩, f2, f3⟩
  · rcases hz with hz | ⟨_, hz⟩
    · exact hU.nz i b hb.2 t hz
    · exact hb.1 (hU.inj i n b hb.2 hz)
  · obtain ⟨x', hx'⟩ := key i nd hi
    exact hU.kn i x' M j hx' hM hp hb.2
  · obtain ⟨y, hy, hr⟩ := hs.slots i x hi
    exact ⟨y, hy, hr.on' le⟩
/-- What was opened is shut. -/
theorem emb_close (n i j : Nat) {T k T' k' m lo len : Nat} {els els' : List (List AV)} {op : List (Nat × Nat × AV)} {e : List AV} (h : lk st.o n = some (.ul T k els op)) (hop : lk2 op i j = some (.s m lo len)) (hm : lk st.o m = some (.ul T' k' els' [])) (hne : m ≠ n) (hle : lo + len ≤ els'.length) (he : els[i]? = some e) (hj : j < e.length) :
    Emb E N st { st with o := (n, .ul T k (els.set i (e.set j (.u T' k' ((els'.drop lo).take len)))) (rm2 op i j 1)) :: rm st.o m } := by
  intro th z a w hs
  obtain ⟨U, hU⟩ := hs.mem.uls
  have mm := hs.mem
  obtain ⟨L, h1, h2, h3⟩ := mm.nds n _ h
  obtain ⟨M, m1, m2, m3⟩ := mm.nds m _ hm
  obtain ⟨F, f1, f2, f3⟩ := hU.at_ n _ _ _ _ L h h1
  obtain ⟨G, q1, q2, q3⟩ := hU.at_ m _ _ _ _ M hm m1
  have hi : i < els.length := (List.getElem?_eq_some_iff.1 he).1
  have key : ∀ q x, lk ((n, Nd.ul T k (els.set i (e.set j (.u T' k' ((els'.drop lo).take len)))) (rm2 op i j 1)) :: rm st.o m) q = some x → q ≠ m ∧ ∃ y, lk st.o q = some y := by
    intro q x hq
    rcases lk_set hq with ⟨rfl, _⟩ | ⟨_, hq⟩
    · exact ⟨Ne.symm hne, _, h⟩
    · rw [lk_rm] at hq
      split at hq
      · cases hq
      · rename_i hqm; exact ⟨Ne.symm hqm, _, hq⟩
  let V : Nat → Prop := fun b => U m b ∨ (M.ph = false ∧ b = M.b)
  have hVn : ∀ b, V b → ¬ U n b := by
    rintro b (hb | ⟨hp, rfl⟩) hn
    · exact hne (hU.inj m n b hb hn)
    · exact hU.kn m _ M n hm m1 hp hn
  have hVq : ∀ q b, q ≠ m → V b → ¬ U q b := by
    rintro q b hq (hb | ⟨hp, rfl⟩) hn
    · exact hq (hU.inj q m b hn hb)
    · exact hU.kn m _ M q hm m1 hp hn
  have hold : ∀ q nd, lk (rm st.o m) q = some nd → q ≠ m ∧ lk st.o q = some nd := by
    intro q nd hq
    rw [lk_rm] at hq
    split at hq
    · cases hq
    · rename_i hqm; exact ⟨Ne.symm hqm, hq⟩
  refine ⟨th, z, ⟨mm.len, fun q x hq => ?_, fun p q x y A B hp hq => ?_, mm.zlt, mm.grow, mm.frame, mm.zin, mm.zout, mm.zb, mm.globs, mm.pre, mm.sys, fun q b => if q = n then U n b ∨ V b else q ≠ m ∧ U q b, fun q T2 k2 els2 op2 A hq hA => ?_, fun q b hb => ?_, fun q b hb => ?_, fun q b hb => ?_, fun p q b hb hb' => ?_, fun p nd A q hp hA hph hb => ?_⟩, hs.size, hs.dfs, hs.slots⟩
  · rcases lk_set hq with ⟨rfl, rfl⟩ | ⟨_, hq⟩
    · refine ⟨L, h1, ?_, h3⟩
      rcases h2 with ⟨_, h0⟩ | ⟨hp, cells, fr, g1, g2, g3, g4, g5, g6⟩
      · subst h0; simp at he
      · refine .inr ⟨hp, cells, fr, g1, g2, g3, g4, by simpa using g5, fun p e' hp' => ?_⟩
        rw [List.getElem?_set] at hp'
        split at hp'
        · obtain rfl := Option.some.inj hp'; rw [List.length_set]; exact g6 i e he
        · exact g6 p e' hp'
    · exact mm.nds q x (hold q x hq).2
  · obtain ⟨_, x', hx'⟩ := key p x hp
    obtain ⟨_, y', hy'⟩ := key q y hq
    exact mm.inj p q x' y' A B hx' hy'
  · rcases lk_set hq with ⟨rfl, heq⟩ | ⟨hqn, hq⟩
    · cases heq
      rw [h1] at hA; cases hA
      simp only [if_true]
      refine ⟨fun a b c => if a = i ∧ b = j then V c else F a b c, fun a b c hc => ?_, fun a b a' b' c hc hc' => ?_, fun p e' hp q x hx => ?_⟩
      · dsimp only at hc
        split at hc
        · exact .inr hc
        · exact .inl (f1 _ _ _ hc)
      · dsimp only at hc hc'
        split at hc <;> split at hc'
        · omega
        · exact (hVn c hc (f1 _ _ _ hc')).elim
        · exact (hVn c hc' (f1 _ _ _ hc)).elim
        · exact f2 _ _ _ _ _ hc hc'
      · have old : ∀ e0, els[p]? = some e0 → e0[q]? = some x → ¬ (p = i ∧ q = j) → ∃ y, w.cell? ⟨L.b, L.o + p * L.k + q, none⟩ = some y ∧ y.oneCell' = true ∧ CellU w z th (if p = i ∧ q = j then V else F p q) (rm2 op i j 1) p q x y := by
          intro e0 he0 hx0 hn
          obtain ⟨y, hy, ho, hcu⟩ := f3 p e0 he0 q x hx0
          refine ⟨y, hy, ho, ?_⟩
          rw [if_neg hn]
          unfold CellU at hcu ⊢
          rw [lk2_rm2, if_neg (by omega)]
          exact hcu
        have hF : (fun c => if p = i ∧ q = j then V c else F p q c) = if p = i ∧ q = j then V else F p q := by
          split <;> rfl
        show ∃ y, w.cell? ⟨L.b, L.o + p * L.k + q, none⟩ = some y ∧ y.oneCell' = true ∧ CellU w z th (fun c => if p = i ∧ q = j then V c else F p q c) (rm2 op i j 1) p q x y
        rw [hF]
        rw [List.getElem?_set] at hp
        split at hp
        · rename_i hpi
          · subst hpi
            obtain rfl := Option.some.inj hp
            rw [List.getElem?_set] at hx
            split at hx
            · rename_i hqj
              · subst hqj
                obtain rfl := Option.some.inj hx
                obtain ⟨y, hy, ho, hcu⟩ := f3 i e he j e[j] (by simp [hj])
                refine ⟨y, hy, ho, ?_⟩
                rw [if_pos ⟨rfl, rfl⟩]
                unfold CellU at hcu ⊢
                rw [hop] at hcu
                rw [lk2_rm2, if_pos (by omega)]
                obtain ⟨M', hM', hcase⟩ := hcu.s_inv
                rw [m1] at hM'; cases hM'
                rcases hcase with ⟨_, rfl, rfl⟩ | ⟨hp2, c, o', rfl, hlc, hcap, hox⟩
                · simp only [List.take_zero]; exact .n _ _ _
                · rcases m2 with ⟨hp', _⟩ | ⟨_, cells, fr, g1, g2, g3, g4, g5, g6⟩
                  · rw [hp2] at hp'; cases hp'
                  have hlen : ((els'.drop lo).take len).length = len := by simp; omega
                  have := UC.u (w := w) (z := z) V T' k' ((els'.drop lo).take len) M.b o' c cells fr (fun a b d => G (lo + a) b d) (fun a b => (w.cell? ⟨M.b, o' + a * k' + b, none⟩).getD undef) g1 g2 (by rw [hlen]; exact hlc) (fun hc => by
                    have e1 := hox hc
                    have : (lo + c) * M.k ≤ M.cap * M.k := Nat.mul_le_mul_right _ hcap
                    rw [Nat.add_mul] at this
                    rw [e1, ← g3]; omega) (.inr ⟨hp2, rfl⟩) (fun a b d hd => ⟨.inl (q1 _ _ _ hd), fun e1 => by subst e1; exact hU.kn m _ M m hm m1 hp2 (q1 _ _ _ hd)⟩) (fun a b a' b' d hd hd' => by
                    have := q2 _ _ _ _ _ hd hd'; exact ⟨by omega, this.2⟩) (fun a e1 ha => ?_) (fun a e1 b x1 ha hb => ?_) (fun a e1 b x1 ha hb => ?_) (fun a e1 b x1 ha hb => ?_)
                  · rw [hlen] at this; exact this
                  all_goals
                    rw [List.getElem?_take] at ha
                    split at ha
                    rotate_left
                    · cases ha
                    rename_i hlt
                    rw [List.getElem?_drop] at ha
                  · rw [← g3]; exact g6 _ _ ha
                  all_goals
                    obtain ⟨y1, hy1, ho1, hcu1⟩ := q3 _ e1 ha b x1 hb
                    have e2 := hox (by omega)
                    have e3 : M.o + (lo + a) * M.k + b = o' + a * k' + b := by rw [e2, Nat.add_mul, g3]; omega
                    rw [e3] at hy1
                    simp only [hy1, Option.getD_some]
                  · rw [← cell_of g1]; exact hy1
                  · exact ho1
                  · exact hcu1
            · rename_i hqj
              exact old e he hx (fun hh => hqj hh.2.symm)
        · rename_i hpi
          exact old e' hp hx (fun hh => hpi hh.1.symm)
    · obtain ⟨k1, k9⟩ := hold q _ hq
      obtain ⟨F2, u1, u2, u3⟩ := hU.at_ q T2 k2 els2 op2 A k9 hA
      refine ⟨F2, fun a b c hc => ?_, u2, u3⟩
      dsimp only
      rw [if_neg (Ne.symm hqn)]
      exact ⟨k1, u1 a b c hc⟩
  · split at hb
    · rcases hb with hb | hb | ⟨hp, rfl⟩
      · exact hU.lt _ _ hb
      · exact hU.lt _ _ hb
      · exact (m3 hp).1
    · exact hU.lt _ _ hb.2
  · split at hb
    · rcases hb with hb | hb | ⟨hp, rfl⟩
      · exact hU.nz _ _ hb
      · exact hU.nz _ _ hb
      · exact (m3 hp).2.1
    · exact hU.nz _ _ hb.2
  · split at hb
    · rcases hb with hb | hb | ⟨hp, rfl⟩
      · exact hU.ow _ _ hb
      · exact hU.ow _ _ hb
      · exact (m3 hp).2.2
    · exact hU.ow _ _ hb.2
  · split at hb <;> split at hb'
    · omega
    · rcases hb with hb | hb
      · rename_i hpn hqn; subst hpn; exact hU.inj _ _ _ hb hb'.2
      · exact (hVq q b hb'.1 hb hb'.2).elim
    · rcases hb' with hb' | hb'
      · rename_i hpn hqn; subst hqn; exact hU.inj _ _ _ hb.2 hb'
      · exact (hVq p b hb.1 hb' hb.2).elim
    · exact hU.inj _ _ _ hb.2 hb'.2
  · obtain ⟨hpm, x', hx'⟩ := key p nd hp
    split at hb
    · rcases hb with hb | hb | ⟨hp2, hb⟩
      · exact hU.kn p x' A n hx' hA hph hb
      · exact hU.kn p x' A m hx' hA hph hb
      · exact hpm (mm.inj p m x' _ A M hx' hm hA m1 hph hp2 hb)
    · exact hU.kn p x' A q hx' hA hph hb.2
/-- A slice that an element bears is opened: an own thing from now on. -/
theorem emb_open (n i j : Nat) {T k T' k' : Nat} {els els' : List (List AV)} {op : List (Nat × Nat × AV)} {e : List AV} (h : lk st.o n = some (.ul T k els op)) (he : els[i]? = some e) (hj : e[j]? = some (.u T' k' els')) (hop : lk2 op i j = none) :
    Emb E N st { m := st.m, o := (st.n, .ul T' k' els' []) :: (n, .ul T k els ((i, j, .s st.n 0 els'.length) :: op)) :: st.o, n := st.n + 1 } := by
  intro th z a w hs
  obtain ⟨U, hU⟩ := hs.mem.uls
  have mm := hs.mem
  obtain ⟨L, h1, h2, h3⟩ := mm.nds n _ h
  obtain ⟨F, f1, f2, f3⟩ := hU.at_ n _ _ _ _ L h h1
  obtain ⟨y, hy, ho, hcu⟩ := f3 i e he j _ hj
  unfold CellU at hcu
  rw [hop] at hcu
  have hltn : n < st.n := by rw [← mm.len]; exact (List.getElem?_eq_some_iff.1 h1).1
  have core : ∃ (L' : NLoc) (Um : Nat → Prop), NdAt w z (th ++ [L']) L' (.ul T' k' els' []) ∧ UlAt w z (th ++ [L']) Um L' els' [] ∧ Rep w z (th ++ [L']) (.s st.n 0 els'.length) y ∧ (L'.ph = false → F i j L'.b) ∧ ∀ b, Um b → F i j b ∧ (L'.ph = false → b ≠ L'.b) := by
    cases hcu with
    | r _ _ _ hr => cases hr
    | n _ _ _ => exact ⟨⟨0, 0, 0, 0, true⟩, fun _ => False, .inl ⟨rfl, rfl⟩, ⟨fun _ _ _ => False, fun _ _ _ h => h, fun _ _ _ _ _ h => h.elim, fun i e he => by simp at he⟩, .sn _ _ 0 _ (hs.get_new _) rfl, fun hp => (by cases hp), fun b h => h.elim⟩
    | u _ _ _ _ b o c cells fr G ys hb hf hl hsz hfb hF hd hk hy' h1' hx =>
      refine ⟨⟨b, if c = 0 then 0 else o, k', c, false⟩, fun b' => ∃ p q, G p q b', .inr ⟨rfl, cells, fr, hb, hf, rfl, ?_, hl, fun p e1 hp => hk p e1 hp⟩, ⟨G, fun p q b' hb' => ⟨p, q, hb'⟩, hd, fun p e1 hp q x hx' => ⟨ys p q, ?_, h1' p e1 q x hp hx', hx p e1 q x hp hx'⟩⟩, .s _ _ 0 _ c o _ (hs.get_new _) rfl hl (by simp) (fun hc => by simp; omega), fun _ => hfb, fun b' ⟨p, q, hb'⟩ => ⟨(hF p q b' hb').1, fun _ => (hF p q b' hb').2⟩⟩
      · show (if c = 0 then 0 else o) + c * k' ≤ cells.size
        by_cases hc : c = 0
        · simp [hc]
        · rw [if_neg hc]; exact hsz (by omega)
      · have hlt : p < els'.length := (List.getElem?_eq_some_iff.1 hp).1
        show w.cell? ⟨b, (if c = 0 then 0 else o) + p * k' + q, none⟩ = _
        rw [if_neg (by omega), cell_of hb]
        exact hy' p e1 q x hp hx'
  obtain ⟨L', Um, c1, c2, c3, c4, c5⟩ := core
  have hget : (th ++ [L'])[st.n]? = some L' := hs.get_new L'
  have lr : Le w z w z := Le.refl w z
  have look : ∀ q x, lk ((st.n, Nd.ul T' k' els' []) :: (n, Nd.ul T k els ((i, j, .s st.n 0 els'.length) :: op)) :: st.o) q = some x → (q = st.n ∧ x = .ul T' k' els' []) ∨ (q = n ∧ x = .ul T k els ((i, j, .s st.n 0 els'.length) :: op)) ∨ (q ≠ st.n ∧ q ≠ n ∧ lk st.o q = some x) := by
    intro q x hq
    rcases lk_set hq with ⟨rfl, rfl⟩ | ⟨g1, hq⟩
    · exact .inl ⟨rfl, rfl⟩
    · rcases lk_set hq with ⟨rfl, rfl⟩ | ⟨g2, hq⟩
      · exact .inr (.inl ⟨rfl, rfl⟩)
      · exact .inr (.inr ⟨Ne.symm g1, Ne.symm g2, hq⟩)
  have old : ∀ q x M, lk st.o q = some x → (th ++ [L'])[q]? = some M → th[q]? = some M := by
    intro q x M hq hM
    obtain ⟨A, k1, _⟩ := mm.nds q x hq
    have := pre_get [L'] k1
    rw [hM] at this; cases this; exact k1
  have known : ∀ q x M, lk ((st.n, Nd.ul T' k' els' []) :: (n, Nd.ul T k els ((i, j, .s st.n 0 els'.length) :: op)) :: st.o) q = some x → (th ++ [L'])[q]? = some M → (q = st.n ∧ M = L') ∨ (q ≠ st.n ∧ ∃ x', lk st.o q = some x' ∧ th[q]? = some M) := by
    intro q x M hq hM
    rcases look q x hq with ⟨rfl, _⟩ | ⟨rfl, _⟩ | ⟨g1, _, g3⟩
    · rw [hget] at hM; cases hM; exact .inl ⟨rfl, rfl⟩
    · exact .inr ⟨by omega, _, h, old _ _ _ h hM⟩
    · exact .inr ⟨g1, _, g3, old _ _ _ g3 hM⟩
  refine ⟨th ++ [L'], z, ⟨by simp [mm.len], fun q x hq => ?_, fun p q x y A B hp hq hA hB e1 e2 hb => ?_, mm.zlt, mm.grow, mm.frame, mm.zin, mm.zout, mm.zb, mm.globs, fun i L hi => pre_get _ (mm.pre i L hi), mm.sys, fun q b => if q = st.n then Um b else if q = n then U n b ∧ ¬ F i j b else U q b, fun q T2 k2 els2 op2 A hq hA => ?_, fun q b hb => ?_, fun q b hb => ?_, fun q b hb => ?_, fun p q b hb hb' => ?_, fun p nd A q hp hA hph hb => ?_⟩, hs.size, hs.dfs, fun q x hq => ?_⟩
  · rcases look q x hq with ⟨rfl, rfl⟩ | ⟨rfl, rfl⟩ | ⟨_, _, g3⟩
    · exact ⟨L', hget, c1, fun hp => ⟨hU.lt n _ (f1 _ _ _ (c4 hp)), hU.nz n _ (f1 _ _ _ (c4 hp)), hU.ow n _ (f1 _ _ _ (c4 hp))⟩⟩
    · exact ⟨L, pre_get _ h1, (show NdAt w z (th ++ [L']) L (.ul T k els op) from h2.on lr (fun _ => rfl) [L']), h3⟩
    · obtain ⟨M, k1, k2, k3⟩ := mm.nds q x g3
      exact ⟨M, pre_get _ k1, k2.on lr (fun _ => rfl) [L'], k3⟩
  · rcases known p x A hp hA with ⟨rfl, rfl⟩ | ⟨g1, x', g2, g3⟩ <;> rcases known q y B hq hB with ⟨rfl, rfl⟩ | ⟨g4, y', g5, g6⟩
    · rfl
    · have := f1 _ _ _ (c4 e1); rw [hb] at this; exact (hU.kn q y' B n g5 g6 e2 this).elim
    · have := f1 _ _ _ (c4 e2); rw [← hb] at this; exact (hU.kn p x' A n g2 g3 e1 this).elim
    · exact mm.inj p q x' y' A B g2 g5 g3 g6 e1 e2 hb
  · rcases look q _ hq with ⟨rfl, heq⟩ | ⟨rfl, heq⟩ | ⟨g1, g2, g3⟩
    · cases heq
      rw [hget] at hA; cases hA
      simp only [if_true]
      exact c2
    · cases heq
      have hA' := old q _ A h hA
      rw [h1] at hA'; cases hA'
      rw [show (fun b => if q = st.n then Um b else if q = q then U q b ∧ ¬ F i j b else U q b) = fun b => U q b ∧ ¬ F i j b by funext b; rw [if_neg (by omega), if_pos rfl]]
      refine ⟨fun a b c => F a b c ∧ ¬ (a = i ∧ b = j), fun a b c hc => ⟨f1 _ _ _ hc.1, fun hij => hc.2 (f2 _ _ _ _ _ hc.1 hij)⟩, fun a b a' b' c hc hc' => f2 _ _ _ _ _ hc.1 hc'.1, fun p e1 hp r x hx => ?_⟩
      obtain ⟨y1, hy1, ho1, hcu1⟩ := f3 p e1 hp r x hx
      refine ⟨y1, hy1, ho1, ?_⟩
      unfold CellU at hcu1 ⊢
      simp only [lk2]
      by_cases hpr : i = p ∧ j = r
      · rw [if_pos hpr]
        obtain ⟨rfl, rfl⟩ := hpr
        rw [hy] at hy1; cases hy1
        exact c3
      · rw [if_neg hpr]
        have : CellU w z th (F p r) op p r x y1 := hcu1
        have := this.on lr (fun _ _ => rfl) [L']
        unfold CellU at this
        split at this
        · exact this
        · exact this.sub (fun b hb => ⟨hb, fun hh => hpr ⟨hh.1.symm, hh.2.symm⟩⟩)
    · have hA' := old q _ A g3 hA
      have := (hU.at_ q T2 k2 els2 op2 A g3 hA').on lr (fun _ _ => rfl) (.inr rfl) [L']
      rw [show (fun b => if q = st.n then Um b else if q = n then U n b ∧ ¬ F i j b else U q b) = U q by funext b; rw [if_neg g1, if_neg g2]]
      exact this
  · split at hb
    · exact hU.lt n b (f1 _ _ _ (c5 b hb).1)
    · split at hb
      · exact hU.lt n b hb.1
      · exact hU.lt q b hb
  · split at hb
    · exact hU.nz n b (f1 _ _ _ (c5 b hb).1)
    · split at hb
      · exact hU.nz n b hb.1
      · exact hU.nz q b hb
  · split at hb
    · exact hU.ow n b (f1 _ _ _ (c5 b hb).1)
    · split at hb
      · exact hU.ow n b hb.1
      · exact hU.ow q b hb
  · have cls : ∀ q b, (if q = st.n then Um b else if q = n then U n b ∧ ¬ F i j b else U q b) → (q = st.n ∧ F i j b) ∨ (q ≠ st.n ∧ U q b ∧ ¬ F i j b) := by
      intro q b hb
      split at hb
      · rename_i e1; exact .inl ⟨e1, (c5 b hb).1⟩
      · rename_i e1
        split at hb
        · rename_i e2; subst e2; exact .inr ⟨e1, hb.1, hb.2⟩
        · rename_i e2; exact .inr ⟨e1, hb, fun hF => e2 (hU.inj q n b hb (f1 _ _ _ hF))⟩
    rcases cls p b hb with ⟨g1, g2⟩ | ⟨g1, g2, g3⟩ <;> rcases cls q b hb' with ⟨g4, g5⟩ | ⟨g4, g5, g6⟩
    · rw [g1, g4]
    · exact (g6 g2).elim
    · exact (g3 g5).elim
    · exact hU.inj p q b g2 g5
  · rcases known p nd A hp hA with ⟨rfl, rfl⟩ | ⟨g1, x', g2, g3⟩
    · split at hb
      · exact (c5 _ hb).2 hph rfl
      · split at hb
        · exact hb.2 (c4 hph)
        · rename_i e1 e2; exact e2 (hU.inj q n _ hb (f1 _ _ _ (c4 hph)))
    · split at hb
      · exact hU.kn p x' A n g2 g3 hph (f1 _ _ _ (c5 _ hb).1)
      · split at hb
        · exact hU.kn p x' A n g2 g3 hph hb.1
        · exact hU.kn p x' A q g2 g3 hph hb
  · obtain ⟨u, hu, hr⟩ := hs.slots q x hq
    exact ⟨u, hu, hr.on lr [L']⟩
end
end Go.AM
/- The abstract machine: numbers that say nothing may be said twice. -/
namespace Go.AM
open Go
section
variable {P : Program} {E : Env} {N : Nat} {st : AS} {th : List NLoc} {z : Zone} {a : Act} {w : World}
def injO (ρ : List Nat) (o : List (Nat × Nd)) : Prop := (o.map fun p => ρ[p.1]?).Nodup
theorem inj_map {α β : Type} {f : α → β} : ∀ {l : List α}, (l.map f).Nodup → ∀ x ∈ l, ∀ y ∈ l, f x = f y → x = y
  | [], _, x, hx, _, _, _ => by cases hx
  | z :: r, h, x, hx, y, hy, e => by
    rw [List.map_cons, List.nodup_cons] at h
    rcases List.mem_cons.1 hx with rfl | hx'
    · rcases List.mem_cons.1 hy with rfl | hy'
      · rfl
      · exact absurd (List.mem_map.2 ⟨y, hy', e.symm⟩) h.1
    · rcases List.mem_cons.1 hy with rfl | hy'
      · exact absurd (List.mem_map.2 ⟨x, hx', e⟩) h.1
      · exact inj_map h.2 x hx' y hy' e
theorem injO_spec {ρ : List Nat} {o : List (Nat × Nd)} (h : injO ρ o) {i i' j : Nat} {x y : Nd} (hi : lk o i = some x) (hi' : lk o i' = some y) (hj : ρ[i]? = some j) (hj' : ρ[i']? = some j) : i = i' := by
  have := inj_map h (i, x) (lk_mem hi) (i', y) (lk_mem hi') (by simp only [hj, hj'])
  exact (Prod.mk.injEq _ _ _ _ ▸ this).1
theorem UlOK.ren2 {U : Nat → Nat → Prop} {o o' : List (Nat × Nd)} (hU : UlOK U E o th z w) {ρ : List Nat} (hr' : ∀ j ∈ ρ, j < th.length) (hb' : th.length ≤ 1000000000) (hnd : injO ρ o') (get : ∀ i nd, lk o' i = some nd → ∃ j, ρ[i]? = some j ∧ lk o j = some (renNd (by_ ρ) nd)) :
    UlOK (fun i b => (∃ x, lk o' i = some x) ∧ ∃ j, ρ[i]? = some j ∧ U j b) E o' (thOf th ρ) z w := by
  refine ⟨fun i T k els op L hi hL => ?_, fun i b ⟨_, j, _, hb⟩ => hU.lt j b hb, fun i b ⟨_, j, _, hb⟩ => hU.nz j b hb, fun i b ⟨_, j, _, hb⟩ => hU.ow j b hb, fun i i' b ⟨⟨x, hx⟩, j, hj, hb⟩ ⟨⟨y, hy⟩, j', hj', hb'⟩ => ?_, fun i nd L q hi hL hp ⟨_, j', _, hb⟩ => ?_⟩
  · obtain ⟨j, hj, hnd'⟩ := get i _ hi
    rw [thOf_get hr' hj] at hL
    obtain ⟨F, h1, h2, h3⟩ := (hU.at_ j T k els _ L hnd' hL).unren (thOf_by hr' hb')
    exact ⟨F, fun a b c hc => ⟨⟨_, hi⟩, j, hj, h1 a b c hc⟩, h2, h3⟩
  · have := hU.inj j j' b hb hb'
    subst this
    exact injO_spec hnd hx hy hj hj'
  · obtain ⟨j, hj, hnd'⟩ := get i _ hi
    rw [thOf_get hr' hj] at hL
    exact hU.kn j _ L j' hnd' hL hp hb
theorem Mem.ren2 {o o' : List (Nat × Nd)} {n : Nat} (h : Mem E o n th z w) (ρ : List Nat) (hr : ∀ j ∈ ρ, j < n) (hb : n ≤ 1000000000) (ho : okO ρ o o') (hpre : ∀ i, i < E.th0.length → ρ[i]? = some i) (hnd : injO ρ o') : Mem E o' ρ.length (thOf th ρ) z w := by
  have hr' : ∀ j ∈ ρ, j < th.length := fun j hj => by rw [h.len]; exact hr j hj
  have hb' : th.length ≤ 1000000000 := by rw [h.len]; exact hb
  have get : ∀ i nd, lk o' i = some nd → ∃ j, ρ[i]? = some j ∧ lk o j = some (renNd (by_ ρ) nd) := fun i nd hi => ho _ (lk_mem hi)
  refine ⟨by simp [thOf], fun i nd hi => ?_, fun i i' x y L M hi hi' hL hM e1 e2 hbb => ?_, h.zlt, h.grow, h.frame, h.zin, h.zout, h.zb, h.globs, fun i L hi => ?_, h.sys, ?_⟩
  · obtain ⟨j, hj, hnd⟩ := get i nd hi
    obtain ⟨L, k1, k2, k3⟩ := h.nds j _ hnd
    exact ⟨L, by rw [thOf_get hr' hj]; exact k1, k2.unren (thOf_by hr' hb'), k3⟩
  · obtain ⟨j, hj, hx⟩ := get i x hi
    obtain ⟨j', hj', hy⟩ := get i' y hi'
    rw [thOf_get hr' hj] at hL
    rw [thOf_get hr' hj'] at hM
    have := h.inj j j' _ _ L M hx hy hL hM e1 e2 hbb
    subst this
    exact injO_spec hnd hi hi' hj hj'
  · have hi' : i < E.th0.length := (List.getElem?_eq_some_iff.1 hi).1
    rw [thOf_get hr' (hpre i hi')]
    exact h.pre i L hi
  · obtain ⟨U, hU⟩ := h.uls
    exact ⟨_, hU.ren2 hr' hb' hnd get⟩
theorem emb2 (ρ : List Nat) {st st' : AS} (hm : okM ρ st.m st'.m) (ho : okO ρ st.o st'.o) (hn : st'.n = ρ.length) (hr : ∀ j ∈ ρ, j < st.n) (hb : st.n ≤ 1000000000) (hpre : ∀ i, i < E.th0.length → ρ[i]? = some i) (hnd : injO ρ st'.o) : Emb E N st st' := by
  intro th z a w h
  refine ⟨thOf th ρ, z, ?_, h.size, h.dfs, fun i x hi => ?_⟩
  · rw [hn]; exact h.mem.ren2 ρ hr hb ho hpre hnd
  · obtain ⟨y, hy, hrep⟩ := h.slots i _ (hm _ (lk_mem hi))
    exact ⟨y, hy, hrep.unren (thOf_by (fun j hj => by rw [h.mem.len]; exact hr j hj) (by rw [h.mem.len]; exact hb)) x rfl⟩
theorem embV2 (ρ : List Nat) {x y : AV} {o' : List (Nat × Nd)} (hx : x = ren (by_ ρ) y) (ho : okO ρ st.o o') (hr : ∀ j ∈ ρ, j < st.n) (hb : st.n ≤ 1000000000) (hpre : ∀ i, i < E.th0.length → ρ[i]? = some i) (hnd : injO ρ o') : EmbV E st x o' ρ.length y := by
  intro th z w v h hv
  exact ⟨thOf th ρ, z, h.ren2 ρ hr hb ho hpre hnd, hv.unren (thOf_by (fun j hj => by rw [h.len]; exact hr j hj) (by rw [h.len]; exact hb)) y hx⟩
end
end Go.AM
/- The abstract machine: regions in phases: what is quiet, in any order; what all the rest waits for (a call that is given own things); what is quiet again. -/
namespace Go.AM
open Go
section
variable {P : Program} {E : Env} {N : Nat} {st : AS} {th : List NLoc} {z : Zone} {a : Act} {w : World} {ops : Array Oper} {Q : Exit → Act → World → Prop}
/-- Each operation behind the n-th waits for one behind it, from the n-th on. -/
def waitB (ops : Array Oper) (n : Nat) : Bool := (List.range ops.size).all fun t => decide (t ≤ n) || (List.range t).any fun t' => decide (n ≤ t') && Region.waitsFor .any ops t t'
theorem tail_waits2 {n : Nat} {s : Array Bool} (hs : Region.sinkB .any ops n = true) (hc : waitB ops n = true) (inv : HeadInv .any ops n s) :
    ∀ (d i : Nat), n - i = d → i < n → s.getD i true = false → ∀ t, n ≤ t → t ∉ Region.ready .any ops s := by
  intro d
  induction d using Nat.strongRecOn with
  | _ d ih =>
    intro i hd hi hun t ht hr
    obtain ⟨_, ot, hot, hall⟩ := mem_ready.1 hr
    have htlt : t < ops.size := (Array.getElem?_eq_some_iff.1 hot).1
    by_cases htn : t = n
    · subst htn
      have h1 := List.all_eq_true.1 hs i (List.mem_range.2 hi)
      obtain ⟨j, hj, hj2⟩ := List.any_eq_true.1 h1
      simp only [Bool.and_eq_true, decide_eq_true_eq] at hj2
      obtain ⟨oj, hoj, e, he, hb, hon⟩ := Region.waitsFor_spec hj2.2
      have hjle : j ≤ t := by have := List.mem_range.1 hj; omega
      by_cases hjt : j = t
      · subst hjt
        have : oj = ot := Option.some.inj (hoj.symm.trans hot)
        subst this
        have h2 := hall e he hb
        rw [hon, getD_both hun] at h2
        cases h2
      · cases hl : s.getD j false with
        | true =>
          have h2 := inv.closed j oj hoj hl e he hb
          rw [hon, getD_both hun] at h2
          cases h2
        | false =>
          have hjs : j < s.size := by rw [inv.size]; omega
          exact ih (t - j) (by omega) j rfl (by omega) (getD_in hjs hl) t (Nat.le_refl _) hr
    · have h1 := List.all_eq_true.1 hc t (List.mem_range.2 htlt)
      simp only [Bool.or_eq_true, decide_eq_true_eq] at h1
      rcases h1 with h1 | h1
      · omega
      · obtain ⟨t', ht', h1⟩ := List.any_eq_true.1 h1
        simp only [Bool.and_eq_true, decide_eq_true_eq] at h1
        have := List.mem_range.1 ht'
        obtain ⟨o', ho', e, he, hb, hon⟩ := Region.waitsFor_spec h1.2
        have : o' = ot := Option.some.inj (ho'.symm.trans hot)
        subst this
        have h2 := hall e he hb
        rw [hon, getD_both (inv.tail t' h1.1 (by omega))] at h2
        cases h2
def okMidP (ops : Array Oper) (ord2 : List Nat) : Nat → Nat → Array Bool → Bool
  | 0, _, s => okOrd ops ops.size ord2 s
  | g + 1, k, s => decide (Region.ready .any ops s = [k]) && okMidP ops ord2 g (k + 1) (s.setIfInBounds k true)
def okHeadP (ops : Array Oper) (n : Nat) (base : Array Bool → Bool) : List Nat → Array Bool → Bool
  | [], s => base s
  | i :: r, s => decide (i < n) && (match ops[i]? with
    | some o => isQ o.op && (Region.ready .any ops s).contains i && Region.free .any ops s i
    | none => false) && okHeadP ops n base r (s.setIfInBounds i true)
theorem midP_sound {kp : AV → AS → Prop} {K : AS → Prop} (hQ : ∀ c a d v w, Q (.panic c) (a.put d v) w → Q (.panic c) a w)
    (hp : ∀ x v st' th' z' a' w', kp x st' → Sim E N st' th' z' a' w' → Rep w' z' th' x v → Q (.panic [{ v := v, recovered := false }]) a' w')
    (hK : ∀ st' th' z' a' w', K st' → Sim E N st' th' z' a' w' → Q .normal a' w') (hd : ∀ o ∈ ops.toList, ∀ i, o.dst = some i → i < N)
    (h1 : Region.noSelect ops = true) (ord2 : List Nat) (hg2 : ((ordOf ops ord2).all fun o => isG o.op) = true) :
    ∀ (l : List Oper) (k : Nat) {s : Array Bool} {st : AS} {th : List NLoc} {z : Zone} {a : Act} {w : World}, (∀ j, j < l.length → l[j]? = ops[k + j]?) → HeadInv .any ops ops.size s → okMidP ops ord2 l.length k s = true → Sim E N st th z a w →
      exec P E N (dsOf ops) kp l st (fun st1 => exD P E N (dsOf ops) kp [] (ordOf ops ord2) st1 K) → wpAny P .any ops Q (l.length + ord2.length) s a w
  | [], k, s, st, th, z, a, w, hl, inv, ho, h, hx => by
    have hx' := execD_of (P := P) (E := E) (N := N) (tail := []) hg2 hx
    have hdr : ops.toList.drop ops.size = [] := List.drop_of_length_le (by simp)
    rw [← hdr] at hx'
    have key := execD_sound (n := ops.size) hQ hp hK hd h1 (fun s inv i hi hs j hj => by
      obtain ⟨_, oj, hoj, _⟩ := mem_ready.1 hj
      exact (Array.getElem?_eq_some_iff.1 hoj).1) ord2 inv ho h hx'
    have := anyE_out (g := 0) (fun s a w hL => by
      have := wpAny_of_seq (md := .any) (Q' := Q) (ops.toList.drop ops.size) ops.size s a w (fun j => by simp [List.getElem?_drop]) (by simpa using hL.1) hL.2
      simpa using this) _ _ _ _ key
    simpa using this
  | o :: rest, k, s, st, th, z, a, w, hl, inv, ho, h, hx => by
    have hk : ops[k]? = some o := by simpa using (hl 0 (by simp)).symm
    simp only [List.length_cons, okMidP, Bool.and_eq_true, decide_eq_true_eq] at ho
    have hmem : o ∈ ops.toList := Array.mem_toList_iff.2 (Array.mem_of_getElem? hk)
    have hdo := hd o hmem
    have hr : k ∈ Region.ready .any ops s := by rw [ho.1]; simp
    have inv' := inv.set hr (Array.getElem?_eq_some_iff.1 hk).1
    have ih : ∀ {st : AS} {th : List NLoc} {z : Zone} {a : Act} {w : World}, Sim E N st th z a w → exec P E N (dsOf ops) kp rest st (fun st1 => exD P E N (dsOf ops) kp [] (ordOf ops ord2) st1 K) → wpAny P .any ops Q (rest.length + ord2.length) (s.setIfInBounds k true) a w :=
      midP_sound hQ hp hK hd h1 ord2 hg2 rest (k + 1) (fun j hj => by have := hl (j + 1) (by simp; omega); simpa [Nat.add_assoc, Nat.add_comm 1 j] using this) inv' ho.2
    rw [List.length_cons, show rest.length + 1 + ord2.length = (rest.length + ord2.length) + 1 by omega]
    refine ⟨fun h0 => (by rw [h0] at hr; cases hr), fun i hi => ?_⟩
    rw [ho.1] at hi
    obtain rfl : i = k := by simpa using hi
    unfold exec at hx
    unfold wpOp
    simp only [hk]
    rcases guard_sound h hx with ⟨hw, hs⟩ | ⟨hw, hs⟩
    · rw [if_pos hw]
      exact .inl (stepA_sound h o hs hdo (fun x st' th' z' a' w' g1 g2 => ih g2 g1) (fun x v st' th' z' w' g1 g2 g3 => hp x v st' th' z' a w' g1 g2 g3))
    · rw [if_neg (by rw [hw]; exact Bool.false_ne_true)]
      exact ih (h.put (.r th undef) o.dst hdo) hs
theorem headP_sound {kp : AV → AS → Prop} {K : AS → Prop} {n : Nat} {mid : List Oper} {base : Array Bool → Bool} {L : Array Bool → Act → World → Prop} (hQ : ∀ c a d v w, Q (.panic c) (a.put d v) w → Q (.panic c) a w) (hd : ∀ o ∈ ops.toList, ∀ i, o.dst = some i → i < N)
    (h1 : Region.noSelect ops = true) (h2 : ∀ s, HeadInv .any ops n s → ∀ i, i < n → s.getD i true = false → ∀ j ∈ Region.ready .any ops s, j < n)
    (hdone : ∀ s a w, L s a w → ∀ j ∈ Region.ready .any ops s, n ≤ j)
    (hb : ∀ s st th z a w, HeadInv .any ops n s → base s = true → Sim E N st th z a w → exec P E N (dsOf ops) kp mid st K → L s a w) :
    ∀ (ord : List Nat) {s : Array Bool} {st : AS} {th : List NLoc} {z : Zone} {a : Act} {w : World}, HeadInv .any ops n s → okHeadP ops n base ord s = true → Sim E N st th z a w → execD P E N (dsOf ops) kp mid (ordOf ops ord) st K → anyE P ops Q n L ord.length s a w
  | [], s, st, th, z, a, w, inv, ho, h, hx => hb s st th z a w inv ho h hx
  | i :: rest, s, st, th, z, a, w, inv, ho, h, hx => by
    simp only [okHeadP, Bool.and_eq_true, decide_eq_true_eq] at ho
    obtain ⟨⟨hin, ho1⟩, ho2⟩ := ho
    cases hi : ops[i]? with
    | none => rw [hi] at ho1; simp at ho1
    | some o =>
      simp only [ordOf, List.filterMap_cons, hi] at hx
      unfold execD at hx
      change branch _ (stepG P E N st o.op (fun v st' => execD P E N (dsOf ops) kp mid (ordOf ops rest) (st'.put o.dst v) K) kp) (execD P E N (dsOf ops) kp mid (ordOf ops rest) (st.put o.dst (.r (.tuple #[]))) K) at hx
      have hdo := hd o (Array.mem_toList_iff.2 (Array.mem_of_getElem? hi))
      simp only [hi, Bool.and_eq_true] at ho1
      obtain ⟨⟨hq, hr⟩, hf⟩ := ho1
      have hr' : i ∈ Region.ready .any ops s := by simpa using hr
      have ih : ∀ {s : Array Bool} {st : AS} {th : List NLoc} {z : Zone} {a : Act} {w : World}, HeadInv .any ops n s → okHeadP ops n base rest s = true → Sim E N st th z a w → execD P E N (dsOf ops) kp mid (ordOf ops rest) st K → anyE P ops Q n L rest.length s a w :=
        headP_sound hQ hd h1 h2 hdone hb rest
      rcases guard_sound h hx with ⟨hw, hs⟩ | ⟨hw, hs⟩
      · obtain ⟨x, hqv, hs⟩ := stepG_quiet hq hs
        obtain ⟨v, hrep, hrun⟩ := qv_sound h o hqv
        exact anyE_first hi (Region.noSelect_spec h1) (fun c a w => hQ c a _ _ w) h2 hin hdone _ s a w inv (Region.free_spec hi hf) hr' (.inl ⟨hw, fun w' e => hrun w' (e.sameK h)⟩)
          (ih (inv.set hr' hin) ho2 (h.put hrep o.dst hdo) hs)
      · exact anyE_first hi (Region.noSelect_spec h1) (fun c a w => hQ c a _ _ w) h2 hin hdone _ s a w inv (Region.free_spec hi hf) hr' (.inr ⟨hw, rfl⟩)
          (ih (inv.set hr' hin) ho2 (h.put (.r th undef) o.dst hdo) hs)
def okPh (ops : Array Oper) (n m : Nat) (ord ord2 : List Nat) : Bool :=
  Region.noSelect ops && Region.sinkB .any ops n && waitB ops n && decide (n < m) && decide (m ≤ ops.size) && decide (ord.length = n) && decide (ord2.length = ops.size - m) && okHeadP ops n (okMidP ops ord2 (m - n) n) ord (Array.replicate ops.size false)
theorem awp_ph {id : Nat} {AQ : AExit → AS → Prop} {ds : List (Option Nat)} {l lm l2 : List Oper} (hm : P.follows .mixedOrders = true) (n m : Nat) (ord ord2 : List Nat) (hB : okPh ops n m ord ord2 = true) (hd : dstOK N ops = true)
    (hg : ((ordOf ops ord).all fun o => isG o.op) = true) (hg2 : ((ordOf ops ord2).all fun o => isG o.op) = true)
    (hds : dsOf ops = ds) (ht : (ops.toList.drop n).take (m - n) = lm) (hh : ordOf ops ord = l) (hh2 : ordOf ops ord2 = l2)
    (h : ∀ (K : AS → Prop) (kp : AV → AS → Prop), (∀ st', AQ .normal st' → K st') → (∀ x st', AQ (.pan x) st' → kp x st') → exD P E N ds kp lm l st (fun st1 => exD P E N ds kp [] l2 st1 K)) : AWP P E N (.region id ops true) st AQ := by
  subst hds ht hh hh2
  have h := execD_of hg (h (AQ .normal) (fun x st => AQ (.pan x) st) (fun _ h => h) (fun _ _ h => h))
  intro Q hQ th z a w hs
  simp only [okPh, Bool.and_eq_true, decide_eq_true_eq] at hB
  obtain ⟨⟨⟨⟨⟨⟨⟨b1, b2⟩, b3⟩, b4⟩, b5⟩, b6⟩, b7⟩, b8⟩ := hB
  let Q' : Exit → Act → World → Prop := fun e a w => match e with
    | .panic c => ∀ a' : Act, a'.defers = a.defers → Q (.panic c) a' w
    | e => Q e a w
  refine wp_mono (Q := Q') ?_ (fun e a w hq => by
    cases e
    case panic c => exact hq a rfl
    all_goals exact hq)
  have inv0 : HeadInv .any ops n (Array.replicate ops.size false) :=
    ⟨by simp, fun j oj _ hl => (by rw [getD_replicate_false] at hl; cases hl), fun t _ ht => getD_in (by simpa using ht) (getD_replicate_false _ _)⟩
  refine wp_region_any hm ?_
  have hQ1 : ∀ c a d v w, Q' (.panic c) (a.put d v) w → Q' (.panic c) a w := fun c a d v w hq a' ha => hq a' (by rw [ha]; cases d <;> rfl)
  have hp1 : ∀ x v st' th' z' a' w', AQ (.pan x) st' → Sim E N st' th' z' a' w' → Rep w' z' th' x v → Q' (.panic [{ v := v, recovered := false }]) a' w' := fun x v st' th' z' a' w' g1 g2 g3 a2 ha => hQ.2.2.2 x v st' th' z' w' g1 g2.mem g3 a2 (ha.trans g2.dfs)
  have hK1 : ∀ st' th' z' a' w', AQ .normal st' → Sim E N st' th' z' a' w' → Q' .normal a' w' := fun st' th' z' a' w' g1 g2 => hQ.1 st' th' z' a' w' g1 g2
  have hml : ((ops.toList.drop n).take (m - n)).length = m - n := by simp; omega
  obtain ⟨g, hgm⟩ : ∃ g, m - n = g + 1 := ⟨m - n - 1, by omega⟩
  have key := headP_sound (P := P) (Q := Q') (n := n) (L := fun s a w => (∀ j ∈ Region.ready .any ops s, n ≤ j) ∧ wpAny P .any ops Q' ((m - n) + ord2.length) s a w) hQ1 (dstOK_spec hd) b1
    (fun s inv i hi hs j hj => by
      by_cases h : j < n
      · exact h
      · exact absurd hj (tail_waits2 b2 b3 inv _ i rfl hi hs j (by omega)))
    (fun s a w hL => hL.1)
    (fun s st th z a w inv hb hs hx => by
      refine ⟨?_, ?_⟩
      · rw [hgm] at hb
        simp only [okMidP, Bool.and_eq_true, decide_eq_true_eq] at hb
        intro j hj
        rw [hb.1] at hj
        have : j = n := by simpa using hj
        omega
      · have := midP_sound (P := P) (Q := Q') (kp := fun x st => AQ (.pan x) st) hQ1 hp1 hK1 (dstOK_spec hd) b1 ord2 hg2 _ n (s := s) (fun j hj => by
          rw [hml] at hj
          rw [List.getElem?_take_of_lt hj, List.getElem?_drop]; simp) ⟨inv.size, inv.closed, fun t h1 h2 => by omega⟩ (by rw [hml]; exact hb) hs hx
        rw [hml] at this
        exact this)
    ord inv0 b8 (hs.ext (ext_drew w)) h
  have := anyE_out (fun s a w hL => hL.2) _ _ _ _ key
  rw [b6, b7, show n + (m - n + (ops.size - m)) = ops.size by omega] at this
  exact this
/-- The second phase, on its own. -/
def PhA (P : Program) (E : Env) (N : Nat) (ds : List (Option Nat)) (l2 : List Oper) (AQ : AExit → AS → Prop) (st1 : AS) : Prop := ∀ (K : AS → Prop) (kp : AV → AS → Prop), (∀ st', AQ .normal st' → K st') → (∀ x st', AQ (.pan x) st' → kp x st') → exD P E N ds kp [] l2 st1 K
theorem phA {ds : List (Option Nat)} {l2 : List Oper} {AQ : AExit → AS → Prop} {st1 : AS} (h : ∀ (K : AS → Prop) (kp : AV → AS → Prop), (∀ st', AQ .normal st' → K st') → (∀ x st', AQ (.pan x) st' → kp x st') → exD P E N ds kp [] l2 st1 K) : PhA P E N ds l2 AQ st1 := h
/-- As rD, in phases. -/
theorem rP {id : Nat} {AQ : AExit → AS → Prop} {ds : List (Option Nat)} {l lm l2 : List Oper} (hm : P.follows .mixedOrders = true) (n m : Nat) (ord ord2 : List Nat)
    (h : ∀ (K : AS → Prop) (kp : AV → AS → Prop), (∀ st', PhA P E N ds l2 AQ st' → K st') → (∀ x st', AQ (.pan x) st' → kp x st') → exD P E N ds kp lm l st K)
    (hB : okPh ops n m ord ord2 = true := by kernel_rfl) (hd : dstOK N ops = true := by kernel_rfl)
    (hg : ((ordOf ops ord).all fun o => isG o.op) = true := by kernel_rfl) (hg2 : ((ordOf ops ord2).all fun o => isG o.op) = true := by kernel_rfl)
    (hds : dsOf ops = ds := by simp only [go_sem]; rfl) (ht : (ops.toList.drop n).take (m - n) = lm := by simp only [go_sem]; rfl) (hh : ordOf ops ord = l := by simp only [go_sem]; rfl) (hh2 : ordOf ops ord2 = l2 := by simp only [go_sem]; rfl) : AWP P E N (.region id ops true) st AQ :=
  awp_ph hm n m ord ord2 hB hd hg hg2 hds ht hh hh2 fun K kp hK hkp => h _ kp (fun _ hh => hh K kp hK hkp) hkp
end
end Go.AM
/- The abstract machine: a nil slice in an own list, as a slice without elements. -/
namespace Go.AM
open Go
theorem emb_nil1 {E : Env} {N : Nat} {st : AS} {T : TypeId} (n : Nat) (h : lk st.o n = some (.lst T 1 [[.r (.slice none 0 0)]])) : Emb E N st (setNd st n (.lst T 1 [[.ro true 1 []]])) := fun th z a w hs =>
  ⟨th, z, hs.say h fun L hL hA => by
    rcases hA with hA | ⟨hp, cells, fr, h1, h2, h3, h4, h5, h6⟩
    · exact absurd hA.2 (by simp)
    · refine .inr ⟨hp, cells, fr, h1, h2, h3, h4, h5, fun i e he => ?_⟩
      cases i with
      | succ i => simp at he
      | zero =>
        obtain rfl : e = [.ro true 1 []] := by simpa using he.symm
        obtain ⟨g1, g2⟩ := h6 0 [.r (.slice none 0 0)] rfl
        refine ⟨g1, fun j x hx => ?_⟩
        cases j with
        | succ j => simp at hx
        | zero =>
          obtain rfl : x = .ro true 1 [] := by simpa using hx.symm
          obtain ⟨y, hy, hr, ho⟩ := g2 0 (.r (.slice none 0 0)) rfl
          obtain rfl := hr.r_inv
          exact ⟨_, hy, .nil _ _ _ _ _, ho⟩⟩
end Go.AM
/- The program's types, as a table. -/
namespace Go.AM
open Go
theorem mixed : Go.Proofs.Try.prog.follows .mixedOrders = true := by kernel_rfl
@[go_sem] theorem ty_3 : tyOf Go.Proofs.Try.prog 3 = some ⟨.int .i64, 1, 8, some [.int .i64 0]⟩ := by kernel_rfl
@[go_sem] theorem ty_4 : tyOf Go.Proofs.Try.prog 4 = some ⟨.bool, 1, 1, some [.bool false]⟩ := by kernel_rfl
@[go_sem] theorem ty_5 : tyOf Go.Proofs.Try.prog 5 = some ⟨.int .u8, 1, 1, some [.int .u8 0]⟩ := by kernel_rfl
@[go_sem] theorem ty_9 : tyOf Go.Proofs.Try.prog 9 = some ⟨.str, 1, 16, some [.string ⟨#[]⟩]⟩ := by kernel_rfl
@[go_sem] theorem ty_22 : tyOf Go.Proofs.Try.prog 22 = some ⟨.slice 52, 1, 24, some [.slice none 0 0]⟩ := by kernel_rfl
@[go_sem] theorem ty_24 : tyOf Go.Proofs.Try.prog 24 = some ⟨.struct [(0, 1), (1, 1)], 2, 32, some [.slice none 0 0, .int .i64 0]⟩ := by kernel_rfl
@[go_sem] theorem ty_26 : tyOf Go.Proofs.Try.prog 26 = some ⟨.int .i64, 1, 8, some [.int .i64 0]⟩ := by kernel_rfl
@[go_sem] theorem ty_30 : tyOf Go.Proofs.Try.prog 30 = some ⟨.slice 5, 1, 24, some [.slice none 0 0]⟩ := by kernel_rfl
@[go_sem] theorem ty_36 : tyOf Go.Proofs.Try.prog 36 = some ⟨.struct [(0, 1), (1, 1)], 2, 32, some [.slice none 0 0, .int .i64 0]⟩ := by kernel_rfl
@[go_sem] theorem ty_40 : tyOf Go.Proofs.Try.prog 40 = some ⟨.slice 36, 1, 24, some [.slice none 0 0]⟩ := by kernel_rfl
@[go_sem] theorem ty_49 : tyOf Go.Proofs.Try.prog 49 = some ⟨.slice 30, 1, 24, some [.slice none 0 0]⟩ := by kernel_rfl
@[go_sem] theorem ty_50 : tyOf Go.Proofs.Try.prog 50 = some ⟨.slice 3, 1, 24, some [.slice none 0 0]⟩ := by kernel_rfl
@[go_sem] theorem ty_52 : tyOf Go.Proofs.Try.prog 52 = some ⟨.struct [(0, 1), (1, 1), (2, 1), (3, 1), (4, 1)], 5, 88, some [.bool false, .slice none 0 0, .slice none 0 0, .slice none 0 0, .int .i64 0]⟩ := by kernel_rfl
@[go_sem] theorem ty_55 : tyOf Go.Proofs.Try.prog 55 = some ⟨.map 3 83, 1, 8, some [.map none]⟩ := by kernel_rfl
@[go_sem] theorem ty_56 : tyOf Go.Proofs.Try.prog 56 = some ⟨.slice 50, 1, 24, some [.slice none 0 0]⟩ := by kernel_rfl
@[go_sem] theorem ty_58 : tyOf Go.Proofs.Try.prog 58 = some ⟨.struct [(0, 2), (2, 1), (3, 1)], 4, 64, some [.slice none 0 0, .int .i64 0, .map none, .slice none 0 0]⟩ := by kernel_rfl
@[go_sem] theorem ty_62 : tyOf Go.Proofs.Try.prog 62 = some ⟨.slice 4, 1, 24, some [.slice none 0 0]⟩ := by kernel_rfl
@[go_sem] theorem ty_83 : tyOf Go.Proofs.Try.prog 83 = some ⟨.struct [], 0, 0, some []⟩ := by kernel_rfl
@[go_sem] theorem ty_95 : tyOf Go.Proofs.Try.prog 95 = some ⟨.int .u64, 1, 8, some [.int .u64 0]⟩ := by kernel_rfl
end Go.AM
/- Plain data of the program, as cells. -/
namespace Go.AM
open Go
theorem drop_at {α : Type} {l : List α} {k : Nat} {x : α} (h : l[k]? = some x) : l.drop k = x :: l.drop (k + 1) := by
  obtain ⟨hk, rfl⟩ := List.getElem?_eq_some_iff.1 h
  exact List.drop_eq_getElem_cons hk
def eI (n : Int) : List AV := [.r (.int .i64 n)]
@[simp] theorem ptA_eI (a : Int) : (∀ x, x ∈ eI a → PT x) = True := eq_true (by intro x hx; simp [eI] at hx; subst hx; exact .r _)
instance : PTf eI := ⟨fun a => of_eq_true (ptA_eI a)⟩
end Go.AM
/- Bytes: bytes.Compare, copies. -/
namespace Go.AM
open Go Go.RowKit
attribute [local irreducible] AWP retA
theorem rep_bytes {P : Program} {w : World} {z : Zone} {t : Bool} {l : List UInt8} {v : Value} (h : Rep w z [] (.ro t 1 (l.map eByte)) v) : (Extern.Bytes.bytesOf v).run P w = .ok ⟨l.toArray⟩ w := by
  obtain ⟨ad, c, rfl, hc, hh⟩ := h.ro_inv
  rcases hh with h1 | ⟨b, o, rfl, hz, hcell⟩
  · have : l = [] := by simpa using h1
    subst this
    cases ad <;> rfl
  · have key := Lib.run_loadBytesX (P := P) (w := w) (l.map fun x => (x.toNat : Int)) ⟨b, o, none⟩ .empty (by
      intro j x hx
      rw [List.getElem?_map, Option.map_eq_some_iff] at hx
      obtain ⟨y, hy, rfl⟩ := hx
      obtain ⟨_, h3⟩ := hcell j (eByte y) (by rw [List.getElem?_map, hy]; rfl)
      obtain ⟨u, hu, hr, _⟩ := h3 0 _ rfl
      obtain rfl := hr.r_inv
      rw [add_none]; simpa using hu)
    have e1 : Lib.bytesOf (l.map fun x => (x.toNat : Int)) = l := by
      rw [Lib.bytesOf, List.map_map]
      refine (List.map_congr_left (fun x _ => ?_)).trans (List.map_id _)
      show UInt8.ofNat ((x.toNat : Int).toNat) = x
      rw [Int.toNat_natCast, UInt8.ofNat_toNat]
    rw [e1, List.length_map] at key
    show (Extern.Bytes.loadBytes ⟨b, o, none⟩ (l.map eByte).length .empty).run P w = _
    rw [List.length_map, key]
    simp
theorem run_bcmp {w : World} {z : Zone} {t u : Bool} {l m : List UInt8} {a b : Value} (ha : Rep w z [] (.ro t 1 (l.map eByte)) a) (hb : Rep w z [] (.ro u 1 (m.map eByte)) b) :
    (callFunc 56 #[a, b]).run Go.Proofs.Try.prog w = .ok (.value (.int .i64 (Lib.compareBytes l m))) w := by
  have hf : Go.Proofs.Try.prog.funcs[56]? = some Go.Proofs.Try.f56 := by kernel_rfl
  rw [run_callFunc_extern hf (by kernel_rfl) (by kernel_rfl) (by kernel_rfl) (e := Extern.BytealgCompare.compare) (by kernel_rfl)]
  have : (Extern.BytealgCompare.compare #[a, b]).run Go.Proofs.Try.prog w = .ok (.int .i64 (Lib.compareBytes l m)) w := by
    show ((Extern.Bytes.bytesOf a) >>= fun x => (Extern.Bytes.bytesOf b) >>= fun y => pure (goInt (Extern.BytealgCompare.cmp x y))).run _ w = _
    simp only [Sem.run_bind, rep_bytes ha, rep_bytes hb, Result.andThen_ok, Sem.run_pure, Lib.cmp_eq]
    rfl
  rw [this]; rfl
theorem bcmp_any {w : World} {z : Zone} {t u : Bool} {l m : List UInt8} {a b : Value} (ha : Rep w z [] (.ro t 1 (l.map eByte)) a) (hb : Rep w z [] (.ro u 1 (m.map eByte)) b) :
    Calls Go.Proofs.Try.prog 40 #[a, b] w fun e w' => e = .returned (.int .i64 (Lib.compareBytes l m)) ∧ Below w.heap.size w w' := by
  have h75 := run_bcmp ha hb
  go_enter Go.Proofs.Try.func40, Go.Proofs.Try.ntmps40
  go_wp2
  go_ret
  exact ⟨rfl, Below.refl _ _⟩
theorem bcmp_con (G : List (Nat × List Value)) (t u : Bool) (l m : List UInt8) : Con Go.Proofs.Try.prog G 40 [.ro t 1 (l.map eByte), .ro u 1 (m.map eByte)] [] 0 (Is (.r (.int .i64 (Lib.compareBytes l m))) [] 0) No :=
  con_of_calls (by kernel_rfl) (fun w z vs hz hr hG => by
    obtain ⟨v, r, rfl, h1, h2⟩ := hr.head
    obtain ⟨v2, r2, rfl, h3, h4⟩ := h2.head
    obtain rfl := h4.of_nil
    exact bcmp_any h1 h3)
set_option maxRecDepth 100000 in
theorem cloneB_con (G : List (Nat × List Value)) (t : Bool) (x : UInt8) (l : List UInt8) (hl : l.length ≤ 1048576) : Con Go.Proofs.Try.prog G 46 [.ro t 1 ((x :: l).map eByte)] [] 0 (Is (.ro true 1 ((x :: l).map eByte)) [] 0) No := by
  refine con_of_awp Go.Proofs.Try.func46 rfl (by kernel_rfl) (of_decide_eq_true (by kernel_rfl)) ?_; intro E hG hE; subst hG; simp only [ent]
  (repeat' (first | refine awp_seq ?_ | refine awp_block ?_ | refine awp_skip ?_ | refine awp_exit ?_ | ((first | refine rR (fun K kp hK hkp => ?_) | refine iG ?_); simp (implicitDefEqProofs := false) (maxSteps := 2000000) (disch := omega) only [go_sem]; (repeat' (first | (refine hK _ ?_; clear hK hkp kp K) | (with_reducible refine And.intro ?_ ?_) | omega))) | ((first | refine aG (fun h => ?_) (fun h => ?_) | refine aD (fun h => ?_) (fun h => ?_) | refine aX (fun h => ?_) (fun h => ?_)) <;> simp only [h]) | refine awp_cond_t rfl ?_ | refine awp_cond_f rfl ?_ | ((refine awp_cond rfl (fun h => ?_) (fun h => ?_) <;> try simp only [ifs] at h) <;> (try (exfalso; omega))) | refine awp_ret ?_))
  (refine retA_is (by (simp (implicitDefEqProofs := false) (maxSteps := 2000000) (disch := omega) only [go_sem, Go.Proofs.Try.results46]); rfl) ?_; refine embS_frz (by simp only [oneA]; simp (implicitDefEqProofs := false) (maxSteps := 2000000) (disch := omega) only [go_sem]; rfl) ?_; refine (embV_nil hE (by simp) ?_).s; simp [oneA, ren, renL])
set_option maxRecDepth 100000 in
theorem bytesCopy_con (G : List (Nat × List Value)) (t : Bool) (l : List UInt8) (hl : l.length ≤ 1048576) : Con Go.Proofs.Try.prog G 44 [.ro t 1 (l.map eByte)] [] 0 (Is (.ro true 1 (l.map eByte)) [] 0) No := by
  refine con_of_awp Go.Proofs.Try.func44 rfl (by kernel_rfl) (of_decide_eq_true (by kernel_rfl)) ?_; intro E hG hE; subst hG; simp only [ent]
  (repeat' (first | refine awp_seq ?_ | refine awp_block ?_ | refine awp_skip ?_ | refine awp_exit ?_ | ((first | refine rR (fun K kp hK hkp => ?_) | refine iG ?_); simp (implicitDefEqProofs := false) (maxSteps := 2000000) (disch := omega) only [go_sem]; (repeat' (first | (refine hK _ ?_; clear hK hkp kp K) | (with_reducible refine And.intro ?_ ?_) | omega))) | ((first | refine aG (fun h => ?_) (fun h => ?_) | refine aD (fun h => ?_) (fun h => ?_) | refine aX (fun h => ?_) (fun h => ?_)) <;> simp only [h]) | refine awp_cond_t rfl ?_ | refine awp_cond_f rfl ?_ | ((refine awp_cond rfl (fun h => ?_) (fun h => ?_) <;> try simp only [ifs] at h) <;> (try (exfalso; omega))) | refine awp_ret ?_))
  (refine AWP.emb (emb_nil 3 5 1 ?_) ?_; (· rfl); dsimp only)
  refine awp_loop (fun k : Nat => ⟨[(4, .r (.int .i64 k)), (3, .s 0 0 k), (0, .ro t 1 (l.map eByte))], [(0, .lst 5 1 ((l.take k).map eByte))], 1⟩) (fun k => k ≤ l.length) (fun k => l.length - k) 0 ?_ ?_ ?_
  · simp
  · (refine emb [0] ?_ ?_ rfl ?_ ?_ ?_ ?_ <;> simp [okM, okO, lk, ren, renL, renNd, by_, hE] <;> (try omega) <;> (try (intro i hi; first | (rcases i with _ | _ | i; rfl; rfl; (exfalso; omega)) | (rcases i with _ | _ | _ | i; rfl; rfl; rfl; (exfalso; omega)) | (rcases i with _ | _ | _ | _ | i; rfl; rfl; rfl; rfl; (exfalso; omega)) | (rcases i with _ | _ | _ | _ | _ | i; rfl; rfl; rfl; rfl; rfl; (exfalso; omega)) | (rcases i with _ | _ | _ | _ | _ | _ | i; rfl; rfl; rfl; rfl; rfl; rfl; (exfalso; omega)))))
  intro k hk
  have hz : (l.take k).length = k := by rw [List.length_take]; omega
  by_cases hlt : k < l.length
  · obtain ⟨x, hx⟩ : ∃ x, l[k]? = some x := ⟨l[k], by simp [hlt]⟩
    have htk : l.take (k + 1) = l.take k ++ [x] := by rw [List.take_add_one, hx]; rfl
    (repeat' (first | refine awp_seq ?_ | refine awp_block ?_ | refine awp_skip ?_ | refine awp_exit ?_ | ((first | refine rR (fun K kp hK hkp => ?_) | refine iG ?_); simp (implicitDefEqProofs := false) (maxSteps := 2000000) (disch := omega) only [go_sem, hx, eByte]; (repeat' (first | (refine hK _ ?_; clear hK hkp kp K) | (with_reducible refine And.intro ?_ ?_) | omega))) | ((first | refine aG (fun h => ?_) (fun h => ?_) | refine aD (fun h => ?_) (fun h => ?_) | refine aX (fun h => ?_) (fun h => ?_)) <;> simp only [h]) | refine awp_cond_t rfl ?_ | refine awp_cond_f rfl ?_ | ((refine awp_cond rfl (fun h => ?_) (fun h => ?_) <;> try simp only [ifs] at h) <;> (try (exfalso; omega))) | refine awp_ret ?_))
    ((first | (refine nextB (k + 1) ?_ ?_ ?_) | (refine nextA (k + 1) ?_ ?_ ?_) | (refine nextE (k + 1) ?_ ?_ ?_)); rotate_left; (· (try dsimp only); (first | omega | (simp only [List.length_drop, List.length_cons, List.length_append]; omega) | (simp; done) | (simp; omega))); (· (refine emb [2] ?_ ?_ rfl ?_ ?_ ?_ ?_ <;> simp [okM, okO, lk, ren, renL, renNd, by_, hE, eByte, htk, List.take_take, Nat.min_self] <;> (try omega) <;> (try (intro i hi; first | (rcases i with _ | _ | i; rfl; rfl; (exfalso; omega)) | (rcases i with _ | _ | _ | i; rfl; rfl; rfl; (exfalso; omega)) | (rcases i with _ | _ | _ | _ | i; rfl; rfl; rfl; rfl; (exfalso; omega)) | (rcases i with _ | _ | _ | _ | _ | i; rfl; rfl; rfl; rfl; rfl; (exfalso; omega)) | (rcases i with _ | _ | _ | _ | _ | _ | i; rfl; rfl; rfl; rfl; rfl; rfl; (exfalso; omega)))))))
    omega
  · obtain rfl : k = l.length := by omega
    rw [List.take_length]
    (repeat' (first | refine awp_seq ?_ | refine awp_block ?_ | refine awp_skip ?_ | refine awp_exit ?_ | ((first | refine rR (fun K kp hK hkp => ?_) | refine iG ?_); simp (implicitDefEqProofs := false) (maxSteps := 2000000) (disch := omega) only [go_sem]; (repeat' (first | (refine hK _ ?_; clear hK hkp kp K) | (with_reducible refine And.intro ?_ ?_) | omega))) | ((first | refine aG (fun h => ?_) (fun h => ?_) | refine aD (fun h => ?_) (fun h => ?_) | refine aX (fun h => ?_) (fun h => ?_)) <;> simp only [h]) | refine awp_cond_t rfl ?_ | refine awp_cond_f rfl ?_ | ((refine awp_cond rfl (fun h => ?_) (fun h => ?_) <;> try simp only [ifs] at h) <;> (try (exfalso; omega))) | refine awp_ret ?_))
    (refine retA_is (by (simp (implicitDefEqProofs := false) (maxSteps := 2000000) (disch := omega) only [go_sem, Go.Proofs.Try.results44]); rfl) ?_; refine embS_frz (by simp only [oneA]; simp (implicitDefEqProofs := false) (maxSteps := 2000000) (disch := omega) only [go_sem]; rfl) ?_; refine (embV_nil hE (by simp) ?_).s; simp [oneA, ren, renL])
set_option maxRecDepth 100000 in
theorem keyBefore_con (G : List (Nat × List Value)) (t u : Bool) (l m : List UInt8) : Con Go.Proofs.Try.prog G 32 [.ro t 1 (l.map eByte), .ro u 1 (m.map eByte)] [] 0 (Is (.r (.bool (Op.bytesLess l m))) [] 0) No := by
  refine con_of_awp Go.Proofs.Try.func32 rfl (by kernel_rfl) (of_decide_eq_true (by kernel_rfl)) ?_; intro E hG hE; subst hG; simp only [ent]
  (repeat' (first | refine awp_seq ?_ | refine awp_block ?_ | refine awp_skip ?_ | refine awp_exit ?_ | ((first | refine rR (fun K kp hK hkp => ?_) | refine iG ?_); simp (implicitDefEqProofs := false) (maxSteps := 2000000) (disch := omega) only [go_sem, unb_map]; (repeat' (first | (refine hK _ ?_; clear hK hkp kp K) | (with_reducible refine And.intro ?_ ?_) | omega))) | ((first | refine aG (fun h => ?_) (fun h => ?_) | refine aD (fun h => ?_) (fun h => ?_) | refine aX (fun h => ?_) (fun h => ?_)) <;> simp only [h]) | refine awp_cond_t rfl ?_ | refine awp_cond_f rfl ?_ | ((refine awp_cond rfl (fun h => ?_) (fun h => ?_) <;> try simp only [ifs] at h) <;> (try (exfalso; omega))) | refine awp_ret ?_))
  (refine retA_is (by (simp (implicitDefEqProofs := false) (maxSteps := 2000000) (disch := omega) only [go_sem, Go.Proofs.Try.results32]); rfl) ?_; refine eN hE ?_; simp [oneA, ren, renL])
  all_goals simp [ByteArray.toList_eq]
end Go.AM
/- Trees: plain law, 1: what a tree is; the walk from the root down. -/
namespace Go.AM
abbrev Ky := List UInt8
def ltK (a b : Ky) : Bool := Go.Op.bytesLess a b
structure PG where
  leaf : Bool
  keys : List Ky
  kids : List Int
  high : Ky
  next : Int
instance : Inhabited PG := ⟨⟨true, [], [], [], -1⟩⟩
def pg (ps : List PG) (i : Nat) : PG := ps.getD i default
/-- The pages below one. -/
def kidsOf (ps : List PG) (i : Nat) : List Nat := if (pg ps i).leaf then [] else (pg ps i).kids.map Int.toNat
def loP (p : PG) (k : Nat) (low : Ky) : Ky := if k = 0 then low else p.keys.getD (k - 1) []
def hiP (p : PG) (k : Nat) (high : Ky) : Ky := if k < p.keys.length then p.keys.getD k [] else high
def firstLow (p : PG) (low : Ky) : Bool := match p.keys with
  | [] => true
  | k :: _ => !ltK k low
/-- A page with all below it. -/
def Good (ps : List PG) : Nat → Nat → Ky → Ky → Prop
  | 0, i, low, high => (pg ps i).leaf = true ∧ (pg ps i).high = high ∧ firstLow (pg ps i) low = true
  | d + 1, i, low, high => (pg ps i).leaf = false ∧ (pg ps i).high = high ∧ firstLow (pg ps i) low = true ∧ ∀ (k kid : Nat), (kidsOf ps i)[k]? = some kid → Good ps d kid (loP (pg ps i) k low) (hiP (pg ps i) k high)
def lvl (ps : List PG) : Nat → List Nat → List Nat
  | 0, l => l
  | j + 1, l => lvl ps j (l.flatMap (kidsOf ps))
def pre (ps : List PG) : Nat → Nat → List Nat
  | 0, i => [i]
  | d + 1, i => i :: (kidsOf ps i).flatMap (pre ps d)
theorem lvl_append (ps : List PG) : ∀ (j : Nat) (a b : List Nat), lvl ps j (a ++ b) = lvl ps j a ++ lvl ps j b
  | 0, _, _ => rfl
  | j + 1, a, b => by simp only [lvl, List.flatMap_append, lvl_append ps j]
theorem lvl_nil (ps : List PG) : ∀ (j : Nat), lvl ps j [] = []
  | 0 => rfl
  | j + 1 => by simp only [lvl, List.flatMap_nil, lvl_nil ps j]
theorem lvl_one (ps : List PG) (j i : Nat) : lvl ps (j + 1) [i] = lvl ps j (kidsOf ps i) := by simp [lvl]
theorem leaf_kids {ps : List PG} {i : Nat} (h : (pg ps i).leaf = true) : kidsOf ps i = [] := by simp [kidsOf, h]
/-- Below the leaves there is nothing. -/
theorem good_over {ps : List PG} : ∀ {d i : Nat} {low high : Ky}, Good ps d i low high → ∀ j, d < j → lvl ps j [i] = []
  | 0, i, low, high, h, j, hj => by
    obtain ⟨j, rfl⟩ : ∃ k, j = k + 1 := ⟨j - 1, by omega⟩
    rw [lvl_one, leaf_kids h.1, lvl_nil]
  | d + 1, i, low, high, h, j, hj => by
    obtain ⟨j, rfl⟩ : ∃ k, j = k + 1 := ⟨j - 1, by omega⟩
    rw [lvl_one]
    have hs : ∀ x ∈ kidsOf ps i, lvl ps j [x] = [] := fun x hx => by
      obtain ⟨k, hk⟩ := List.mem_iff_getElem?.1 hx
      exact good_over (h.2.2.2 k x hk) j (by omega)
    generalize kidsOf ps i = l at hs
    induction l with
    | nil => exact lvl_nil ps j
    | cons x r ih =>
      rw [show x :: r = [x] ++ r from rfl, lvl_append, hs x (by simp), ih fun y hy => hs y (by simp [hy])]; rfl
/-- The walk. -/
structure WS where
  met : List Nat
  rows : List (List Nat)
def addRow (rows : List (List Nat)) (level i : Nat) : List (List Nat) := if level < rows.length then rows.set level (rows.getD level [] ++ [i]) else rows ++ [[i]]
def kidsF (rec : Nat → Ky → Ky → Nat → WS → Int × WS) (p : PG) (low high : Ky) (lev : Nat) : Nat → Int → WS → List Nat → Int × WS
  | _, deep, st, [] => (deep, st)
  | k, deep, st, kid :: r => if (rec kid (loP p k low) (hiP p k high) lev st).1 < 0 ∨ (deep ≠ -2 ∧ (rec kid (loP p k low) (hiP p k high) lev st).1 ≠ deep) then (-1, (rec kid (loP p k low) (hiP p k high) lev st).2)
    else kidsF rec p low high lev (k + 1) (rec kid (loP p k low) (hiP p k high) lev st).1 (rec kid (loP p k low) (hiP p k high) lev st).2 r
def walkF (ps : List PG) : Nat → Nat → Ky → Ky → Nat → WS → Int × WS
  | 0, _, _, _, _, st => (-1, st)
  | f + 1, i, low, high, level, st => if i ∈ st.met then (-1, st) else
    if (pg ps i).high ≠ high ∨ firstLow (pg ps i) low = false then (-1, ⟨st.met ++ [i], st.rows⟩) else
    if (pg ps i).leaf = true then ((level : Int), ⟨st.met ++ [i], addRow st.rows level i⟩) else
    kidsF (walkF ps f) (pg ps i) low high (level + 1) 0 (-2) ⟨st.met ++ [i], addRow st.rows level i⟩ (kidsOf ps i)
theorem addRow_len (rows : List (List Nat)) (level i : Nat) (h : level ≤ rows.length) : (addRow rows level i).length = max rows.length (level + 1) := by
  unfold addRow; split
  · rw [List.length_set]; omega
  · rw [List.length_append]; simp; omega
theorem addRow_get (rows : List (List Nat)) (level i : Nat) (h : level ≤ rows.length) (m : Nat) : (addRow rows level i).getD m [] = rows.getD m [] ++ if m = level then [i] else [] := by
  unfold addRow
  simp only [List.getD_eq_getElem?_getD]
  split
  · rename_i hl
    rw [List.getElem?_set]
    by_cases hm : level = m
    · subst hm; simp [hl]
    · rw [if_neg hm, if_neg (Ne.symm hm), List.append_nil]
  · rename_i hl
    obtain rfl : level = rows.length := by omega
    by_cases hm : m = rows.length
    · subst hm; simp
    · rw [if_neg hm, List.append_nil]
      by_cases hlt : m < rows.length
      · rw [List.getElem?_append_left hlt]
      · rw [List.getElem?_eq_none (by simp; omega), List.getElem?_eq_none (by omega)]
/-- What the walk ends in when it goes well. -/
structure WalkOK (ps : List PG) (d i level : Nat) (low high : Ky) (st : WS) (r : Int × WS) : Prop where
  deep : r.1 = ((level + d : Nat) : Int)
  good : Good ps d i low high
  met : r.2.met = st.met ++ pre ps d i
  nodup : (st.met ++ pre ps d i).Nodup
  len : r.2.rows.length = max st.rows.length (level + d + 1)
  rows : ∀ m, r.2.rows.getD m [] = st.rows.getD m [] ++ if level ≤ m then lvl ps (m - level) [i] else []
structure KidsOK (ps : List PG) (p : PG) (d lev k : Nat) (low high : Ky) (l : List Nat) (st : WS) (r : Int × WS) : Prop where
  deep : r.1 = ((lev + d : Nat) : Int)
  good : ∀ (j kid : Nat), l[j]? = some kid → Good ps d kid (loP p (k + j) low) (hiP p (k + j) high)
  met : r.2.met = st.met ++ l.flatMap (pre ps d)
  nodup : (st.met ++ l.flatMap (pre ps d)).Nodup
  len : r.2.rows.length = max st.rows.length (lev + d + 1)
  rows : ∀ m, r.2.rows.getD m [] = st.rows.getD m [] ++ if lev ≤ m then lvl ps (m - lev) l else []
section
variable {ps : List PG} {rec : Nat → Ky → Ky → Nat → WS → Int × WS} {p : PG} {low high : Ky} {lev : Nat}
/-- Kids in their turn: soundness. -/
theorem kids_sound (hrec : ∀ i low high st, lev ≤ st.rows.length → st.met.Nodup → 0 ≤ (rec i low high lev st).1 → ∃ d, WalkOK ps d i lev low high st (rec i low high lev st)) :
    ∀ (l : List Nat) (k d0 : Nat) (deep : Int) (st : WS), lev ≤ st.rows.length → st.met.Nodup → (deep = -2 ∨ (deep = ((lev + d0 : Nat) : Int) ∧ lev + d0 + 1 ≤ st.rows.length)) → (deep = -2 → l ≠ []) → 0 ≤ (kidsF rec p low high lev k deep st l).1 →
      ∃ d, (deep ≠ -2 → d = d0) ∧ KidsOK ps p d lev k low high l st (kidsF rec p low high lev k deep st l)
  | [], k, d0, deep, st, hr, hn, hd, he, h => by
    rcases hd with hd | ⟨hd, hl⟩
    · exact absurd rfl (he hd)
    · exact ⟨d0, fun _ => rfl, hd, fun j kid hj => by simp at hj, by simp [kidsF], by simpa using hn, by simp only [kidsF]; omega, fun m => by simp [kidsF, lvl_nil]⟩
  | kid :: r, k, d0, deep, st, hr, hn, hd, he, h => by
    rw [kidsF] at h ⊢
    by_cases hc : (rec kid (loP p k low) (hiP p k high) lev st).1 < 0 ∨ (deep ≠ -2 ∧ (rec kid (loP p k low) (hiP p k high) lev st).1 ≠ deep)
    · rw [if_pos hc] at h; simp at h
    · rw [if_neg hc] at h ⊢
      obtain ⟨d, w⟩ := hrec kid (loP p k low) (hiP p k high) st hr hn (by omega)
      have hdd : deep ≠ -2 → d = d0 := fun h1 => by
        have := w.deep
        rcases hd with hd | ⟨hd, _⟩
        · exact absurd hd h1
        · omega
      generalize rec kid (loP p k low) (hiP p k high) lev st = x at h w ⊢
      obtain ⟨d', h2, K⟩ := kids_sound hrec r (k + 1) d x.1 x.2 (by rw [w.len]; omega) (by rw [w.met]; exact w.nodup) (.inr ⟨w.deep, by rw [w.len]; omega⟩) (fun h1 => by have := w.deep; omega) h
      obtain rfl : d' = d := h2 (by have := w.deep; omega)
      refine ⟨d', hdd, K.deep, fun j kid' hj => ?_, ?_, ?_, ?_, fun m => ?_⟩
      · cases j with
        | zero => simp at hj; subst hj; exact w.good
        | succ j =>
          have := K.good j kid' (by simpa using hj)
          rwa [show k + 1 + j = k + (j + 1) by omega] at this
      · rw [K.met, w.met, List.flatMap_cons, List.append_assoc]
      · have := K.nodup
        rw [w.met] at this
        rw [List.flatMap_cons, ← List.append_assoc]; exact this
      · rw [K.len, w.len]; omega
      · rw [K.rows, w.rows]
        by_cases hm : lev ≤ m
        · rw [if_pos hm, if_pos hm, if_pos hm, List.append_assoc, show kid :: r = [kid] ++ r from rfl, lvl_append]
        · rw [if_neg hm, if_neg hm, if_neg hm, List.append_assoc]; rfl
/-- Completeness. -/
theorem kids_full {d : Nat} (hrec : ∀ i low high st, lev ≤ st.rows.length → Good ps d i low high → (st.met ++ pre ps d i).Nodup → 0 ≤ (rec i low high lev st).1)
    (hs : ∀ i low high st, lev ≤ st.rows.length → st.met.Nodup → 0 ≤ (rec i low high lev st).1 → ∃ d, WalkOK ps d i lev low high st (rec i low high lev st))
    (hu : ∀ i low high low' high' d', Good ps d i low high → Good ps d' i low' high' → d' = d) :
    ∀ (l : List Nat) (k : Nat) (deep : Int) (st : WS), lev ≤ st.rows.length → (deep = -2 ∨ deep = ((lev + d : Nat) : Int)) → (deep = -2 → l ≠ []) → (st.met ++ l.flatMap (pre ps d)).Nodup →
      (∀ (j kid : Nat), l[j]? = some kid → Good ps d kid (loP p (k + j) low) (hiP p (k + j) high)) → 0 ≤ (kidsF rec p low high lev k deep st l).1
  | [], k, deep, st, hr, hd, he, hn, hg => by
    rcases hd with hd | hd
    · exact absurd rfl (he hd)
    · simp only [kidsF, hd]; omega
  | kid :: r, k, deep, st, hr, hd, he, hn, hg => by
    rw [kidsF]
    rw [List.flatMap_cons, ← List.append_assoc] at hn
    have hn1 := (List.nodup_append.1 hn).1
    have h1 := hrec kid (loP p k low) (hiP p k high) st hr (hg 0 kid rfl) hn1
    obtain ⟨d', w⟩ := hs kid (loP p k low) (hiP p k high) st hr (List.nodup_append.1 hn1).1 h1
    obtain rfl : d' = d := hu _ _ _ _ _ _ (hg 0 kid rfl) w.good
    generalize rec kid (loP p k low) (hiP p k high) lev st = x at h1 w ⊢
    have hx := w.deep
    rw [if_neg (by omega)]
    refine kids_full hrec hs hu r (k + 1) x.1 x.2 (by rw [w.len]; omega) (.inr hx) (fun h => by omega) (by rw [w.met]; exact hn) fun j kid' hj => ?_
    have := hg (j + 1) kid' (by simpa using hj)
    rwa [show k + (j + 1) = k + 1 + j by omega] at this
end
/-- How deep a good page is, is told by its pages alone. -/
theorem good_deep {ps : List PG} (hk : ∀ i, (pg ps i).leaf = false → kidsOf ps i ≠ []) : ∀ (d i : Nat) (low high low' high' : Ky) (d' : Nat), Good ps d i low high → Good ps d' i low' high' → d' = d
  | 0, i, low, high, low', high', 0, _, _ => rfl
  | 0, i, low, high, low', high', d' + 1, h, h' => by have := h.1; rw [h'.1] at this; cases this
  | d + 1, i, low, high, low', high', 0, h, h' => by have := h.1; rw [h'.1] at this; cases this
  | d + 1, i, low, high, low', high', d' + 1, h, h' => by
    obtain ⟨x, r, hx⟩ : ∃ x r, kidsOf ps i = x :: r := by
      have := hk i h.1
      cases hc : kidsOf ps i with
      | nil => exact absurd hc this
      | cons x r => exact ⟨x, r, rfl⟩
    have h0 : (kidsOf ps i)[0]? = some x := by rw [hx]; rfl
    rw [good_deep hk d x _ _ _ _ d' (h.2.2.2 0 x h0) (h'.2.2.2 0 x h0)]
theorem walk_sound {ps : List PG} (hk : ∀ i, (pg ps i).leaf = false → kidsOf ps i ≠ []) : ∀ (f i : Nat) (low high : Ky) (level : Nat) (st : WS), level ≤ st.rows.length → st.met.Nodup → 0 ≤ (walkF ps f i low high level st).1 → ∃ d, WalkOK ps d i level low high st (walkF ps f i low high level st)
  | 0, i, low, high, level, st, hr, hn, h => by simp [walkF] at h
  | f + 1, i, low, high, level, st, hr, hn, h => by
    rw [walkF] at h ⊢
    by_cases h1 : i ∈ st.met
    · rw [if_pos h1] at h; simp at h
    rw [if_neg h1] at h ⊢
    by_cases h2 : (pg ps i).high ≠ high ∨ firstLow (pg ps i) low = false
    · rw [if_pos h2] at h; simp at h
    rw [if_neg h2] at h ⊢
    have h2a : (pg ps i).high = high := by
      by_cases hx : (pg ps i).high = high
      · exact hx
      · exact absurd (.inl hx) h2
    have h2b : firstLow (pg ps i) low = true := by
      cases hx : firstLow (pg ps i) low
      · exact absurd (.inr hx) h2
      · rfl
    have hn1 : (st.met ++ [i]).Nodup := List.nodup_append.2 ⟨hn, by simp, fun a ha b hb => by simp at hb; subst hb; rintro rfl; exact h1 ha⟩
    by_cases h3 : (pg ps i).leaf = true
    · rw [if_pos h3]
      refine ⟨0, rfl, ⟨h3, h2a, h2b⟩, rfl, hn1, ?_, fun m => ?_⟩
      · exact addRow_len _ _ _ hr
      · show (addRow st.rows level i).getD m [] = _
        rw [addRow_get _ _ _ hr]
        congr 1
        by_cases hm : m = level
        · subst hm; simp [lvl]
        · rw [if_neg hm]
          by_cases hle : level ≤ m
          · obtain ⟨j, hj⟩ : ∃ j, m - level = j + 1 := ⟨m - level - 1, by omega⟩
            rw [if_pos hle, hj, lvl_one, leaf_kids h3, lvl_nil]
          · rw [if_neg hle]
    · rw [if_neg h3] at h ⊢
      have h3' : (pg ps i).leaf = false := by simpa using h3
      have hlen := addRow_len st.rows level i hr
      obtain ⟨d, _, K⟩ := kids_sound (ps := ps) (rec := walkF ps f) (p := pg ps i) (low := low) (high := high) (lev := level + 1) (fun i low high st hr hn h => walk_sound hk f i low high (level + 1) st hr hn h) (kidsOf ps i) 0 0 (-2) ⟨st.met ++ [i], addRow st.rows level i⟩ (by simp only [hlen]; omega) hn1 (.inl rfl) (fun _ => hk i h3') h
      refine ⟨d + 1, ?_, ⟨h3', h2a, h2b, fun k kid hkk => ?_⟩, ?_, ?_, ?_, fun m => ?_⟩
      · rw [K.deep]; omega
      · have := K.good k kid hkk
        rwa [Nat.zero_add] at this
      · rw [K.met, pre, List.append_assoc]; rfl
      · have := K.nodup
        rw [pre]; simpa using this
      · rw [K.len, hlen]; omega
      · rw [K.rows, addRow_get _ _ _ hr, List.append_assoc]
        congr 1
        by_cases hm : m = level
        · subst hm; rw [if_pos rfl, if_neg (by omega), if_pos (Nat.le_refl _), Nat.sub_self]; rfl
        · rw [if_neg hm]
          by_cases hle : level ≤ m
          · obtain ⟨j, hj⟩ : ∃ j, m - level = j + 1 := ⟨m - level - 1, by omega⟩
            rw [if_pos hle, if_pos (by omega), hj, lvl_one, show m - (level + 1) = j by omega]; rfl
          · rw [if_neg hle, if_neg (by omega)]; rfl
/-- With room enough the walk of a good page goes well. -/
theorem walk_full {ps : List PG} (hk : ∀ i, (pg ps i).leaf = false → kidsOf ps i ≠ []) : ∀ (f d i : Nat) (low high : Ky) (level : Nat) (st : WS), level ≤ st.rows.length → d < f → Good ps d i low high → (st.met ++ pre ps d i).Nodup → 0 ≤ (walkF ps f i low high level st).1
  | 0, d, i, low, high, level, st, hr, hf, hg, hn => by omega
  | f + 1, 0, i, low, high, level, st, hr, hf, hg, hn => by
    rw [walkF]
    have h1 : i ∉ st.met := fun h => (List.nodup_append.1 hn).2.2 i h i (by simp [pre]) rfl
    rw [if_neg h1, if_neg (by rw [hg.2.1, hg.2.2]; simp), if_pos hg.1]
    exact Int.natCast_nonneg _
  | f + 1, d + 1, i, low, high, level, st, hr, hf, hg, hn => by
    rw [walkF]
    have h1 : i ∉ st.met := fun h => (List.nodup_append.1 hn).2.2 i h i (by simp [pre]) rfl
    rw [if_neg h1, if_neg (by rw [hg.2.1, hg.2.2.1]; simp), if_neg (by rw [hg.1]; simp)]
    have hlen := addRow_len st.rows level i hr
    refine kids_full (d := d) (fun i low high st hr hg hn => walk_full hk f d i low high (level + 1) st hr (by omega) hg hn) (fun i low high st hr hn h => walk_sound hk f i low high (level + 1) st hr hn h) (fun i a b a' b' d' h h' => good_deep hk d i a b a' b' d' h h') (kidsOf ps i) 0 (-2) _ (by simp only [hlen]; omega) (.inl rfl) (fun _ => hk i hg.1) ?_ fun j kid hj => ?_
    · simpa [pre] using hn
    · rw [Nat.zero_add]; exact hg.2.2.2 j kid hj
/-- How deep a page can be. -/
theorem pre_deep {ps : List PG} (hk : ∀ i, (pg ps i).leaf = false → kidsOf ps i ≠ []) : ∀ (d i : Nat) (low high : Ky), Good ps d i low high → d < (pre ps d i).length
  | 0, i, low, high, h => by simp [pre]
  | d + 1, i, low, high, h => by
    obtain ⟨x, r, hx⟩ : ∃ x r, kidsOf ps i = x :: r := by
      have := hk i h.1
      cases hc : kidsOf ps i with
      | nil => exact absurd hc this
      | cons x r => exact ⟨x, r, rfl⟩
    have h0 : (kidsOf ps i)[0]? = some x := by rw [hx]; rfl
    have := pre_deep hk d x _ _ (h.2.2.2 0 x h0)
    simp only [pre, hx, List.flatMap_cons, List.length_cons, List.length_append]; omega
end Go.AM
/- Trees: plain law, 2: level by level; each page once. -/
namespace Go.AM
/-- Who stands to the right. -/
def rightOf (l : List Nat) (k : Nat) : Int := match l[k + 1]? with
  | some j => (j : Int)
  | none => -1
def chain (ps : List PG) (l : List Nat) : Prop := ∀ (k i : Nat), l[k]? = some i → (pg ps i).next = rightOf l k
abbrev Tri := Nat × Ky × Ky
def kidsT (ps : List PG) (x : Tri) : List Tri := (kidsOf ps x.1).mapIdx fun k kid => (kid, loP (pg ps x.1) k x.2.1, hiP (pg ps x.1) k x.2.2)
def nums (L : List Tri) : List Nat := L.map (·.1)
theorem nums_next (ps : List PG) : ∀ (L : List Tri), nums (L.flatMap (kidsT ps)) = (nums L).flatMap (kidsOf ps)
  | [] => rfl
  | x :: r => by
    have ih := nums_next ps r
    simp only [nums, List.flatMap_cons, List.map_append, List.map_cons] at ih ⊢
    rw [ih]
    congr 1
    apply List.ext_getElem?
    intro k
    simp only [kidsT, List.getElem?_map, List.getElem?_mapIdx]
    cases (kidsOf ps x.1)[k]? <;> rfl
def rowOK (ps : List PG) (L : List Tri) (k : Nat) (x : Tri) : Prop := (pg ps x.1).next = rightOf (nums L) k ∧ (pg ps x.1).high = x.2.2 ∧ (pg ps x.1).leaf = (pg ps ((nums L).getD 0 0)).leaf ∧ firstLow (pg ps x.1) x.2.1 = true
def allOK (ps : List PG) (L : List Tri) : Prop := ∀ (k : Nat) (x : Tri), L[k]? = some x → rowOK ps L k x
open Classical in
noncomputable def bfsF (ps : List PG) (n : Nat) : Nat → List Tri → Nat → Bool
  | 0, _, _ => false
  | f + 1, L, met => if L = [] then decide (met = n) else if met + L.length > n then false else if allOK ps L then bfsF ps n f (L.flatMap (kidsT ps)) (met + L.length) else false
def cat (ps : List PG) : Nat → List Nat → List Nat
  | 0, l => l
  | d + 1, l => l ++ cat ps d (l.flatMap (kidsOf ps))
theorem cat_kids (ps : List PG) : ∀ (d : Nat) (l : List Nat), (cat ps d l).flatMap (kidsOf ps) = cat ps d (l.flatMap (kidsOf ps))
  | 0, _ => rfl
  | d + 1, l => by rw [cat, List.flatMap_append, cat_kids ps d, cat]
theorem cat_last (ps : List PG) : ∀ (d : Nat) (l : List Nat), cat ps (d + 1) l = cat ps d l ++ lvl ps (d + 1) l
  | 0, _ => rfl
  | d + 1, l => by
    rw [cat, cat_last ps d, ← List.append_assoc]; rfl
theorem cat_pre (ps : List PG) : ∀ (d : Nat) (l : List Nat), (l.flatMap (pre ps d)).Perm (cat ps d l)
  | 0, l => by
    have : l.flatMap (pre ps 0) = l := by
      induction l with
      | nil => rfl
      | cons x r ih => rw [List.flatMap_cons, ih]; rfl
    rw [this]; exact .refl _
  | d + 1, l => by
    have h1 : (l.flatMap (pre ps (d + 1))).Perm (l ++ (l.flatMap (kidsOf ps)).flatMap (pre ps d)) := by
      induction l with
      | nil => exact .refl _
      | cons x r ih =>
        rw [List.perm_iff_count] at ih ⊢
        intro a
        have := ih a
        simp only [List.flatMap_cons, pre, List.count_append, List.count_cons, List.flatMap_append, List.cons_append] at this ⊢
        omega
    exact h1.trans ((List.Perm.refl l).append (cat_pre ps d _))
theorem cat_mem {ps : List PG} {n : Nat} (hin : ∀ i x, x ∈ kidsOf ps i → x < n) : ∀ (d : Nat) (l : List Nat), (∀ x ∈ l, x < n) → ∀ x ∈ cat ps d l, x < n
  | 0, l, hl, x, hx => hl x hx
  | d + 1, l, hl, x, hx => by
    rcases List.mem_append.1 hx with h | h
    · exact hl x h
    · refine cat_mem hin d _ (fun y hy => ?_) x h
      obtain ⟨z, _, hz⟩ := List.mem_flatMap.1 hy
      exact hin z y hz
theorem bfs_sound {ps : List PG} {n : Nat} (hk : ∀ i, (pg ps i).leaf = false → kidsOf ps i ≠ []) : ∀ (f : Nat) (L : List Tri) (met : Nat), L ≠ [] → bfsF ps n f L met = true →
    ∃ d, (∀ x ∈ L, Good ps d x.1 x.2.1 x.2.2) ∧ (∀ j, j ≤ d → chain ps (lvl ps j (nums L))) ∧ met + (cat ps d (nums L)).length = n
  | 0, L, met, hL, h => by simp [bfsF] at h
  | f + 1, L, met, hL, h => by
    rw [bfsF, if_neg hL] at h
    by_cases h1 : met + L.length > n
    · rw [if_pos h1] at h; cases h
    rw [if_neg h1] at h
    by_cases h2 : allOK ps L
    rotate_left
    · rw [if_neg h2] at h; cases h
    rw [if_pos h2] at h
    have hch : chain ps (nums L) := fun k i hi => by
      rw [nums, List.getElem?_map, Option.map_eq_some_iff] at hi
      obtain ⟨x, hx, rfl⟩ := hi
      exact (h2 k x hx).1
    have hrow : ∀ x ∈ L, (pg ps x.1).high = x.2.2 ∧ (pg ps x.1).leaf = (pg ps ((nums L).getD 0 0)).leaf ∧ firstLow (pg ps x.1) x.2.1 = true := fun x hx => by
      obtain ⟨k, hk⟩ := List.mem_iff_getElem?.1 hx
      exact (h2 k x hk).2
    have hln : (nums L).length = L.length := by simp [nums]
    cases hl : (pg ps ((nums L).getD 0 0)).leaf
    · have hne : L.flatMap (kidsT ps) ≠ [] := fun he => by
        cases L with
        | nil => exact hL rfl
        | cons x r =>
          have h3 := nums_next ps (x :: r)
          rw [he] at h3
          have h4 : kidsOf ps x.1 = [] := by
            simp only [nums, List.map_cons, List.flatMap_cons, List.map_nil] at h3
            exact (List.append_eq_nil_iff.1 h3.symm).1
          exact hk x.1 (by rw [(hrow x (by simp)).2.1, hl]) h4
      obtain ⟨d, g, c, s⟩ := bfs_sound hk f _ _ hne h
      refine ⟨d + 1, fun x hx => ⟨by rw [(hrow x hx).2.1, hl], (hrow x hx).1, (hrow x hx).2.2, fun k kid hkk => ?_⟩, fun j hj => ?_, ?_⟩
      · refine g (kid, loP (pg ps x.1) k x.2.1, hiP (pg ps x.1) k x.2.2) (List.mem_flatMap.2 ⟨x, hx, List.mem_iff_getElem?.2 ⟨k, ?_⟩⟩)
        rw [kidsT, List.getElem?_mapIdx, hkk]; rfl
      · cases j with
        | zero => exact hch
        | succ j =>
          have := c j (by omega)
          rw [nums_next] at this
          exact this
      · rw [nums_next] at s
        rw [cat, List.length_append, hln]; omega
    · have he : L.flatMap (kidsT ps) = [] := by
        refine List.flatMap_eq_nil_iff.2 fun x hx => ?_
        rw [kidsT, leaf_kids (by rw [(hrow x hx).2.1, hl])]; rfl
      refine ⟨0, fun x hx => ⟨by rw [(hrow x hx).2.1, hl], (hrow x hx).1, (hrow x hx).2.2⟩, fun j hj => ?_, ?_⟩
      · obtain rfl : j = 0 := by omega
        exact hch
      · rw [he] at h
        cases f with
        | zero => simp [bfsF] at h
        | succ f =>
          rw [bfsF, if_pos rfl] at h
          rw [cat, hln]; exact of_decide_eq_true h
theorem good_low {ps : List PG} {d i : Nat} {low high : Ky} (h : Good ps d i low high) : (pg ps i).high = high ∧ firstLow (pg ps i) low = true ∧ (pg ps i).leaf = decide (d = 0) := by
  cases d with
  | zero => exact ⟨h.2.1, h.2.2, by simp [h.1]⟩
  | succ d => exact ⟨h.2.1, h.2.2.1, by simp [h.1]⟩
theorem bfs_full {ps : List PG} {n : Nat} (hk : ∀ i, (pg ps i).leaf = false → kidsOf ps i ≠ []) : ∀ (f d : Nat) (L : List Tri) (met : Nat), L ≠ [] → d + 1 < f → (∀ x ∈ L, Good ps d x.1 x.2.1 x.2.2) → (∀ j, j ≤ d → chain ps (lvl ps j (nums L))) → met + (cat ps d (nums L)).length = n → bfsF ps n f L met = true
  | 0, d, L, met, hL, hf, g, c, s => by omega
  | f + 1, d, L, met, hL, hf, g, c, s => by
    have hln : (nums L).length = L.length := by simp [nums]
    have hall : allOK ps L := fun k x hx => by
      have hg := good_low (g x (List.mem_of_getElem? hx))
      refine ⟨c 0 (Nat.zero_le _) k x.1 (by rw [lvl, nums, List.getElem?_map, hx]; rfl), hg.1, ?_, hg.2.1⟩
      cases L with
      | nil => exact absurd rfl hL
      | cons y r => rw [hg.2.2, show (nums (y :: r)).getD 0 0 = y.1 from rfl, (good_low (g y (by simp))).2.2]
    rw [bfsF, if_neg hL]
    cases d with
    | zero =>
      rw [cat, hln] at s
      have he : L.flatMap (kidsT ps) = [] := by
        refine List.flatMap_eq_nil_iff.2 fun x hx => ?_
        rw [kidsT, leaf_kids (g x hx).1]; rfl
      rw [if_neg (by omega), if_pos hall, he]
      cases f with
      | zero => omega
      | succ f => rw [bfsF, if_pos rfl]; exact decide_eq_true s
    | succ d =>
      rw [cat, List.length_append, hln, ← nums_next] at s
      rw [if_neg (by omega), if_pos hall]
      have hne : L.flatMap (kidsT ps) ≠ [] := fun he => by
        cases L with
        | nil => exact hL rfl
        | cons x r =>
          have h3 := nums_next ps (x :: r)
          rw [he] at h3
          have h4 : kidsOf ps x.1 = [] := by
            simp only [nums, List.map_cons, List.flatMap_cons, List.map_nil] at h3
            exact (List.append_eq_nil_iff.1 h3.symm).1
          exact hk x.1 (g x (by simp)).1 h4
      refine bfs_full hk f d _ _ hne (by omega) (fun y hy => ?_) (fun j hj => ?_) (by omega)
      · obtain ⟨x, hx, hy⟩ := List.mem_flatMap.1 hy
        obtain ⟨k, hkk⟩ := List.mem_iff_getElem?.1 hy
        rw [kidsT, List.getElem?_mapIdx, Option.map_eq_some_iff] at hkk
        obtain ⟨kid, hkid, rfl⟩ := hkk
        exact (g x hx).2.2.2 k kid hkid
      · rw [nums_next]
        exact c (j + 1) (by omega)
/-- All pages in order, with all that they lead to. -/
def refs (ps : List PG) (n : Nat) : List Nat := (List.range n).flatMap (kidsOf ps)
theorem sum_sub {g : Nat → Nat} : ∀ {l m : List Nat}, l.Nodup → (∀ x ∈ l, x ∈ m) → (l.map g).sum ≤ (m.map g).sum
  | [], m, _, _ => by simp
  | x :: r, m, hn, hs => by
    rw [List.nodup_cons] at hn
    have hx := hs x (by simp)
    have ih := sum_sub (g := g) (l := r) (m := m.erase x) hn.2 (fun y hy => (List.mem_erase_of_ne (by rintro rfl; exact hn.1 hy)).2 (hs y (by simp [hy])))
    have hp : (m.map g).sum = ((x :: m.erase x).map g).sum := (List.Perm.map g (List.perm_cons_erase hx)).sum_nat
    rw [hp]
    simp only [List.map_cons, List.sum_cons]; omega
theorem count_flat (a : Nat) (f : Nat → List Nat) (l : List Nat) : List.count a (l.flatMap f) = (l.map fun y => List.count a (f y)).sum := by
  rw [List.count_flatMap]; rfl
theorem once_of_refs {ps : List PG} {n root : Nat} (hin : ∀ i x, x ∈ kidsOf ps i → x < n) (hr : root < n) (h : (root :: refs ps n).Nodup) : ∀ d, (cat ps d [root]).Nodup
  | 0 => by simp [cat]
  | d + 1 => by
    have ih := once_of_refs hin hr h d
    rw [List.nodup_iff_count] at h ⊢
    intro a
    have h1 := h a
    rw [cat, ← cat_kids, List.cons_append, List.nil_append]
    rw [refs, List.count_cons, count_flat] at h1
    rw [List.count_cons, count_flat]
    have := sum_sub (g := fun y => List.count a (kidsOf ps y)) ih (m := List.range n) (fun x hx => List.mem_range.2 (cat_mem hin d [root] (by simp [hr]) x hx))
    omega
theorem nodup_leN : ∀ {l m : List Nat}, l.Nodup → (∀ x ∈ l, x ∈ m) → l.length ≤ m.length := by
  intro l
  induction l with
  | nil => intro m _ _; exact Nat.zero_le _
  | cons x r ih =>
    intro m hn hs
    rw [List.nodup_cons] at hn
    have hx := hs x (by simp)
    have := ih (m := m.erase x) hn.2 (fun y hy => (List.mem_erase_of_ne (by rintro rfl; exact hn.1 hy)).2 (hs y (by simp [hy])))
    rw [List.length_erase_of_mem hx] at this
    have : 0 < m.length := List.length_pos_of_mem hx
    simp only [List.length_cons]; omega
theorem nodup_full {l : List Nat} {n : Nat} (hn : l.Nodup) (hl : l.length = n) (hm : ∀ x ∈ l, x < n) : ∀ x, x < n → x ∈ l := by
  intro x hx
  by_cases h : x ∈ l
  · exact h
  have h1 := nodup_leN (l := x :: l) (m := List.range n) (List.nodup_cons.2 ⟨h, hn⟩) (fun y hy => by
    rcases List.mem_cons.1 hy with rfl | hy
    · exact List.mem_range.2 hx
    · exact List.mem_range.2 (hm y hy))
  simp at h1; omega
theorem refs_of_once {ps : List PG} {n root d : Nat} (hin : ∀ i x, x ∈ kidsOf ps i → x < n) (hr : root < n) (he : lvl ps (d + 1) [root] = []) (h : (cat ps d [root]).Nodup) (hl : (cat ps d [root]).length = n) : (root :: refs ps n).Nodup := by
  have hf := nodup_full h hl (cat_mem hin d [root] (by simp [hr]))
  have hc : cat ps d [root] = root :: (cat ps d [root]).flatMap (kidsOf ps) := by
    have h1 := cat_last ps d [root]
    rw [he, List.append_nil] at h1
    rw [cat_kids]
    rw [← h1]; rfl
  rw [List.nodup_iff_count] at h ⊢
  intro a
  have h1 := h a
  rw [hc, List.count_cons, count_flat] at h1
  rw [refs, List.count_cons, count_flat]
  have := sum_sub (g := fun y => List.count a (kidsOf ps y)) (l := List.range n) (m := cat ps d [root]) List.nodup_range (fun x hx => hf x (List.mem_range.1 hx))
  omega
/-- A tree that may be. -/
structure TreeOK (ps : List PG) (root d : Nat) : Prop where
  good : Good ps d root [] []
  chains : ∀ j, j ≤ d → chain ps (lvl ps j [root])
  once : (cat ps d [root]).Nodup
  all : (cat ps d [root]).length = ps.length
end Go.AM
/- Trees: pages, as cells; the small functions. -/
namespace Go.AM
open Go Go.RowKit
attribute [local irreducible] AWP retA
def eKy (k : Ky) : List AV := [.ro true 1 (k.map eByte)]
@[simp] theorem ptA_eKy (a : Ky) : (∀ x, x ∈ eKy a → PT x) = True := eq_true (by intro x hx; simp [eKy] at hx; subst hx; simp)
instance : PTf eKy := ⟨fun a => of_eq_true (ptA_eKy a)⟩
def eP (p : PG) : List AV := [.r (.bool p.leaf), .ro true 1 (p.keys.map eKy), .ro true 1 (p.kids.map eI), .ro true 1 (p.high.map eByte), .r (.int .i64 p.next)]
@[simp] theorem ptA_eP (a : PG) : (∀ x, x ∈ eP a → PT x) = True := eq_true (by intro x hx; simp [eP] at hx; rcases hx with rfl | rfl | rfl | rfl | rfl <;> simp)
instance : PTf eP := ⟨fun a => of_eq_true (ptA_eP a)⟩
/-- A key that may be. -/
def keyB (k : Ky) : Bool := decide (0 < (k.length : Int)) && decide ((k.length : Int) ≤ 100)
theorem bEq_con (G : List (Nat × List Value)) (t u : Bool) (l m : Ky) : Con Go.Proofs.Try.prog G 39 [.ro t 1 (l.map eByte), .ro u 1 (m.map eByte)] [] 0 (Is (.r (.bool (l == m))) [] 0) No := by
  refine con_of_awp Go.Proofs.Try.func39 rfl (by kernel_rfl) (of_decide_eq_true (by kernel_rfl)) ?_; intro E hG hE; subst hG; simp only [ent]
  (repeat' (first | refine awp_seq ?_ | refine awp_block ?_ | refine awp_skip ?_ | refine awp_exit ?_ | ((first | refine rR (fun K kp hK hkp => ?_) | refine iG ?_); simp (implicitDefEqProofs := false) (maxSteps := 2000000) (disch := omega) only [go_sem, unb_map]; (repeat' (first | (refine hK _ ?_; clear hK hkp kp K) | (with_reducible refine And.intro ?_ ?_) | omega))) | ((first | refine aG (fun h => ?_) (fun h => ?_) | refine aD (fun h => ?_) (fun h => ?_) | refine aX (fun h => ?_) (fun h => ?_)) <;> simp only [h]) | refine awp_cond_t rfl ?_ | refine awp_cond_f rfl ?_ | ((refine awp_cond rfl (fun h => ?_) (fun h => ?_) <;> try simp only [ifs] at h) <;> (try (exfalso; omega))) | refine awp_ret ?_))
  (refine retA_is (by (simp (implicitDefEqProofs := false) (maxSteps := 2000000) (disch := omega) only [go_sem, Go.Proofs.Try.results39]); rfl) ?_; refine eN hE ?_; simp [oneA, ren, renL])
theorem sKy_con (G : List (Nat × List Value)) (t u : Bool) (l m : Ky) : Con Go.Proofs.Try.prog G 31 [.ro t 1 (l.map eByte), .ro u 1 (m.map eByte)] [] 0 (Is (.r (.bool (l == m))) [] 0) No := by
  refine con_of_awp Go.Proofs.Try.func31 rfl (by kernel_rfl) (of_decide_eq_true (by kernel_rfl)) ?_; intro E hG hE; subst hG; simp only [ent]
  (repeat' (first | refine awp_seq ?_ | refine awp_block ?_ | refine awp_skip ?_ | refine awp_exit ?_ | ((first | refine rR (fun K kp hK hkp => ?_) | refine iG ?_); simp (implicitDefEqProofs := false) (maxSteps := 2000000) (disch := omega) only [go_sem, unb_map]; (repeat' (first | (refine hK _ ?_; clear hK hkp kp K) | (with_reducible refine And.intro ?_ ?_) | omega))) | ((first | refine aG (fun h => ?_) (fun h => ?_) | refine aD (fun h => ?_) (fun h => ?_) | refine aX (fun h => ?_) (fun h => ?_)) <;> simp only [h]) | refine awp_cond_t rfl ?_ | refine awp_cond_f rfl ?_ | ((refine awp_cond rfl (fun h => ?_) (fun h => ?_) <;> try simp only [ifs] at h) <;> (try (exfalso; omega))) | refine awp_ret ?_))
  (refine retA_is (by (simp (implicitDefEqProofs := false) (maxSteps := 2000000) (disch := omega) only [go_sem, Go.Proofs.Try.results31]); rfl) ?_; refine eN hE ?_; simp [oneA, ren, renL])
theorem inT_con (G : List (Nat × List Value)) (n a b : Int) : Con Go.Proofs.Try.prog G 29 [.r (.int .i64 n), .r (.int .i64 a), .r (.int .i64 b)] [] 0 (Is (.r (.bool (decide (a ≤ n) && decide (n ≤ b)))) [] 0) No := by
  refine con_of_awp Go.Proofs.Try.func29 rfl (by kernel_rfl) (of_decide_eq_true (by kernel_rfl)) ?_; intro E hG hE; subst hG; simp only [ent]
  by_cases h1 : a ≤ n
  · have h1' : (n ≥ a) = True := eq_true h1
    (repeat' (first | refine awp_seq ?_ | refine awp_block ?_ | refine awp_skip ?_ | refine awp_exit ?_ | ((first | refine rR (fun K kp hK hkp => ?_) | refine iG ?_); simp (implicitDefEqProofs := false) (maxSteps := 2000000) (disch := omega) only [go_sem, h1']; (repeat' (first | (refine hK _ ?_; clear hK hkp kp K) | (with_reducible refine And.intro ?_ ?_) | omega))) | ((first | refine aG (fun h => ?_) (fun h => ?_) | refine aD (fun h => ?_) (fun h => ?_) | refine aX (fun h => ?_) (fun h => ?_)) <;> simp only [h]) | refine awp_cond_t rfl ?_ | refine awp_cond_f rfl ?_ | ((refine awp_cond rfl (fun h => ?_) (fun h => ?_) <;> try simp only [ifs] at h) <;> (try (exfalso; omega))) | refine awp_ret ?_))
    (refine retA_is (by (simp (implicitDefEqProofs := false) (maxSteps := 2000000) (disch := omega) only [go_sem, Go.Proofs.Try.results29, h1]); rfl) ?_; refine eN hE ?_; simp [oneA, ren, renL, h1])
  · have h1' : (n ≥ a) = False := eq_false h1
    (repeat' (first | refine awp_seq ?_ | refine awp_block ?_ | refine awp_skip ?_ | refine awp_exit ?_ | ((first | refine rR (fun K kp hK hkp => ?_) | refine iG ?_); simp (implicitDefEqProofs := false) (maxSteps := 2000000) (disch := omega) only [go_sem, h1']; (repeat' (first | (refine hK _ ?_; clear hK hkp kp K) | (with_reducible refine And.intro ?_ ?_) | omega))) | ((first | refine aG (fun h => ?_) (fun h => ?_) | refine aD (fun h => ?_) (fun h => ?_) | refine aX (fun h => ?_) (fun h => ?_)) <;> simp only [h]) | refine awp_cond_t rfl ?_ | refine awp_cond_f rfl ?_ | ((refine awp_cond rfl (fun h => ?_) (fun h => ?_) <;> try simp only [ifs] at h) <;> (try (exfalso; omega))) | refine awp_ret ?_))
    (refine retA_is (by (simp (implicitDefEqProofs := false) (maxSteps := 2000000) (disch := omega) only [go_sem, Go.Proofs.Try.results29, h1]); rfl) ?_; refine eN hE ?_; simp [oneA, ren, renL, h1])
theorem key_con (G : List (Nat × List Value)) (t : Bool) (l : Ky) : Con Go.Proofs.Try.prog G 52 [.ro t 1 (l.map eByte)] [] 0 (Is (.r (.bool (keyB l))) [] 0) No := by
  refine con_of_awp Go.Proofs.Try.func52 rfl (by kernel_rfl) (of_decide_eq_true (by kernel_rfl)) ?_; intro E hG hE; subst hG; simp only [ent]
  by_cases h1 : 0 < (l.length : Int)
  · have h1' : ((l.length : Int) > 0) = True := eq_true h1
    (repeat' (first | refine awp_seq ?_ | refine awp_block ?_ | refine awp_skip ?_ | refine awp_exit ?_ | ((first | refine rR (fun K kp hK hkp => ?_) | refine iG ?_); simp (implicitDefEqProofs := false) (maxSteps := 2000000) (disch := omega) only [go_sem, h1']; (repeat' (first | (refine hK _ ?_; clear hK hkp kp K) | (with_reducible refine And.intro ?_ ?_) | omega))) | ((first | refine aG (fun h => ?_) (fun h => ?_) | refine aD (fun h => ?_) (fun h => ?_) | refine aX (fun h => ?_) (fun h => ?_)) <;> simp only [h]) | refine awp_cond_t rfl ?_ | refine awp_cond_f rfl ?_ | ((refine awp_cond rfl (fun h => ?_) (fun h => ?_) <;> try simp only [ifs] at h) <;> (try (exfalso; omega))) | refine awp_ret ?_))
    (refine retA_is (by (simp (implicitDefEqProofs := false) (maxSteps := 2000000) (disch := omega) only [go_sem, Go.Proofs.Try.results52, keyB, h1]); rfl) ?_; refine eN hE ?_; simp [oneA, ren, renL, keyB, h1])
    intro; omega
  · have h1' : ((l.length : Int) > 0) = False := eq_false h1
    (repeat' (first | refine awp_seq ?_ | refine awp_block ?_ | refine awp_skip ?_ | refine awp_exit ?_ | ((first | refine rR (fun K kp hK hkp => ?_) | refine iG ?_); simp (implicitDefEqProofs := false) (maxSteps := 2000000) (disch := omega) only [go_sem, h1']; (repeat' (first | (refine hK _ ?_; clear hK hkp kp K) | (with_reducible refine And.intro ?_ ?_) | omega))) | ((first | refine aG (fun h => ?_) (fun h => ?_) | refine aD (fun h => ?_) (fun h => ?_) | refine aX (fun h => ?_) (fun h => ?_)) <;> simp only [h]) | refine awp_cond_t rfl ?_ | refine awp_cond_f rfl ?_ | ((refine awp_cond rfl (fun h => ?_) (fun h => ?_) <;> try simp only [ifs] at h) <;> (try (exfalso; omega))) | refine awp_ret ?_))
    (refine retA_is (by (simp (implicitDefEqProofs := false) (maxSteps := 2000000) (disch := omega) only [go_sem, Go.Proofs.Try.results52, keyB, h1]); rfl) ?_; refine eN hE ?_; simp [oneA, ren, renL, keyB, h1])
    intro; omega
theorem keyMay_con (G : List (Nat × List Value)) (t : Bool) (l : Ky) : Con Go.Proofs.Try.prog G 53 [.ro t 1 (l.map eByte)] [] 0 (Is (.r (.bool (keyB l))) [] 0) No := by
  have ic := inT_con G l.length 1 100
  simp only [show (1 ≤ (l.length : Int)) = (0 < (l.length : Int)) from propext (by omega)] at ic
  refine con_of_awp Go.Proofs.Try.func53 rfl (by kernel_rfl) (of_decide_eq_true (by kernel_rfl)) ?_; intro E hG hE; subst hG; simp only [ent]
  (repeat' (first | refine awp_seq ?_ | refine awp_block ?_ | refine awp_skip ?_ | refine awp_exit ?_ | ((first | refine rR (fun K kp hK hkp => ?_) | refine cR ic ?_ | refine iG ?_); simp (implicitDefEqProofs := false) (maxSteps := 2000000) (disch := omega) only [go_sem, keyB]; (repeat' (first | (refine hK _ ?_; clear hK hkp kp K) | (with_reducible refine And.intro ?_ ?_) | omega))) | ((first | refine aG (fun h => ?_) (fun h => ?_) | refine aD (fun h => ?_) (fun h => ?_) | refine aX (fun h => ?_) (fun h => ?_)) <;> simp only [h]) | refine awp_cond_t rfl ?_ | refine awp_cond_f rfl ?_ | ((refine awp_cond rfl (fun h => ?_) (fun h => ?_) <;> try simp only [ifs] at h) <;> (try (exfalso; omega))) | refine awp_ret ?_))
  (refine retA_is (by (simp (implicitDefEqProofs := false) (maxSteps := 2000000) (disch := omega) only [go_sem, Go.Proofs.Try.results53, keyB]); rfl) ?_; refine eN hE ?_; simp [oneA, ren, renL, keyB])
/-- What a page must be by itself. -/
structure HeadOK (p : PG) (many : Nat) : Prop where
  nk : p.keys.length ≤ 4
  nh : p.high.length ≤ 100
  n0 : -1 ≤ p.next
  n1 : p.next < many
  nb : p.next < 0 ↔ p.high.length = 0
  kl : p.leaf = true → p.kids.length = p.keys.length
  ki : p.leaf = false → p.kids.length = p.keys.length + 1
  ne : p.leaf = false → p.keys.length ≠ 0
def okKey (p : PG) (i : Nat) : Prop := keyB (p.keys.getD i []) = true ∧ (0 < i → ltK (p.keys.getD (i - 1) []) (p.keys.getD i []) = true) ∧ (0 < p.high.length → ltK (p.keys.getD i []) p.high = true)
def okKid (p : PG) (many : Nat) (n : Int) : Prop := 0 ≤ n ∧ (p.leaf = false → n < many)
structure PageOK (p : PG) (many : Nat) : Prop extends HeadOK p many where
  ks : ∀ i, i < p.keys.length → okKey p i
  kd : ∀ i, i < p.kids.length → okKid p many (p.kids.getD i 0)
noncomputable def pgB (p : PG) (many : Nat) : Bool := @decide (PageOK p many) (Classical.propDecidable _)
theorem pgB_t {p : PG} {many : Nat} (h : PageOK p many) : pgB p many = true := by unfold pgB; exact @decide_eq_true _ (Classical.propDecidable _) h
theorem pgB_f {p : PG} {many : Nat} (h : ¬ PageOK p many) : pgB p many = false := by unfold pgB; exact @decide_eq_false _ (Classical.propDecidable _) h
theorem nb_of {n : Int} {l : Nat} (h : (!(decide (n < 0) == ((l : Int) == 0))) = false) : n < 0 ↔ l = 0 := by
  simp at h
  constructor
  · intro h1
    have := h.trans rfl
    simp [h1] at h; omega
  · intro h1
    subst h1; simpa using h
set_option maxRecDepth 100000 in
set_option maxHeartbeats 4000000 in
theorem page_head (G : List (Nat × List Value)) (p : PG) (many : Nat) (H : ¬ HeadOK p many) (hb : p.keys.length ≤ 1048576) : Con Go.Proofs.Try.prog G 27 [.agg (eP p), .r (.int .i64 many)] [] 0 (Is (.r (.bool (pgB p many))) [] 0) No := by
  rw [pgB_f fun x => H x.1]
  refine con_of_awp Go.Proofs.Try.func27 rfl (by kernel_rfl) (of_decide_eq_true (by kernel_rfl)) ?_; intro E hG hE; subst hG; simp only [ent]
  cases hl : p.leaf
  · (repeat' (first | refine awp_seq ?_ | refine awp_block ?_ | refine awp_skip ?_ | refine awp_exit ?_ | ((first | refine rR (fun K kp hK hkp => ?_) | refine iG ?_); simp (implicitDefEqProofs := false) (maxSteps := 2000000) (disch := omega) only [go_sem, eP, hl]; (repeat' (first | (refine hK _ ?_; clear hK hkp kp K) | (with_reducible refine And.intro ?_ ?_) | omega))) | ((first | refine aG (fun h => ?_) (fun h => ?_) | refine aD (fun h => ?_) (fun h => ?_) | refine aX (fun h => ?_) (fun h => ?_)) <;> simp only [h]) | refine awp_cond_t rfl ?_ | refine awp_cond_f rfl ?_ | ((refine awp_cond rfl (fun h => ?_) (fun h => ?_) <;> try simp only [ifs] at h) <;> (try (exfalso; omega))) | refine awp_ret ?_))
    all_goals first
      | (refine retA_is (by (simp (implicitDefEqProofs := false) (maxSteps := 2000000) (disch := omega) only [go_sem, Go.Proofs.Try.results27]); rfl) ?_; refine eN hE ?_; simp [oneA, ren, renL])
      | skip
    all_goals (exfalso; rename_i h1 h2 h3 h4 h5 h6; apply H; simp only [decide_eq_false_iff_not, bne_eq_false_iff_eq] at *)
    all_goals exact ⟨by omega, by omega, by omega, by omega, nb_of (by assumption), fun h => (by rw [hl] at h; cases h), fun _ => by omega, fun _ => by omega⟩
  · (repeat' (first | refine awp_seq ?_ | refine awp_block ?_ | refine awp_skip ?_ | refine awp_exit ?_ | ((first | refine rR (fun K kp hK hkp => ?_) | refine iG ?_); simp (implicitDefEqProofs := false) (maxSteps := 2000000) (disch := omega) only [go_sem, eP, hl]; (repeat' (first | (refine hK _ ?_; clear hK hkp kp K) | (with_reducible refine And.intro ?_ ?_) | omega))) | ((first | refine aG (fun h => ?_) (fun h => ?_) | refine aD (fun h => ?_) (fun h => ?_) | refine aX (fun h => ?_) (fun h => ?_)) <;> simp only [h]) | refine awp_cond_t rfl ?_ | refine awp_cond_f rfl ?_ | ((refine awp_cond rfl (fun h => ?_) (fun h => ?_) <;> try simp only [ifs] at h) <;> (try (exfalso; omega))) | refine awp_ret ?_))
    all_goals first
      | (refine retA_is (by (simp (implicitDefEqProofs := false) (maxSteps := 2000000) (disch := omega) only [go_sem, Go.Proofs.Try.results27]); rfl) ?_; refine eN hE ?_; simp [oneA, ren, renL])
      | skip
    all_goals (exfalso; rename_i h1 h2 h3 h4 h5; apply H; simp only [decide_eq_false_iff_not, bne_eq_false_iff_eq] at *)
    all_goals exact ⟨by omega, by omega, by omega, by omega, nb_of (by assumption), fun _ => by omega, fun h => (by rw [hl] at h; cases h), fun h => (by rw [hl] at h; cases h)⟩
end Go.AM
/- Keys in order: plain law. -/
namespace Go.AM
open Go
theorem cmpB_less0 : ∀ (a b : List UInt8), Lib.compareBytes a b = if Op.bytesLess a b = true then -1 else if Op.bytesLess b a = true then 1 else 0
  | [], [] => by simp [Lib.compareBytes, Op.bytesLess]
  | [], _ :: _ => by simp [Lib.compareBytes, Op.bytesLess]
  | _ :: _, [] => by simp [Lib.compareBytes, Op.bytesLess]
  | a :: x, b :: y => by
    have ih := cmpB_less0 x y
    simp only [Lib.compareBytes, Op.bytesLess, ih]
    by_cases h1 : a < b
    · simp [h1]
    · by_cases h2 : b < a
      · have : ¬ (a == b) = true := by intro h; simp at h; subst h; exact h1 h2
        simp [h1, h2, this]
      · have e : a = b := by
          have : a.toNat = b.toNat := by simp [UInt8.lt_iff_toNat_lt] at h1 h2; omega
          exact UInt8.toNat.inj this
        subst e
        simp [h1]
theorem lessB_irrefl : ∀ (a : List UInt8), Op.bytesLess a a = false
  | [] => rfl
  | a :: x => by simp [Op.bytesLess, lessB_irrefl x]
theorem lessB_asymm : ∀ (a b : List UInt8), Op.bytesLess a b = true → Op.bytesLess b a = false
  | [], [] => by simp [Op.bytesLess]
  | [], _ :: _ => by simp [Op.bytesLess]
  | _ :: _, [] => by simp [Op.bytesLess]
  | a :: x, b :: y => by
    have ih := lessB_asymm x y
    simp only [Op.bytesLess, Bool.or_eq_true, Bool.and_eq_true, decide_eq_true_eq, beq_iff_eq, Bool.or_eq_false_iff, Bool.and_eq_false_iff, decide_eq_false_iff_not]
    rintro (h | ⟨rfl, h⟩)
    · refine ⟨?_, ?_⟩
      · simp [UInt8.lt_iff_toNat_lt] at h ⊢; omega
      · left; rw [beq_eq_false_iff_ne]; intro e; subst e; simp [UInt8.lt_iff_toNat_lt] at h
    · refine ⟨by simp [UInt8.lt_iff_toNat_lt], .inr (ih h)⟩
theorem lessB_total : ∀ (a b : List UInt8), Op.bytesLess a b = false → Op.bytesLess b a = false → a = b
  | [], [] => by simp
  | [], _ :: _ => by simp [Op.bytesLess]
  | _ :: _, [] => by simp [Op.bytesLess]
  | a :: x, b :: y => by
    have ih := lessB_total x y
    simp only [Op.bytesLess, Bool.or_eq_false_iff, Bool.and_eq_false_iff, decide_eq_false_iff_not, beq_eq_false_iff_ne]
    rintro ⟨h1, h2⟩ ⟨h3, h4⟩
    have e : a = b := by
      have : a.toNat = b.toNat := by simp [UInt8.lt_iff_toNat_lt] at h1 h3; omega
      exact UInt8.toNat.inj this
    subst e
    rw [ih (by simpa using h2) (by simpa using h4)]
theorem cmpB_zero (a b : List UInt8) : Lib.compareBytes a b = 0 ↔ a = b := by
  rw [cmpB_less0]
  constructor
  · intro h
    split at h
    · simp at h
    · split at h
      · simp at h
      · exact lessB_total a b (by simpa using ‹¬ Op.bytesLess a b = true›) (by simpa using ‹¬ Op.bytesLess b a = true›)
  · rintro rfl
    simp [lessB_irrefl]

theorem lessB_trans : ∀ (a b c : List UInt8), Op.bytesLess a b = true → Op.bytesLess b c = true → Op.bytesLess a c = true
  | _, [], [], _, h => by simp [Op.bytesLess] at h
  | [], [], _ :: _, h, _ => by simp [Op.bytesLess] at h
  | _ :: _, [], _ :: _, h, _ => by simp [Op.bytesLess] at h
  | _, _ :: _, [], _, h => by simp [Op.bytesLess] at h
  | [], _ :: _, _ :: _, _, _ => by simp [Op.bytesLess]
  | a :: x, b :: y, c :: z, h1, h2 => by
    have ih := lessB_trans x y z
    simp only [Op.bytesLess, Bool.or_eq_true, Bool.and_eq_true, decide_eq_true_eq, beq_iff_eq] at h1 h2 ⊢
    rcases h1 with h1 | ⟨rfl, h1⟩
    · rcases h2 with h2 | ⟨rfl, _⟩
      · left; simp [UInt8.lt_iff_toNat_lt] at h1 h2 ⊢; omega
      · exact .inl h1
    · rcases h2 with h2 | ⟨rfl, h2⟩
      · exact .inl h2
      · exact .inr ⟨rfl, ih h1 h2⟩
theorem ltK_irrefl (a : Ky) : ltK a a = false := lessB_irrefl a
theorem ltK_asymm {a b : Ky} (h : ltK a b = true) : ltK b a = false := lessB_asymm a b h
theorem ltK_total {a b : Ky} (h : ltK a b = false) (h2 : ltK b a = false) : a = b := lessB_total a b h h2
theorem ltK_trans {a b c : Ky} (h : ltK a b = true) (h2 : ltK b c = true) : ltK a c = true := lessB_trans a b c h h2
theorem ltK_of_lt_le {a b c : Ky} (h : ltK a b = true) (h2 : ltK c b = false) : ltK a c = true := by
  cases h3 : ltK b c
  · rw [← ltK_total h3 h2]; exact h
  · exact ltK_trans h h3
theorem cmpB_less (a b : Ky) : Lib.compareBytes a b = if ltK a b = true then -1 else if ltK b a = true then 1 else 0 := cmpB_less0 a b
theorem cmp_ge (a b : Ky) : decide (Lib.compareBytes a b ≥ 0) = !ltK a b := by
  rw [cmpB_less]
  cases ltK a b
  · simp only [Bool.false_eq_true, ↓reduceIte]
    split <;> rfl
  · rfl
theorem cmp_lt0 (a b : Ky) : decide (Lib.compareBytes a b < 0) = ltK a b := by
  rw [cmpB_less]
  cases ltK a b
  · simp only [Bool.false_eq_true, ↓reduceIte]
    split <;> rfl
  · rfl
end Go.AM
/- Trees: a page by itself, the program's side. -/
namespace Go.AM
open Go Go.RowKit
attribute [local irreducible] AWP retA
set_option maxRecDepth 100000 in
set_option maxHeartbeats 4000000 in
theorem page_good (G : List (Nat × List Value)) (p : PG) (many : Nat) (H : HeadOK p many) (hb : p.kids.length ≤ 1048576) : Con Go.Proofs.Try.prog G 27 [.agg (eP p), .r (.int .i64 many)] [] 0 (Is (.r (.bool (pgB p many))) [] 0) No := by
  have f1 : ((p.keys.length : Int) > 4) = False := eq_false (by have := H.nk; omega)
  have f2 : ((p.high.length : Int) > 100) = False := eq_false (by have := H.nh; omega)
  have f3 : (p.next < -1) = False := eq_false (by have := H.n0; omega)
  have f4 : (p.next ≥ (many : Int)) = False := eq_false (by have := H.n1; omega)
  have f5 : (!(decide (p.next < 0) == ((p.high.length : Int) == 0))) = false := by
    have := H.nb
    by_cases h : p.next < 0
    · simp [h, this.1 h]
    · have h2 : ¬ p.high.length = 0 := fun x => h (this.2 x)
      simp [h, h2]
  have hk4 := H.nk
  refine con_of_awp Go.Proofs.Try.func27 rfl (by kernel_rfl) (of_decide_eq_true (by kernel_rfl)) ?_; intro E hG hE; subst hG; simp only [ent]
  cases hl : p.leaf
  case' false =>
    have f6 := H.ki hl
    have f7 : ((p.keys.length : Int) == 0) = false := by have := H.ne hl; simp; exact List.ne_nil_of_length_pos (by omega)
    have f8 : ((p.kids.length : Int) != (p.keys.length : Int) + 1) = false := by rw [f6]; simp
    (repeat' (first | refine awp_seq ?_ | refine awp_block ?_ | refine awp_skip ?_ | refine awp_exit ?_ | ((first | refine rR (fun K kp hK hkp => ?_) | refine iG ?_); simp (implicitDefEqProofs := false) (maxSteps := 2000000) (disch := omega) only [go_sem, eP, hl, f1, f2, f3, f4, f5, f7, f8]; (repeat' (first | (refine hK _ ?_; clear hK hkp kp K) | (with_reducible refine And.intro ?_ ?_) | omega))) | ((first | refine aG (fun h => ?_) (fun h => ?_) | refine aD (fun h => ?_) (fun h => ?_) | refine aX (fun h => ?_) (fun h => ?_)) <;> simp only [h]) | refine awp_cond_t rfl ?_ | refine awp_cond_f rfl ?_ | ((refine awp_cond rfl (fun h => ?_) (fun h => ?_) <;> try simp only [ifs] at h) <;> (try (exfalso; omega))) | refine awp_ret ?_))
  case' true =>
    have f6 := H.kl hl
    have f8 : ((p.kids.length : Int) != (p.keys.length : Int)) = false := by rw [f6]; simp
    (repeat' (first | refine awp_seq ?_ | refine awp_block ?_ | refine awp_skip ?_ | refine awp_exit ?_ | ((first | refine rR (fun K kp hK hkp => ?_) | refine iG ?_); simp (implicitDefEqProofs := false) (maxSteps := 2000000) (disch := omega) only [go_sem, eP, hl, f1, f2, f3, f4, f5, f8]; (repeat' (first | (refine hK _ ?_; clear hK hkp kp K) | (with_reducible refine And.intro ?_ ?_) | omega))) | ((first | refine aG (fun h => ?_) (fun h => ?_) | refine aD (fun h => ?_) (fun h => ?_) | refine aX (fun h => ?_) (fun h => ?_)) <;> simp only [h]) | refine awp_cond_t rfl ?_ | refine awp_cond_f rfl ?_ | ((refine awp_cond rfl (fun h => ?_) (fun h => ?_) <;> try simp only [ifs] at h) <;> (try (exfalso; omega))) | refine awp_ret ?_))
  all_goals
    refine awp_loop (fun i : Nat => ⟨[(75, .r (.int .i64 i)), (74, .r (.int .i64 p.keys.length)), (73, .ro true 1 (p.keys.map eKy)), (2, .p 0 0 0), (1, .r (.int .i64 many))], [(0, .box 52 [.r (.bool p.leaf), .ro true 1 (p.keys.map eKy), .ro true 1 (p.kids.map eI), .ro true 1 (p.high.map eByte), .r (.int .i64 p.next)])], 1⟩) (fun i => i ≤ p.keys.length ∧ ∀ j, j < i → okKey p j) (fun i => p.keys.length - i) 0 ?_ ?_ ?_
    · exact ⟨Nat.zero_le _, fun j hj => by omega⟩
    · (refine emb [0] ?_ ?_ rfl ?_ ?_ ?_ ?_ <;> simp [okM, okO, lk, ren, renL, renNd, by_, hE, hl] <;> (try omega) <;> (try (intro i hi; first | (rcases i with _ | _ | i; rfl; rfl; (exfalso; omega)) | (rcases i with _ | _ | _ | i; rfl; rfl; rfl; (exfalso; omega)) | (rcases i with _ | _ | _ | _ | i; rfl; rfl; rfl; rfl; (exfalso; omega)) | (rcases i with _ | _ | _ | _ | _ | i; rfl; rfl; rfl; rfl; rfl; (exfalso; omega)) | (rcases i with _ | _ | _ | _ | _ | _ | i; rfl; rfl; rfl; rfl; rfl; rfl; (exfalso; omega)))))
    intro i hi
    obtain ⟨hi, hdone⟩ := hi
    by_cases hlt : i < p.keys.length
    · have zi : ((i : Int) < (p.keys.length : Int)) = True := eq_true (by omega)
      obtain ⟨x, hx⟩ : ∃ x, p.keys[i]? = some x := ⟨p.keys[i], by simp [hlt]⟩
      have hxD : p.keys.getD i [] = x := by rw [List.getD_eq_getElem?_getD, hx]; rfl
      cases i with
      | zero =>
        have hok : okKey p 0 ↔ keyB x = true ∧ (0 < p.high.length → ltK x p.high = true) := by unfold okKey; rw [hxD]; simp
        (repeat' (first | refine awp_seq ?_ | refine awp_block ?_ | refine awp_skip ?_ | refine awp_exit ?_ | ((first | refine rR (fun K kp hK hkp => ?_) | refine cR (key_con _ _ _) ?_ | refine cR (bcmp_con _ _ _ _ _) ?_ | refine iG ?_); simp (implicitDefEqProofs := false) (maxSteps := 2000000) (disch := omega) only [go_sem, zi, hx, eKy, cmp_ge]; (repeat' (first | (refine hK _ ?_; clear hK hkp kp K) | (with_reducible refine And.intro ?_ ?_) | omega))) | ((first | refine aG (fun h => ?_) (fun h => ?_) | refine aD (fun h => ?_) (fun h => ?_) | refine aX (fun h => ?_) (fun h => ?_)) <;> simp only [h]) | refine awp_cond_t rfl ?_ | refine awp_cond_f rfl ?_ | ((refine awp_cond rfl (fun h => ?_) (fun h => ?_) <;> try simp only [ifs] at h) <;> (try (exfalso; omega))) | refine awp_ret ?_))
        all_goals first
          | (rw [pgB_f (fun X => absurd (hok.1 (X.ks _ hlt)) (by clear hE hdone; simp_all))]; (refine retA_is (by (simp (implicitDefEqProofs := false) (maxSteps := 2000000) (disch := omega) only [go_sem, Go.Proofs.Try.results27]); rfl) ?_; refine eN hE ?_; simp [oneA, ren, renL]))
          | (have hok' := hok.2 (by clear hE hdone; simp_all); ((first | (refine nextB (0 + 1) ?_ ?_ ?_) | (refine nextA (0 + 1) ?_ ?_ ?_) | (refine nextE (0 + 1) ?_ ?_ ?_)); rotate_left; (· (try dsimp only); (first | omega | (simp only [List.length_drop, List.length_cons, List.length_append]; omega) | (simp; done) | (simp; omega))); (· (refine emb [0] ?_ ?_ rfl ?_ ?_ ?_ ?_ <;> simp [okM, okO, lk, ren, renL, renNd, by_, hE] <;> (try omega) <;> (try (intro i hi; first | (rcases i with _ | _ | i; rfl; rfl; (exfalso; omega)) | (rcases i with _ | _ | _ | i; rfl; rfl; rfl; (exfalso; omega)) | (rcases i with _ | _ | _ | _ | i; rfl; rfl; rfl; rfl; (exfalso; omega)) | (rcases i with _ | _ | _ | _ | _ | i; rfl; rfl; rfl; rfl; rfl; (exfalso; omega)) | (rcases i with _ | _ | _ | _ | _ | _ | i; rfl; rfl; rfl; rfl; rfl; rfl; (exfalso; omega))))))); exact ⟨by omega, fun j' hj' => (by by_cases he : j' = 0; (· rw [he]; exact hok'); (· exact hdone j' (by omega)))⟩)
      | succ j =>
        obtain ⟨y, hy⟩ : ∃ y, p.keys[j]? = some y := ⟨p.keys[j], by simp [show j < p.keys.length by omega]⟩
        have hyD : p.keys.getD j [] = y := by rw [List.getD_eq_getElem?_getD, hy]; rfl
        have hj1 : ((j + 1 : Nat) : Int) - 1 = (j : Int) := by omega
        have hok : okKey p (j + 1) ↔ keyB x = true ∧ ltK y x = true ∧ (0 < p.high.length → ltK x p.high = true) := by unfold okKey; rw [hxD, Nat.add_sub_cancel, hyD]; simp
        (repeat' (first | refine awp_seq ?_ | refine awp_block ?_ | refine awp_skip ?_ | refine awp_exit ?_ | ((first | refine rR (fun K kp hK hkp => ?_) | refine cR (key_con _ _ _) ?_ | refine cR (bcmp_con _ _ _ _ _) ?_ | refine iG ?_); simp (implicitDefEqProofs := false) (maxSteps := 2000000) (disch := omega) only [go_sem, zi, hx, hy, hj1, eKy, cmp_ge]; (repeat' (first | (refine hK _ ?_; clear hK hkp kp K) | (with_reducible refine And.intro ?_ ?_) | omega))) | ((first | refine aG (fun h => ?_) (fun h => ?_) | refine aD (fun h => ?_) (fun h => ?_) | refine aX (fun h => ?_) (fun h => ?_)) <;> simp only [h]) | refine awp_cond_t rfl ?_ | refine awp_cond_f rfl ?_ | ((refine awp_cond rfl (fun h => ?_) (fun h => ?_) <;> try simp only [ifs] at h) <;> (try (exfalso; omega))) | refine awp_ret ?_))
        all_goals first
          | (rw [pgB_f (fun X => absurd (hok.1 (X.ks _ hlt)) (by clear hE hdone; simp_all))]; (refine retA_is (by (simp (implicitDefEqProofs := false) (maxSteps := 2000000) (disch := omega) only [go_sem, Go.Proofs.Try.results27]); rfl) ?_; refine eN hE ?_; simp [oneA, ren, renL]))
          | (have hok' := hok.2 (by clear hE hdone; simp_all); ((first | (refine nextB (j + 1 + 1) ?_ ?_ ?_) | (refine nextA (j + 1 + 1) ?_ ?_ ?_) | (refine nextE (j + 1 + 1) ?_ ?_ ?_)); rotate_left; (· (try dsimp only); (first | omega | (simp only [List.length_drop, List.length_cons, List.length_append]; omega) | (simp; done) | (simp; omega))); (· (refine emb [0] ?_ ?_ rfl ?_ ?_ ?_ ?_ <;> simp [okM, okO, lk, ren, renL, renNd, by_, hE] <;> (try omega) <;> (try (intro i hi; first | (rcases i with _ | _ | i; rfl; rfl; (exfalso; omega)) | (rcases i with _ | _ | _ | i; rfl; rfl; rfl; (exfalso; omega)) | (rcases i with _ | _ | _ | _ | i; rfl; rfl; rfl; rfl; (exfalso; omega)) | (rcases i with _ | _ | _ | _ | _ | i; rfl; rfl; rfl; rfl; rfl; (exfalso; omega)) | (rcases i with _ | _ | _ | _ | _ | _ | i; rfl; rfl; rfl; rfl; rfl; rfl; (exfalso; omega))))))); exact ⟨by omega, fun j' hj' => (by by_cases he : j' = j + 1; (· rw [he]; exact hok'); (· exact hdone j' (by omega)))⟩)
    · obtain rfl : i = p.keys.length := by omega
      (repeat' (first | refine awp_seq ?_ | refine awp_block ?_ | refine awp_skip ?_ | refine awp_exit ?_ | ((first | refine rR (fun K kp hK hkp => ?_) | refine iG ?_); simp (implicitDefEqProofs := false) (maxSteps := 2000000) (disch := omega) only [go_sem]; (repeat' (first | (refine hK _ ?_; clear hK hkp kp K) | (with_reducible refine And.intro ?_ ?_) | omega))) | ((first | refine aG (fun h => ?_) (fun h => ?_) | refine aD (fun h => ?_) (fun h => ?_) | refine aX (fun h => ?_) (fun h => ?_)) <;> simp only [h]) | refine awp_cond_t rfl ?_ | refine awp_cond_f rfl ?_ | ((refine awp_cond rfl (fun h => ?_) (fun h => ?_) <;> try simp only [ifs] at h) <;> (try (exfalso; omega))) | refine awp_ret ?_))
      refine awp_loop (fun i : Nat => ⟨[(115, .r (.int .i64 i)), (114, .r (.int .i64 p.kids.length)), (113, .ro true 1 (p.kids.map eI)), (2, .p 0 0 0), (1, .r (.int .i64 many))], [(0, .box 52 [.r (.bool p.leaf), .ro true 1 (p.keys.map eKy), .ro true 1 (p.kids.map eI), .ro true 1 (p.high.map eByte), .r (.int .i64 p.next)])], 1⟩) (fun i => i ≤ p.kids.length ∧ ∀ j, j < i → okKid p many (p.kids.getD j 0)) (fun i => p.kids.length - i) 0 ?_ ?_ ?_
      · exact ⟨Nat.zero_le _, fun j hj => by omega⟩
      · (refine emb [0] ?_ ?_ rfl ?_ ?_ ?_ ?_ <;> simp [okM, okO, lk, ren, renL, renNd, by_, hE, hl] <;> (try omega) <;> (try (intro i hi; first | (rcases i with _ | _ | i; rfl; rfl; (exfalso; omega)) | (rcases i with _ | _ | _ | i; rfl; rfl; rfl; (exfalso; omega)) | (rcases i with _ | _ | _ | _ | i; rfl; rfl; rfl; rfl; (exfalso; omega)) | (rcases i with _ | _ | _ | _ | _ | i; rfl; rfl; rfl; rfl; rfl; (exfalso; omega)) | (rcases i with _ | _ | _ | _ | _ | _ | i; rfl; rfl; rfl; rfl; rfl; rfl; (exfalso; omega)))))
      intro i hi
      obtain ⟨hi, hd2⟩ := hi
      by_cases hlt : i < p.kids.length
      · have zi : ((i : Int) < (p.kids.length : Int)) = True := eq_true (by omega)
        obtain ⟨x, hx⟩ : ∃ x, p.kids[i]? = some x := ⟨p.kids[i], by simp [hlt]⟩
        have hok : okKid p many (p.kids.getD i 0) ↔ 0 ≤ x ∧ (p.leaf = false → x < many) := by rw [List.getD_eq_getElem?_getD, hx]; rfl
        rw [hl] at hok
        (repeat' (first | refine awp_seq ?_ | refine awp_block ?_ | refine awp_skip ?_ | refine awp_exit ?_ | ((first | refine rR (fun K kp hK hkp => ?_) | refine iG ?_); simp (implicitDefEqProofs := false) (maxSteps := 2000000) (disch := omega) only [go_sem, zi, hx, eI, hl]; (repeat' (first | (refine hK _ ?_; clear hK hkp kp K) | (with_reducible refine And.intro ?_ ?_) | omega))) | ((first | refine aG (fun h => ?_) (fun h => ?_) | refine aD (fun h => ?_) (fun h => ?_) | refine aX (fun h => ?_) (fun h => ?_)) <;> simp only [h]) | refine awp_cond_t rfl ?_ | refine awp_cond_f rfl ?_ | ((refine awp_cond rfl (fun h => ?_) (fun h => ?_) <;> try simp only [ifs] at h) <;> (try (exfalso; omega))) | refine awp_ret ?_))
        all_goals first
          | (rw [pgB_f (fun X => by have Y := hok.1 (X.kd _ hlt); clear hE hdone hd2; simp_all; try omega)]; (refine retA_is (by (simp (implicitDefEqProofs := false) (maxSteps := 2000000) (disch := omega) only [go_sem, Go.Proofs.Try.results27]); rfl) ?_; refine eN hE ?_; simp [oneA, ren, renL]))
          | (have hok' := hok.2 (by clear hE hdone hd2; constructor <;> simp_all <;> omega); ((first | (refine nextB (i + 1) ?_ ?_ ?_) | (refine nextA (i + 1) ?_ ?_ ?_) | (refine nextE (i + 1) ?_ ?_ ?_)); rotate_left; (· (try dsimp only); (first | omega | (simp only [List.length_drop, List.length_cons, List.length_append]; omega) | (simp; done) | (simp; omega))); (· (refine emb [0] ?_ ?_ rfl ?_ ?_ ?_ ?_ <;> simp [okM, okO, lk, ren, renL, renNd, by_, hE] <;> (try omega) <;> (try (intro i hi; first | (rcases i with _ | _ | i; rfl; rfl; (exfalso; omega)) | (rcases i with _ | _ | _ | i; rfl; rfl; rfl; (exfalso; omega)) | (rcases i with _ | _ | _ | _ | i; rfl; rfl; rfl; rfl; (exfalso; omega)) | (rcases i with _ | _ | _ | _ | _ | i; rfl; rfl; rfl; rfl; rfl; (exfalso; omega)) | (rcases i with _ | _ | _ | _ | _ | _ | i; rfl; rfl; rfl; rfl; rfl; rfl; (exfalso; omega))))))); exact ⟨by omega, fun j' hj' => (by by_cases he : j' = i; (· rw [he]; exact hok'); (· exact hd2 j' (by omega)))⟩)
      · obtain rfl : i = p.kids.length := by omega
        rw [pgB_t ⟨H, hdone, hd2⟩]
        (repeat' (first | refine awp_seq ?_ | refine awp_block ?_ | refine awp_skip ?_ | refine awp_exit ?_ | ((first | refine rR (fun K kp hK hkp => ?_) | refine iG ?_); simp (implicitDefEqProofs := false) (maxSteps := 2000000) (disch := omega) only [go_sem]; (repeat' (first | (refine hK _ ?_; clear hK hkp kp K) | (with_reducible refine And.intro ?_ ?_) | omega))) | ((first | refine aG (fun h => ?_) (fun h => ?_) | refine aD (fun h => ?_) (fun h => ?_) | refine aX (fun h => ?_) (fun h => ?_)) <;> simp only [h]) | refine awp_cond_t rfl ?_ | refine awp_cond_f rfl ?_ | ((refine awp_cond rfl (fun h => ?_) (fun h => ?_) <;> try simp only [ifs] at h) <;> (try (exfalso; omega))) | refine awp_ret ?_))
        (refine retA_is (by (simp (implicitDefEqProofs := false) (maxSteps := 2000000) (disch := omega) only [go_sem, Go.Proofs.Try.results27]); rfl) ?_; refine eN hE ?_; simp [oneA, ren, renL])
end Go.AM
/- Trees: the walk from the root, as a program: what holds on the way. -/
namespace Go.AM
open Go Go.RowKit
attribute [local irreducible] AWP retA
structure WI (n : Nat) (st : WS) : Prop where
  nd : st.met.Nodup
  lt : ∀ x ∈ st.met, x < n
  rl : st.rows.length ≤ st.met.length
  rs : ∀ r ∈ st.rows, r.length ≤ st.met.length
structure WL (st st' : WS) : Prop where
  m : st.met.length ≤ st'.met.length
  r : st.rows.length ≤ st'.rows.length
theorem WI.len {n : Nat} {st : WS} (h : WI n st) : st.met.length ≤ n := by
  have := nodup_leN h.nd (m := List.range n) (fun x hx => List.mem_range.2 (h.lt x hx))
  simpa using this
section
variable {ps : List PG} {n : Nat}
theorem addRow_len2 (rows : List (List Nat)) (level i : Nat) : (addRow rows level i).length = if level < rows.length then rows.length else rows.length + 1 := by
  unfold addRow; split <;> simp
theorem WI.met1 {st : WS} {i : Nat} (h : WI n st) (hi : i < n) (hm : i ∉ st.met) : WI n ⟨st.met ++ [i], st.rows⟩ := by
  refine ⟨List.nodup_append.2 ⟨h.nd, by simp, fun a ha b hb => by simp at hb; subst hb; rintro rfl; exact hm ha⟩, fun x hx => ?_, ?_, fun r hr => ?_⟩
  · rcases List.mem_append.1 hx with hx | hx
    · exact h.lt x hx
    · simp at hx; omega
  · have := h.rl; simp; omega
  · have := h.rs r hr; simp; omega
theorem WI.row1 {st : WS} {i level : Nat} (h : WI n st) (hi : i < n) (hm : i ∉ st.met) : WI n ⟨st.met ++ [i], addRow st.rows level i⟩ := by
  have h1 := h.met1 hi hm
  refine ⟨h1.nd, h1.lt, ?_, fun r hr => ?_⟩
  · have := h.rl
    show (addRow st.rows level i).length ≤ (st.met ++ [i]).length
    rw [addRow_len2]; simp; split <;> omega
  · have h2 := h.rs
    show r.length ≤ (st.met ++ [i]).length
    have hr' : r ∈ addRow st.rows level i := hr
    unfold addRow at hr'
    simp only [List.length_append, List.length_singleton]
    split at hr'
    · rename_i hl
      rcases List.mem_or_eq_of_mem_set hr' with hr' | rfl
      · have := h2 r hr'; omega
      · have := h2 (st.rows.getD level []) (by rw [List.getD_eq_getElem?_getD, List.getElem?_eq_getElem hl]; exact List.getElem_mem hl)
        rw [List.length_append, List.length_singleton]; omega
    · rcases List.mem_append.1 hr' with hr' | hr'
      · have := h2 r hr'; omega
      · simp at hr'; subst hr'; simp
theorem addRow_le (rows : List (List Nat)) (level i : Nat) : rows.length ≤ (addRow rows level i).length := by rw [addRow_len2]; split <;> omega
theorem kids_inv {rec : Nat → Ky → Ky → Nat → WS → Int × WS} {p : PG} {low high : Ky} {lev : Nat} (hrec : ∀ i low high st, i < n → WI n st → lev ≤ st.rows.length → WI n (rec i low high lev st).2 ∧ WL st (rec i low high lev st).2) :
    ∀ (l : List Nat) (k : Nat) (deep : Int) (st : WS), (∀ x ∈ l, x < n) → WI n st → lev ≤ st.rows.length → WI n (kidsF rec p low high lev k deep st l).2 ∧ WL st (kidsF rec p low high lev k deep st l).2
  | [], k, deep, st, _, h, _ => ⟨h, Nat.le_refl _, Nat.le_refl _⟩
  | kid :: r, k, deep, st, hl, h, hr => by
    obtain ⟨h1, h2⟩ := hrec kid (loP p k low) (hiP p k high) st (hl kid (by simp)) h hr
    rw [kidsF]
    split
    · exact ⟨h1, h2⟩
    · obtain ⟨h3, h4⟩ := kids_inv hrec r (k + 1) (rec kid (loP p k low) (hiP p k high) lev st).1 _ (fun x hx => hl x (by simp [hx])) h1 (Nat.le_trans hr h2.r)
      exact ⟨h3, Nat.le_trans h2.m h4.m, Nat.le_trans h2.r h4.r⟩
theorem walk_inv (hin : ∀ i x, x ∈ kidsOf ps i → x < n) : ∀ (f i : Nat) (low high : Ky) (level : Nat) (st : WS), i < n → WI n st → level ≤ st.rows.length → WI n (walkF ps f i low high level st).2 ∧ WL st (walkF ps f i low high level st).2
  | 0, i, low, high, level, st, hi, h, hr => ⟨h, Nat.le_refl _, Nat.le_refl _⟩
  | f + 1, i, low, high, level, st, hi, h, hr => by
    rw [walkF]
    split
    · exact ⟨h, Nat.le_refl _, Nat.le_refl _⟩
    · rename_i hm
      split
      · exact ⟨h.met1 hi hm, by simp, Nat.le_refl _⟩
      · split
        · exact ⟨h.row1 hi hm, by simp, addRow_le _ _ _⟩
        · obtain ⟨h3, h4⟩ := kids_inv (p := pg ps i) (low := low) (high := high) (fun i low high st hi h hr => walk_inv hin f i low high (level + 1) st hi h hr) (kidsOf ps i) 0 (-2) ⟨st.met ++ [i], addRow st.rows level i⟩ (hin i) (h.row1 hi hm) (by show level + 1 ≤ (addRow st.rows level i).length; rw [addRow_len2]; split <;> omega)
          exact ⟨h3, Nat.le_trans (by simp) h4.m, Nat.le_trans (addRow_le _ _ _) h4.r⟩
end


end Go.AM
/- Trees: the walk from the root, the program's side. -/
namespace Go.AM
open Go Go.RowKit
attribute [local irreducible] AWP retA
def eNt (i : Nat) : List AV := [.r (.int .i64 (i : Int))]
@[simp] theorem ptA_eNt (a : Nat) : (∀ x, x ∈ eNt a → PT x) = True := eq_true (by intro x hx; simp [eNt] at hx; subst hx; exact .r _)
instance : PTf eNt := ⟨fun a => of_eq_true (ptA_eNt a)⟩
def eRow (r : List Nat) : List AV := [.u 3 1 (r.map eNt)]
@[simp] theorem ptA_eRow (a : List Nat) : (∀ x, x ∈ eRow a → PT x) = True := eq_true (by intro x hx; simp [eRow] at hx; subst hx; exact .u _ _ _ (pt_map _ _))
theorem ptq (n : Nat) : PT (.q n) = True := eq_true (.q n)
def castL (l : List Nat) : List Int := l.map Int.ofNat
theorem castL_mem (l : List Nat) (i : Nat) : (castL l).contains (i : Int) = decide (i ∈ l) := by
  rw [Bool.eq_iff_iff, List.contains_iff_mem, decide_eq_true_iff, castL, List.mem_map]
  constructor
  · rintro ⟨a, h1, h2⟩
    have : a = i := Int.ofNat.inj h2
    subst this; exact h1
  · exact fun h => ⟨i, h, rfl⟩
theorem castL_put {l : List Nat} {i : Nat} (h : i ∉ l) : putK (castL l) (i : Int) = castL (l ++ [i]) := by
  unfold putK
  rw [castL_mem, decide_eq_false h]
  simp [castL]
section
variable {P : Program} {E : Env} {N : Nat} {st : AS} {AQ : AExit → AS → Prop}
theorem thenA_mono {p q : AS → Prop} (h : ∀ s, p s → q s) : ∀ e s, thenA p AQ e s → thenA q AQ e s := fun e s hh => by
  cases e with
  | normal => exact h s hh
  | _ => exact hh
/-- What stands behind is shown once, at one state. -/
theorem awp_cut {x y : Code} (fx : AS) (h : AWP P E N y fx AQ) (h2 : ∀ K : AS → Prop, (∀ st', Emb E N st' fx → K st') → AWP P E N x st (thenA K AQ)) : AWP P E N (.seq x y) st AQ := awp_seq (h2 _ fun st' he => AWP.emb he h)
theorem awp_cut2 {x y v : Code} (fx : AS) (h : AWP P E N v fx AQ) (h2 : ∀ K : AS → Prop, (∀ st', Emb E N st' fx → K st') → AWP P E N x st (thenA (fun s => AWP P E N y s (thenA K AQ)) AQ)) : AWP P E N (.seq x (.seq y v)) st AQ :=
  awp_seq ((h2 _ fun st' he => AWP.emb he h).mono (thenA_mono fun _ hh => awp_seq hh))
theorem awp_cut4 {x y z u v : Code} (fx : AS) (h : AWP P E N v fx AQ) (h2 : ∀ K : AS → Prop, (∀ st', Emb E N st' fx → K st') → AWP P E N x st (thenA (fun s => AWP P E N y s (thenA (fun s => AWP P E N z s (thenA (fun s => AWP P E N u s (thenA K AQ)) AQ)) AQ)) AQ)) :
    AWP P E N (.seq x (.seq y (.seq z (.seq u v)))) st AQ :=
  awp_seq ((h2 _ fun st' he => AWP.emb he h).mono (thenA_mono fun _ hh => awp_seq (hh.mono (thenA_mono fun _ hh => awp_seq (hh.mono (thenA_mono fun _ hh => awp_seq hh))))))
theorem awp_cut5 {x y z u t v : Code} (fx : AS) (h : AWP P E N v fx AQ) (h2 : ∀ K : AS → Prop, (∀ st', Emb E N st' fx → K st') → AWP P E N x st (thenA (fun s => AWP P E N y s (thenA (fun s => AWP P E N z s (thenA (fun s => AWP P E N u s (thenA (fun s => AWP P E N t s (thenA K AQ)) AQ)) AQ)) AQ)) AQ)) :
    AWP P E N (.seq x (.seq y (.seq z (.seq u (.seq t v))))) st AQ :=
  awp_seq ((h2 _ fun st' he => AWP.emb he h).mono (thenA_mono fun _ hh => awp_seq (hh.mono (thenA_mono fun _ hh => awp_seq (hh.mono (thenA_mono fun _ hh => awp_seq (hh.mono (thenA_mono fun _ hh => awp_seq hh))))))))
end
theorem firstLow_nil {p : PG} {low : Ky} (h : p.keys.length = 0) : firstLow p low = true := by
  have : p.keys = [] := List.length_eq_zero_iff.1 h
  unfold firstLow; rw [this]
theorem firstLow_cons {p : PG} {low k : Ky} (h : p.keys[0]? = some k) : firstLow p low = !ltK k low := by
  unfold firstLow
  cases hk : p.keys with
  | nil => rw [hk] at h; simp at h
  | cons x r => rw [hk] at h; simp at h; subst h; rfl
/-- What the walk is given; what it gives: a list that was prolonged is another one. -/
def boxW (ps : List PG) (root : Int) (n : Nat) (rows : List (List Nat)) : Nd := .box 58 [.ro true 5 (ps.map eP), .r (.int .i64 root), .q 1, .s n 0 rows.length]
def ownW (ps : List PG) (root : Int) (n : Nat) (st : WS) : List (Nat × Nd) := [(0, boxW ps root n st.rows), (1, .mp (castL st.met)), (n, .ul 50 1 (st.rows.map eRow) [])]
set_option maxRecDepth 100000 in
set_option maxHeartbeats 8000000 in
theorem walk_con (G : List (Nat × List Value)) (ps : List PG) (root : Int) (hn : ps.length ≤ 4000) (hall : ∀ p ∈ ps, PageOK p ps.length) (hin : ∀ i x, x ∈ kidsOf ps i → x < ps.length) : ∀ (f i level : Nat) (low high : Ky) (tl th : Bool) (st : WS), i < ps.length → WI ps.length st → level ≤ st.rows.length → ps.length < st.met.length + f →
    Con Go.Proofs.Try.prog G 28 [.p 0 0 0, .r (.int .i64 i), .ro tl 1 (low.map eByte), .ro th 1 (high.map eByte), .r (.int .i64 level)] (ownW ps root 2 st) 3 (Is (.r (.int .i64 (walkF ps f i low high level st).1)) (ownW ps root 3 (walkF ps f i low high level st).2) 4) No
  | 0, i, level, low, high, tl, th, st, hi, hw, hr, hf => absurd hw.len (by omega)
  | f + 1, i, level, low, high, tl, th, st, hi, hw, hr, hf => by
    obtain ⟨R, hR⟩ : ∃ R, walkF ps (f + 1) i low high level st = R := ⟨_, rfl⟩
    rw [hR]
    rw [walkF] at hR
    have zi : ((i : Int) < (ps.length : Int)) = True := eq_true (by omega)
    obtain ⟨p, hp⟩ : ∃ p, ps[i]? = some p := ⟨ps[i], by simp [hi]⟩
    have hpg : pg ps i = p := by rw [pg, List.getD_eq_getElem?_getD, hp]; rfl
    rw [hpg] at hR
    have hpo := hall p (List.mem_of_getElem? hp)
    have hml := hw.len
    have hrl2 := hw.rl
    refine con_of_awp Go.Proofs.Try.func28 rfl (by kernel_rfl) (of_decide_eq_true (by kernel_rfl)) ?_; intro E hG hE; subst hG; simp only [ent]
    by_cases hm : i ∈ st.met
    · rw [if_pos hm] at hR
      subst hR
      have hc : (castL st.met).contains (i : Int) = true := by rw [castL_mem]; exact decide_eq_true hm
      (repeat' (first | refine awp_seq ?_ | refine awp_block ?_ | refine awp_skip ?_ | refine awp_exit ?_ | ((first | refine rR (fun K kp hK hkp => ?_) | refine rX (id := 10) mixed [] 17 [0,1,2,3,4,5,6,7,8,9,10,11,12,13,14,15,16] (fun K kp hK hkp => ?_) | refine iG ?_ | refine iD ?_ | refine iX ?_); simp (implicitDefEqProofs := false) (maxSteps := 2000000) (disch := omega) only [go_sem, hc, ownW, boxW]; (repeat' (first | (refine hK _ ?_; clear hK hkp kp K) | (with_reducible refine And.intro ?_ ?_) | omega))) | ((first | refine aG (fun h => ?_) (fun h => ?_) | refine aD (fun h => ?_) (fun h => ?_) | refine aX (fun h => ?_) (fun h => ?_)) <;> simp only [h]) | refine awp_cond_t rfl ?_ | refine awp_cond_f rfl ?_ | ((refine awp_cond rfl (fun h => ?_) (fun h => ?_) <;> try simp only [ifs] at h) <;> (try (exfalso; omega))) | refine awp_ret ?_))
      (refine retA_is (by (simp (implicitDefEqProofs := false) (maxSteps := 2000000) (disch := omega) only [go_sem, Go.Proofs.Try.results28, ownW, boxW, renOp]); rfl) ?_; refine (embV2 [0, 1, 2, 2] ?_ ?_ ?_ ?_ ?_ ?_).s <;> simp [injO, oneA, okO, lk, ren, renL, renNd, by_, hE, ownW, boxW, renOp] <;> (try (intro i hi; first | (rcases i with _ | _ | i; rfl; rfl; (exfalso; omega)) | (rcases i with _ | _ | _ | i; rfl; rfl; rfl; (exfalso; omega)) | (rcases i with _ | _ | _ | _ | i; rfl; rfl; rfl; rfl; (exfalso; omega)) | (rcases i with _ | _ | _ | _ | _ | i; rfl; rfl; rfl; rfl; rfl; (exfalso; omega)) | (rcases i with _ | _ | _ | _ | _ | _ | i; rfl; rfl; rfl; rfl; rfl; rfl; (exfalso; omega)))))
    rw [if_neg hm] at hR
    have hc : (castL st.met).contains (i : Int) = false := by rw [castL_mem]; exact decide_eq_false hm
    have hput := castL_put hm
    by_cases hx : p.high = high
    rotate_left
    · rw [if_pos (.inl hx)] at hR
      subst hR
      have h1' : (p.high == high) = false := by simpa using hx
      (repeat' (first | refine awp_seq ?_ | refine awp_block ?_ | refine awp_skip ?_ | refine awp_exit ?_ | ((first | refine rR (fun K kp hK hkp => ?_) | refine rX (id := 10) mixed [] 17 [0,1,2,3,4,5,6,7,8,9,10,11,12,13,14,15,16] (fun K kp hK hkp => ?_) | refine cR (bEq_con _ _ _ _ _) ?_ | refine cD (bEq_con _ _ _ _ _) ?_ | refine cX (bEq_con _ _ _ _ _) ?_ | refine iG ?_ | refine iD ?_ | refine iX ?_); simp (implicitDefEqProofs := false) (maxSteps := 2000000) (disch := omega) only [go_sem, hc, hput, zi, hp, eP, ownW, boxW, h1']; (repeat' (first | (refine hK _ ?_; clear hK hkp kp K) | (with_reducible refine And.intro ?_ ?_) | omega))) | ((first | refine aG (fun h => ?_) (fun h => ?_) | refine aD (fun h => ?_) (fun h => ?_) | refine aX (fun h => ?_) (fun h => ?_)) <;> simp only [h]) | refine awp_cond_t rfl ?_ | refine awp_cond_f rfl ?_ | ((refine awp_cond rfl (fun h => ?_) (fun h => ?_) <;> try simp only [ifs] at h) <;> (try (exfalso; omega))) | refine awp_ret ?_))
      (refine retA_is (by (simp (implicitDefEqProofs := false) (maxSteps := 2000000) (disch := omega) only [go_sem, Go.Proofs.Try.results28, ownW, boxW, renOp]); rfl) ?_; refine (embV2 [0, 1, 2, 2] ?_ ?_ ?_ ?_ ?_ ?_).s <;> simp [injO, oneA, okO, lk, ren, renL, renNd, by_, hE, ownW, boxW, renOp] <;> (try (intro i hi; first | (rcases i with _ | _ | i; rfl; rfl; (exfalso; omega)) | (rcases i with _ | _ | _ | i; rfl; rfl; rfl; (exfalso; omega)) | (rcases i with _ | _ | _ | _ | i; rfl; rfl; rfl; rfl; (exfalso; omega)) | (rcases i with _ | _ | _ | _ | _ | i; rfl; rfl; rfl; rfl; rfl; (exfalso; omega)) | (rcases i with _ | _ | _ | _ | _ | _ | i; rfl; rfl; rfl; rfl; rfl; rfl; (exfalso; omega)))))
    have h1' : (p.high == high) = true := by rw [hx]; exact beq_self_eq_true _
    cases hfl : firstLow p low
    · rw [if_pos (.inr hfl)] at hR
      subst hR
      have hk0 : ¬ p.keys.length = 0 := fun h => by rw [firstLow_nil h] at hfl; cases hfl
      have hk1 : ((p.keys.length : Int) > 0) = True := eq_true (by omega)
      obtain ⟨k, hk⟩ : ∃ k, p.keys[0]? = some k := ⟨p.keys[0]'(by omega), by simp⟩
      have h2 : ltK k low = true := by rw [firstLow_cons hk] at hfl; simpa using hfl
      (repeat' (first | refine awp_seq ?_ | refine awp_block ?_ | refine awp_skip ?_ | refine awp_exit ?_ | ((first | refine rR (fun K kp hK hkp => ?_) | refine rX (id := 10) mixed [] 17 [0,1,2,3,4,5,6,7,8,9,10,11,12,13,14,15,16] (fun K kp hK hkp => ?_) | refine cR (bEq_con _ _ _ _ _) ?_ | refine cD (bEq_con _ _ _ _ _) ?_ | refine cX (bEq_con _ _ _ _ _) ?_ | refine cR (bcmp_con _ _ _ _ _) ?_ | refine cD (bcmp_con _ _ _ _ _) ?_ | refine cX (bcmp_con _ _ _ _ _) ?_ | refine iG ?_ | refine iD ?_ | refine iX ?_); simp (implicitDefEqProofs := false) (maxSteps := 2000000) (disch := omega) only [go_sem, hc, hput, zi, hp, eP, ownW, boxW, h1', hk1, hk, eKy, cmp_lt0, h2]; (repeat' (first | (refine hK _ ?_; clear hK hkp kp K) | (with_reducible refine And.intro ?_ ?_) | omega))) | ((first | refine aG (fun h => ?_) (fun h => ?_) | refine aD (fun h => ?_) (fun h => ?_) | refine aX (fun h => ?_) (fun h => ?_)) <;> simp only [h]) | refine awp_cond_t rfl ?_ | refine awp_cond_f rfl ?_ | ((refine awp_cond rfl (fun h => ?_) (fun h => ?_) <;> try simp only [ifs] at h) <;> (try (exfalso; omega))) | refine awp_ret ?_))
      (refine retA_is (by (simp (implicitDefEqProofs := false) (maxSteps := 2000000) (disch := omega) only [go_sem, Go.Proofs.Try.results28, ownW, boxW, renOp]); rfl) ?_; refine (embV2 [0, 1, 2, 2] ?_ ?_ ?_ ?_ ?_ ?_).s <;> simp [injO, oneA, okO, lk, ren, renL, renNd, by_, hE, ownW, boxW, renOp] <;> (try (intro i hi; first | (rcases i with _ | _ | i; rfl; rfl; (exfalso; omega)) | (rcases i with _ | _ | _ | i; rfl; rfl; rfl; (exfalso; omega)) | (rcases i with _ | _ | _ | _ | i; rfl; rfl; rfl; rfl; (exfalso; omega)) | (rcases i with _ | _ | _ | _ | _ | i; rfl; rfl; rfl; rfl; rfl; (exfalso; omega)) | (rcases i with _ | _ | _ | _ | _ | _ | i; rfl; rfl; rfl; rfl; rfl; rfl; (exfalso; omega)))))
    rw [if_neg (by rw [hx, hfl]; simp)] at hR
    refine awp_cut5 (fx := ⟨[(13, .p 4 0 0), (4, .r (.int .i64 level)), (3, .ro th 1 (high.map eByte)), (2, .ro tl 1 (low.map eByte)), (1, .r (.int .i64 i)), (0, .p 0 0 0)], [(0, boxW ps root 3 st.rows), (1, .mp (castL (st.met ++ [i]))), (3, .ul 50 1 (st.rows.map eRow) []), (4, .box 52 [.r (.bool p.leaf), .ro true 1 (p.keys.map eKy), .ro true 1 (p.kids.map eI), .ro true 1 (p.high.map eByte), .r (.int .i64 p.next)])], 5⟩) ?_ fun K hcut => ?_
    rotate_left
    · by_cases hk0 : p.keys.length = 0
      · have hk1 : ((p.keys.length : Int) > 0) = False := eq_false (by omega)
        (repeat' (first | refine awp_seq ?_ | refine awp_block ?_ | refine awp_skip ?_ | refine awp_exit ?_ | ((first | refine rR (fun K kp hK hkp => ?_) | refine rX (id := 10) mixed [] 17 [0,1,2,3,4,5,6,7,8,9,10,11,12,13,14,15,16] (fun K kp hK hkp => ?_) | refine cR (bEq_con _ _ _ _ _) ?_ | refine cD (bEq_con _ _ _ _ _) ?_ | refine cX (bEq_con _ _ _ _ _) ?_ | refine cR (bcmp_con _ _ _ _ _) ?_ | refine cD (bcmp_con _ _ _ _ _) ?_ | refine cX (bcmp_con _ _ _ _ _) ?_ | refine iG ?_ | refine iD ?_ | refine iX ?_); simp (implicitDefEqProofs := false) (maxSteps := 2000000) (disch := omega) only [go_sem, hc, hput, zi, hp, eP, ownW, boxW, h1', hk1]; (repeat' (first | (refine hK _ ?_; clear hK hkp kp K) | (with_reducible refine And.intro ?_ ?_) | omega))) | ((first | refine aG (fun h => ?_) (fun h => ?_) | refine aD (fun h => ?_) (fun h => ?_) | refine aX (fun h => ?_) (fun h => ?_)) <;> simp only [h]) | refine awp_cond_t rfl ?_ | refine awp_cond_f rfl ?_ | ((refine awp_cond rfl (fun h => ?_) (fun h => ?_) <;> try simp only [ifs] at h) <;> (try (exfalso; omega))) | refine awp_ret ?_))
        refine hcut _ ?_
        (refine emb2 [0, 1, 2, 2, 4] ?_ ?_ rfl ?_ ?_ ?_ ?_ <;> simp [injO, okM, okO, lk, ren, renL, renNd, by_, hE, boxW, renOp] <;> (try omega) <;> (try (intro i hi; first | (rcases i with _ | _ | i; rfl; rfl; (exfalso; omega)) | (rcases i with _ | _ | _ | i; rfl; rfl; rfl; (exfalso; omega)) | (rcases i with _ | _ | _ | _ | i; rfl; rfl; rfl; rfl; (exfalso; omega)) | (rcases i with _ | _ | _ | _ | _ | i; rfl; rfl; rfl; rfl; rfl; (exfalso; omega)) | (rcases i with _ | _ | _ | _ | _ | _ | i; rfl; rfl; rfl; rfl; rfl; rfl; (exfalso; omega)))))
      · have hk1 : ((p.keys.length : Int) > 0) = True := eq_true (by omega)
        obtain ⟨k, hk⟩ : ∃ k, p.keys[0]? = some k := ⟨p.keys[0]'(by omega), by simp⟩
        have h2 : ltK k low = false := by rw [firstLow_cons hk] at hfl; simpa using hfl
        (repeat' (first | refine awp_seq ?_ | refine awp_block ?_ | refine awp_skip ?_ | refine awp_exit ?_ | ((first | refine rR (fun K kp hK hkp => ?_) | refine rX (id := 10) mixed [] 17 [0,1,2,3,4,5,6,7,8,9,10,11,12,13,14,15,16] (fun K kp hK hkp => ?_) | refine cR (bEq_con _ _ _ _ _) ?_ | refine cD (bEq_con _ _ _ _ _) ?_ | refine cX (bEq_con _ _ _ _ _) ?_ | refine cR (bcmp_con _ _ _ _ _) ?_ | refine cD (bcmp_con _ _ _ _ _) ?_ | refine cX (bcmp_con _ _ _ _ _) ?_ | refine iG ?_ | refine iD ?_ | refine iX ?_); simp (implicitDefEqProofs := false) (maxSteps := 2000000) (disch := omega) only [go_sem, hc, hput, zi, hp, eP, ownW, boxW, h1', hk1, hk, eKy, cmp_lt0, h2]; (repeat' (first | (refine hK _ ?_; clear hK hkp kp K) | (with_reducible refine And.intro ?_ ?_) | omega))) | ((first | refine aG (fun h => ?_) (fun h => ?_) | refine aD (fun h => ?_) (fun h => ?_) | refine aX (fun h => ?_) (fun h => ?_)) <;> simp only [h]) | refine awp_cond_t rfl ?_ | refine awp_cond_f rfl ?_ | ((refine awp_cond rfl (fun h => ?_) (fun h => ?_) <;> try simp only [ifs] at h) <;> (try (exfalso; omega))) | refine awp_ret ?_))
        refine hcut _ ?_
        (refine emb2 [0, 1, 2, 2, 4] ?_ ?_ rfl ?_ ?_ ?_ ?_ <;> simp [injO, okM, okO, lk, ren, renL, renNd, by_, hE, boxW, renOp] <;> (try omega) <;> (try (intro i hi; first | (rcases i with _ | _ | i; rfl; rfl; (exfalso; omega)) | (rcases i with _ | _ | _ | i; rfl; rfl; rfl; (exfalso; omega)) | (rcases i with _ | _ | _ | _ | i; rfl; rfl; rfl; rfl; (exfalso; omega)) | (rcases i with _ | _ | _ | _ | _ | i; rfl; rfl; rfl; rfl; rfl; (exfalso; omega)) | (rcases i with _ | _ | _ | _ | _ | _ | i; rfl; rfl; rfl; rfl; rfl; rfl; (exfalso; omega)))))
    refine awp_cut2 (fx := ⟨[(13, .p 4 0 0), (4, .r (.int .i64 level)), (3, .ro th 1 (high.map eByte)), (2, .ro tl 1 (low.map eByte)), (1, .r (.int .i64 i)), (0, .p 0 0 0)], [(0, boxW ps root 3 (addRow st.rows level i)), (1, .mp (castL (st.met ++ [i]))), (3, .ul 50 1 ((addRow st.rows level i).map eRow) []), (4, .box 52 [.r (.bool p.leaf), .ro true 1 (p.keys.map eKy), .ro true 1 (p.kids.map eI), .ro true 1 (p.high.map eByte), .r (.int .i64 p.next)])], 5⟩) ?_ fun K hcut => ?_
    rotate_left
    · refine awp_block ?_
      refine awp_loop (fun k : Nat => ⟨[(13, .p 4 0 0), (4, .r (.int .i64 level)), (3, .ro th 1 (high.map eByte)), (2, .ro tl 1 (low.map eByte)), (1, .r (.int .i64 i)), (0, .p 0 0 0)], [(0, .box 58 [.ro true 5 (ps.map eP), .r (.int .i64 root), .q 1, .s 3 0 (st.rows.length + k)]), (1, .mp (castL (st.met ++ [i]))), (3, .ul 50 1 (st.rows.map eRow ++ List.replicate k [.r (.slice none 0 0)]) []), (4, .box 52 [.r (.bool p.leaf), .ro true 1 (p.keys.map eKy), .ro true 1 (p.kids.map eI), .ro true 1 (p.high.map eByte), .r (.int .i64 p.next)])], 5⟩) (fun k => k ≤ level + 1 - st.rows.length) (fun k => level + 1 - st.rows.length - k) 0 ?_ ?_ ?_
      · exact Nat.zero_le _
      · (refine emb [0, 1, 2, 3, 4] ?_ ?_ rfl ?_ ?_ ?_ ?_ <;> simp [okM, okO, lk, ren, renL, renNd, by_, hE, boxW, renOp] <;> (try omega) <;> (try (intro i hi; first | (rcases i with _ | _ | i; rfl; rfl; (exfalso; omega)) | (rcases i with _ | _ | _ | i; rfl; rfl; rfl; (exfalso; omega)) | (rcases i with _ | _ | _ | _ | i; rfl; rfl; rfl; rfl; (exfalso; omega)) | (rcases i with _ | _ | _ | _ | _ | i; rfl; rfl; rfl; rfl; rfl; (exfalso; omega)) | (rcases i with _ | _ | _ | _ | _ | _ | i; rfl; rfl; rfl; rfl; rfl; rfl; (exfalso; omega)))))
      intro k hk
      by_cases hlv : level < st.rows.length
      · obtain rfl : k = 0 := by omega
        have hg : ((st.rows.length : Int) ≤ (level : Int)) = False := eq_false (by omega)
        have zl : ((level : Int) < (st.rows.length : Int)) = True := eq_true (by omega)
        obtain ⟨r, hr0⟩ : ∃ r, st.rows[level]? = some r := ⟨st.rows[level], by simp [hlv]⟩
        have hrl := hw.rs r (List.mem_of_getElem? hr0)
        have hrow : (st.rows.map eRow)[level]? = some [.u 3 1 (r.map eNt)] := by rw [List.getElem?_map, hr0]; rfl
        simp only [Nat.add_zero, List.replicate_zero, List.append_nil]
        (refine AWP.emb (emb_open (T := ?z1T) (k := ?z1k) (els := ?z1e) (T' := ?z1T1) (k' := ?z1k1) (els' := ?z1e1) (op := ?z1op) (e := ?z1ee) 3 level 0 ?z1h ?z1he ?z1hj ?z1ho) ?z1g; (case z1h => rfl); (case z1he => exact hrow); (case z1hj => rfl); (case z1ho => simp [lk2]); simp only [List.length_map])
        (repeat' (first | refine awp_seq ?_ | refine awp_block ?_ | refine awp_skip ?_ | refine awp_exit ?_ | ((first | refine rR (fun K kp hK hkp => ?_) | refine rX (id := 10) mixed [5] 15 [0,1,2,3,4,5,6,7,8,9,10,11,12,13,14] (fun K kp hK hkp => ?_) | refine iG ?_ | refine iD ?_ | refine iX ?_); simp (implicitDefEqProofs := false) (maxSteps := 2000000) (disch := omega) only [go_sem, hg, zl, hrow, List.length_map, ne_eq, reduceCtorEq, not_false_eq_true, Value.oneCell']; (repeat' (first | (refine hK _ ?_; clear hK hkp kp K) | (with_reducible refine And.intro ?_ ?_) | omega))) | ((first | refine aG (fun h => ?_) (fun h => ?_) | refine aD (fun h => ?_) (fun h => ?_) | refine aX (fun h => ?_) (fun h => ?_)) <;> simp only [h]) | refine awp_cond_t rfl ?_ | refine awp_cond_f rfl ?_ | ((refine awp_cond rfl (fun h => ?_) (fun h => ?_) <;> try simp only [ifs] at h) <;> (try (exfalso; omega))) | refine awp_ret ?_))
        have hset : (st.rows.map eRow).set level [.u 3 1 (r.map eNt ++ [[.r (.int .i64 (i : Int))]])] = (addRow st.rows level i).map eRow := by
          rw [addRow, if_pos hlv, List.map_set, List.getD_eq_getElem?_getD, hr0]; simp [eRow, eNt]
        refine hcut _ ?_
        have hany : ((st.rows.map eRow).set level [AV.any])[level]? = some [AV.any] := by simp [hlv]
        have htk : (r.map eNt ++ [[AV.r (.int .i64 (i : Int))]]).take (r.length + 1) = r.map eNt ++ [[AV.r (.int .i64 (i : Int))]] := List.take_of_length_le (by simp)
        (refine Emb.trans (emb_close (T := ?z2T) (k := ?z2k) (els := ?z2e) (T' := ?z2T1) (k' := ?z2k1) (els' := ?z2e1) (op := ?z2op) (e := ?z2ee) (m := ?z2m) (lo := ?z2lo) (len := ?z2len) 3 level 0 ?z2h ?z2ho ?z2hm ?z2hn ?z2hl ?z2he ?z2hj) ?z2g; (case z2h => rfl); (case z2he => exact hany); (case z2ho => (simp only [lk2, and_self, if_true, ↓reduceIte, List.length_map, htk, hset]; rfl)); (case z2hm => rfl); (case z2hn => simp); (case z2hl => simp [List.length_map, htk, hset]); (case z2hj => simp [List.length_map, htk, hset]); simp only [rm, rm2, and_self, Nat.le_refl, Nat.zero_add, Nat.lt_add_one, Nat.reduceLT, Nat.reduceEqDiff, ↓reduceIte, if_true, List.drop_zero, List.set_cons_zero, List.set_cons_succ, List.length_map, htk, hset])
        (refine emb [0, 1, 2, 3, 4] ?_ ?_ rfl ?_ ?_ ?_ ?_ <;> simp [okM, okO, lk, ren, renL, renNd, by_, hE, boxW, renOp, addRow_len2, hlv] <;> (try omega) <;> (try (intro i hi; first | (rcases i with _ | _ | i; rfl; rfl; (exfalso; omega)) | (rcases i with _ | _ | _ | i; rfl; rfl; rfl; (exfalso; omega)) | (rcases i with _ | _ | _ | _ | i; rfl; rfl; rfl; rfl; (exfalso; omega)) | (rcases i with _ | _ | _ | _ | _ | i; rfl; rfl; rfl; rfl; rfl; (exfalso; omega)) | (rcases i with _ | _ | _ | _ | _ | _ | i; rfl; rfl; rfl; rfl; rfl; rfl; (exfalso; omega)))))
      · obtain rfl : level = st.rows.length := by omega
        by_cases hk0 : k = 0
        · subst hk0
          have hg : ((st.rows.length : Int) ≤ (st.rows.length : Int)) = True := eq_true (Int.le_refl _)
          simp only [Nat.add_zero, List.replicate_zero, List.append_nil]
          (repeat' (first | refine awp_seq ?_ | refine awp_block ?_ | refine awp_skip ?_ | refine awp_exit ?_ | ((first | refine rR (fun K kp hK hkp => ?_) | refine rX (id := 10) mixed [] 17 [0,1,2,3,4,5,6,7,8,9,10,11,12,13,14,15,16] (fun K kp hK hkp => ?_) | refine iG ?_ | refine iD ?_ | refine iX ?_); simp (implicitDefEqProofs := false) (maxSteps := 2000000) (disch := omega) only [go_sem, hg, ne_eq, reduceCtorEq, not_false_eq_true]; (repeat' (first | (refine hK _ ?_; clear hK hkp kp K) | (with_reducible refine And.intro ?_ ?_) | omega))) | ((first | refine aG (fun h => ?_) (fun h => ?_) | refine aD (fun h => ?_) (fun h => ?_) | refine aX (fun h => ?_) (fun h => ?_)) <;> simp only [h]) | refine awp_cond_t rfl ?_ | refine awp_cond_f rfl ?_ | ((refine awp_cond rfl (fun h => ?_) (fun h => ?_) <;> try simp only [ifs] at h) <;> (try (exfalso; omega))) | refine awp_ret ?_))
          ((first | (refine nextB (1) ?_ ?_ ?_) | (refine nextA (1) ?_ ?_ ?_) | (refine nextE (1) ?_ ?_ ?_)); rotate_left; (· (try dsimp only); (first | omega | (simp only [List.length_drop, List.length_cons, List.length_append]; omega) | (simp; done) | (simp; omega))); (· (refine emb [0, 1, 2, 6, 4] ?_ ?_ rfl ?_ ?_ ?_ ?_ <;> simp [okM, okO, lk, ren, renL, renNd, by_, hE, renOp, List.replicate] <;> (try omega) <;> (try (intro i hi; first | (rcases i with _ | _ | i; rfl; rfl; (exfalso; omega)) | (rcases i with _ | _ | _ | i; rfl; rfl; rfl; (exfalso; omega)) | (rcases i with _ | _ | _ | _ | i; rfl; rfl; rfl; rfl; (exfalso; omega)) | (rcases i with _ | _ | _ | _ | _ | i; rfl; rfl; rfl; rfl; rfl; (exfalso; omega)) | (rcases i with _ | _ | _ | _ | _ | _ | i; rfl; rfl; rfl; rfl; rfl; rfl; (exfalso; omega)))))))
          omega
        · obtain rfl : k = 1 := by omega
          have hg : ((st.rows.length : Int) + 1 ≤ (st.rows.length : Int)) = False := eq_false (by omega)
          have hrow : (st.rows.map eRow ++ List.replicate 1 [AV.r (.slice none 0 0)])[st.rows.length]? = some [AV.r (.slice none 0 0)] := by simp
          have zl : ((st.rows.length : Int) < (st.rows.length : Int) + 1) = True := eq_true (by omega)
          have zc : ((st.rows.length + 1 : Nat) : Int) = (st.rows.length : Int) + 1 := by omega
          (repeat' (first | refine awp_seq ?_ | refine awp_block ?_ | refine awp_skip ?_ | refine awp_exit ?_ | ((first | refine rR (fun K kp hK hkp => ?_) | refine rX (id := 10) mixed [] 15 [0,1,2,3,4,5,6,7,8,9,10,11,12,13,14] (fun K kp hK hkp => ?_) | refine iG ?_ | refine iD ?_ | refine iX ?_); simp (implicitDefEqProofs := false) (maxSteps := 2000000) (disch := omega) only [go_sem, hg, hrow, zl, zc, ne_eq, reduceCtorEq, not_false_eq_true, Value.oneCell']; (repeat' (first | (refine hK _ ?_; clear hK hkp kp K) | (with_reducible refine And.intro ?_ ?_) | omega))) | ((first | refine aG (fun h => ?_) (fun h => ?_) | refine aD (fun h => ?_) (fun h => ?_) | refine aX (fun h => ?_) (fun h => ?_)) <;> simp only [h]) | refine awp_cond_t rfl ?_ | refine awp_cond_f rfl ?_ | ((refine awp_cond rfl (fun h => ?_) (fun h => ?_) <;> try simp only [ifs] at h) <;> (try (exfalso; omega))) | refine awp_ret ?_))
          have hset : (st.rows.map eRow ++ List.replicate 1 [AV.r (.slice none 0 0)]).set st.rows.length [.u 3 1 [[.r (.int .i64 (i : Int))]]] = (addRow st.rows st.rows.length i).map eRow := by
            rw [addRow, if_neg hlv]; simp [eRow, eNt]
          have hset' : st.rows.map eRow ++ [[.u 3 1 [[.r (.int .i64 (i : Int))]]]] = (addRow st.rows st.rows.length i).map eRow := by
            rw [addRow, if_neg hlv]; simp [eRow, eNt]
          have hany : ((st.rows.map eRow ++ List.replicate 1 [AV.r (.slice none 0 0)]).set st.rows.length [AV.any])[st.rows.length]? = some [AV.any] := by simp
          refine hcut _ ?_
          refine Emb.trans (emb_toU (T := 3) (k := 1) (els := [[.r (.int .i64 (i : Int))]]) 6 rfl) ?_
          simp only [setNd]
          (refine Emb.trans (emb_close (T := ?z3T) (k := ?z3k) (els := ?z3e) (T' := ?z3T1) (k' := ?z3k1) (els' := ?z3e1) (op := ?z3op) (e := ?z3ee) (m := ?z3m) (lo := ?z3lo) (len := ?z3len) 3 st.rows.length 0 ?z3h ?z3ho ?z3hm ?z3hn ?z3hl ?z3he ?z3hj) ?z3g; (case z3h => rfl); (case z3he => exact hany); (case z3ho => (simp only [lk2, and_self, if_true, ↓reduceIte, hset, hset', List.length_singleton, List.take_succ_cons, List.take_zero]; rfl)); (case z3hm => rfl); (case z3hn => simp); (case z3hl => simp [hset, hset', List.length_singleton, List.take_succ_cons, List.take_zero]); (case z3hj => simp [hset, hset', List.length_singleton, List.take_succ_cons, List.take_zero]); simp only [rm, rm2, and_self, Nat.le_refl, Nat.zero_add, Nat.lt_add_one, Nat.reduceLT, Nat.reduceEqDiff, ↓reduceIte, if_true, List.drop_zero, List.set_cons_zero, List.set_cons_succ, hset, hset', List.length_singleton, List.take_succ_cons, List.take_zero])
          (refine emb [0, 1, 2, 3, 4] ?_ ?_ rfl ?_ ?_ ?_ ?_ <;> simp [okM, okO, lk, ren, renL, renNd, by_, hE, boxW, renOp, addRow_len2, hlv] <;> (try omega) <;> (try (intro i hi; first | (rcases i with _ | _ | i; rfl; rfl; (exfalso; omega)) | (rcases i with _ | _ | _ | i; rfl; rfl; rfl; (exfalso; omega)) | (rcases i with _ | _ | _ | _ | i; rfl; rfl; rfl; rfl; (exfalso; omega)) | (rcases i with _ | _ | _ | _ | _ | i; rfl; rfl; rfl; rfl; rfl; (exfalso; omega)) | (rcases i with _ | _ | _ | _ | _ | _ | i; rfl; rfl; rfl; rfl; rfl; rfl; (exfalso; omega)))))
    have hwi := hw.row1 (level := level) hi hm
    by_cases hl : p.leaf = true
    · rw [if_pos hl] at hR
      subst hR
      (repeat' (first | refine awp_seq ?_ | refine awp_block ?_ | refine awp_skip ?_ | refine awp_exit ?_ | ((first | refine rR (fun K kp hK hkp => ?_) | refine rX (id := 10) mixed [] 17 [0,1,2,3,4,5,6,7,8,9,10,11,12,13,14,15,16] (fun K kp hK hkp => ?_) | refine iG ?_ | refine iD ?_ | refine iX ?_); simp (implicitDefEqProofs := false) (maxSteps := 2000000) (disch := omega) only [go_sem, hl, boxW]; (repeat' (first | (refine hK _ ?_; clear hK hkp kp K) | (with_reducible refine And.intro ?_ ?_) | omega))) | ((first | refine aG (fun h => ?_) (fun h => ?_) | refine aD (fun h => ?_) (fun h => ?_) | refine aX (fun h => ?_) (fun h => ?_)) <;> simp only [h]) | refine awp_cond_t rfl ?_ | refine awp_cond_f rfl ?_ | ((refine awp_cond rfl (fun h => ?_) (fun h => ?_) <;> try simp only [ifs] at h) <;> (try (exfalso; omega))) | refine awp_ret ?_))
      (refine retA_is (by (simp (implicitDefEqProofs := false) (maxSteps := 2000000) (disch := omega) only [go_sem, Go.Proofs.Try.results28, ownW, boxW, renOp]); rfl) ?_; refine (embV [0, 1, 2, 3] ?_ ?_ ?_ ?_ ?_ ?_).s <;> simp [oneA, okO, lk, ren, renL, renNd, by_, hE, ownW, boxW, renOp] <;> (try (intro i hi; first | (rcases i with _ | _ | i; rfl; rfl; (exfalso; omega)) | (rcases i with _ | _ | _ | i; rfl; rfl; rfl; (exfalso; omega)) | (rcases i with _ | _ | _ | _ | i; rfl; rfl; rfl; rfl; (exfalso; omega)) | (rcases i with _ | _ | _ | _ | _ | i; rfl; rfl; rfl; rfl; rfl; (exfalso; omega)) | (rcases i with _ | _ | _ | _ | _ | _ | i; rfl; rfl; rfl; rfl; rfl; rfl; (exfalso; omega)))))
    rw [if_neg hl] at hR
    replace hl : p.leaf = false := by simpa using hl
    obtain ⟨ks, hks⟩ : ∃ ks, kidsOf ps i = ks := ⟨_, rfl⟩
    rw [hks] at hR
    have hpk : p.kids = castL ks := by
      rw [← hks, kidsOf, hpg, hl]
      simp only [Bool.false_eq_true, if_false, castL, List.map_map]
      refine (List.map_id _).symm.trans (List.map_congr_left fun x hx => ?_)
      obtain ⟨j, hj⟩ := List.mem_iff_getElem?.1 hx
      have := (hpo.kd j (List.getElem?_eq_some_iff.1 hj).1).1
      rw [List.getD_eq_getElem?_getD, hj] at this
      show x = ((x.toNat : Nat) : Int)
      have h0 : 0 ≤ x := this
      omega
    have hkl : ks.length = p.keys.length + 1 := by
      have := hpo.ki hl
      rw [hpk] at this; simpa [castL] using this
    have hkn : ∀ x ∈ ks, x < ps.length := fun x hx => by
      obtain ⟨j, hj⟩ := List.mem_iff_getElem?.1 hx
      have hj2 : p.kids[j]? = some (x : Int) := by rw [hpk, castL, List.getElem?_map, hj]; rfl
      have := (hpo.kd j (List.getElem?_eq_some_iff.1 hj2).1).2 hl
      rw [List.getD_eq_getElem?_getD, hj2] at this
      have h0 : (x : Int) < ps.length := this
      omega
    have hk4 := hpo.nk
    have hne0 := hpo.ne hl
    have hcl : p.kids.length = ks.length := by rw [hpk, castL, List.length_map]
    have har := addRow_len2 st.rows level i
    (repeat' (first | refine awp_seq ?_ | refine awp_block ?_ | refine awp_skip ?_ | refine awp_exit ?_ | ((first | refine rR (fun K kp hK hkp => ?_) | refine rX (id := 10) mixed [] 17 [0,1,2,3,4,5,6,7,8,9,10,11,12,13,14,15,16] (fun K kp hK hkp => ?_) | refine iG ?_ | refine iD ?_ | refine iX ?_); simp (implicitDefEqProofs := false) (maxSteps := 2000000) (disch := omega) only [go_sem, hl, boxW]; (repeat' (first | (refine hK _ ?_; clear hK hkp kp K) | (with_reducible refine And.intro ?_ ?_) | omega))) | ((first | refine aG (fun h => ?_) (fun h => ?_) | refine aD (fun h => ?_) (fun h => ?_) | refine aX (fun h => ?_) (fun h => ?_)) <;> simp only [h]) | refine awp_cond_t rfl ?_ | refine awp_cond_f rfl ?_ | ((refine awp_cond rfl (fun h => ?_) (fun h => ?_) <;> try simp only [ifs] at h) <;> (try (exfalso; omega))) | refine awp_ret ?_))
    refine awp_loop (fun d : Nat × Int × WS => ⟨[(102, .r (.int .i64 d.1)), (101, .r (.int .i64 p.kids.length)), (100, .ro true 1 (p.kids.map eI)), (14, .r (.int .i64 d.2.1)), (13, .p 4 0 0), (4, .r (.int .i64 level)), (3, .ro th 1 (high.map eByte)), (2, .ro tl 1 (low.map eByte)), (0, .p 0 0 0)], [(0, boxW ps root 3 d.2.2.rows), (1, .mp (castL d.2.2.met)), (3, .ul 50 1 (d.2.2.rows.map eRow) []), (4, .box 52 [.r (.bool p.leaf), .ro true 1 (p.keys.map eKy), .ro true 1 (p.kids.map eI), .ro true 1 (p.high.map eByte), .r (.int .i64 p.next)])], 5⟩)
      (fun d => d.1 ≤ ks.length ∧ WI ps.length d.2.2 ∧ level + 1 ≤ d.2.2.rows.length ∧ st.met.length + 1 ≤ d.2.2.met.length ∧ kidsF (walkF ps f) p low high (level + 1) d.1 d.2.1 d.2.2 (ks.drop d.1) = R) (fun d => ks.length - d.1) (0, -2, ⟨st.met ++ [i], addRow st.rows level i⟩) ?_ ?_ ?_
    · refine ⟨Nat.zero_le _, hwi, ?_, by simp, hR⟩
      show level + 1 ≤ (addRow st.rows level i).length
      rw [har]; split <;> omega
    · (refine emb [0, 1, 2, 3, 4] ?_ ?_ rfl ?_ ?_ ?_ ?_ <;> simp [okM, okO, lk, ren, renL, renNd, by_, hE, hl, boxW, renOp] <;> (try omega) <;> (try (intro i hi; first | (rcases i with _ | _ | i; rfl; rfl; (exfalso; omega)) | (rcases i with _ | _ | _ | i; rfl; rfl; rfl; (exfalso; omega)) | (rcases i with _ | _ | _ | _ | i; rfl; rfl; rfl; rfl; (exfalso; omega)) | (rcases i with _ | _ | _ | _ | _ | i; rfl; rfl; rfl; rfl; rfl; (exfalso; omega)) | (rcases i with _ | _ | _ | _ | _ | _ | i; rfl; rfl; rfl; rfl; rfl; rfl; (exfalso; omega)))))
    rintro ⟨k, deep, s⟩ ⟨hk, hws, hrs, hms, hRk⟩
    have hmls := hws.len
    have hrls := hws.rl
    by_cases hlt : k < ks.length
    · have zk : ((k : Int) < (p.kids.length : Int)) = True := eq_true (by rw [hcl]; omega)
      dsimp only at hk hws hrs hms hRk hmls hrls ⊢
      obtain ⟨kid, hkid⟩ : ∃ x, ks[k]? = some x := ⟨ks[k], by simp [hlt]⟩
      have hkd : p.kids[k]? = some (kid : Int) := by rw [hpk, castL, List.getElem?_map, hkid]; rfl
      have hkidn := hkn kid (List.mem_of_getElem? hkid)
      have hdrop : ks.drop k = kid :: ks.drop (k + 1) := by
        obtain ⟨h1, rfl⟩ := List.getElem?_eq_some_iff.1 hkid
        exact List.drop_eq_getElem_cons h1
      rw [hdrop, kidsF] at hRk
      have IH := walk_con E.G ps root hn hall hin f kid (level + 1) (loP p k low) (hiP p k high) (if k = 0 then tl else true) (if k < p.keys.length then true else th) s hkidn hws hrs (by omega)
      obtain ⟨hwi2, hwl2⟩ := walk_inv (n := ps.length) hin f kid (loP p k low) (hiP p k high) (level + 1) s hkidn hws hrs
      obtain ⟨X, hX⟩ : ∃ X, walkF ps f kid (loP p k low) (hiP p k high) (level + 1) s = X := ⟨_, rfl⟩
      rw [hX] at IH hRk hwi2 hwl2
      obtain ⟨lo, hlo⟩ : ∃ x, loP p k low = x := ⟨_, rfl⟩
      obtain ⟨hi2, hhi⟩ : ∃ x, hiP p k high = x := ⟨_, rfl⟩
      obtain ⟨fl, hfl2⟩ : ∃ x, (if k = 0 then tl else true) = x := ⟨_, rfl⟩
      obtain ⟨fh, hfh⟩ : ∃ x, (if k < p.keys.length then true else th) = x := ⟨_, rfl⟩
      rw [hlo, hhi, hfl2, hfh] at IH
      refine awp_seq ?_
      (refine rR (fun K kp hK hkp => ?_); simp (implicitDefEqProofs := false) (maxSteps := 2000000) (disch := omega) only [go_sem, zk]; (repeat' (first | (refine hK _ ?_; clear hK hkp kp K) | (with_reducible refine And.intro ?_ ?_) | omega)))
      refine awp_seq ?_
      refine awp_cond_t rfl ?_
      refine awp_skip ?_
      refine awp_seq ?_
      refine awp_block ?_
      refine awp_cut4 (fx := ⟨[(102, .r (.int .i64 k)), (101, .r (.int .i64 p.kids.length)), (100, .ro true 1 (p.kids.map eI)), (18, .ro fh 1 (hi2.map eByte)), (17, .ro fl 1 (lo.map eByte)), (16, .r (.int .i64 kid)), (14, .r (.int .i64 deep)), (13, .p 4 0 0), (4, .r (.int .i64 level)), (3, .ro th 1 (high.map eByte)), (2, .ro tl 1 (low.map eByte)), (0, .p 0 0 0)], [(0, boxW ps root 3 s.rows), (1, .mp (castL s.met)), (3, .ul 50 1 (s.rows.map eRow) []), (4, .box 52 [.r (.bool p.leaf), .ro true 1 (p.keys.map eKy), .ro true 1 (p.kids.map eI), .ro true 1 (p.high.map eByte), .r (.int .i64 p.next)])], 5⟩) ?_ fun K hcut => ?_
      rotate_left
      · cases k with
        | zero =>
          obtain ⟨y, hy⟩ : ∃ y, p.keys[0]? = some y := ⟨p.keys[0]'(by omega), by simp⟩
          have hyD : hi2 = y := by rw [← hhi, hiP, if_pos (by omega), List.getD_eq_getElem?_getD, hy]; rfl
          have e1 : lo = low := by rw [← hlo]; rfl
          have e2 : fl = tl := by rw [← hfl2]; rfl
          have e3 : fh = true := by rw [← hfh, if_pos (by omega)]
          subst hyD e1 e2 e3
          have hg : ((0 : Int) < (p.keys.length : Int)) = True := eq_true (by omega)
          have hg2 : ((0 : Int) < (p.kids.length : Int)) = True := eq_true (by omega)
          (repeat' (first | refine awp_seq ?_ | refine awp_block ?_ | refine awp_skip ?_ | refine awp_exit ?_ | ((first | refine rR (fun K kp hK hkp => ?_) | refine rX (id := 10) mixed [] 17 [0,1,2,3,4,5,6,7,8,9,10,11,12,13,14,15,16] (fun K kp hK hkp => ?_) | refine iG ?_ | refine iD ?_ | refine iX ?_); simp (implicitDefEqProofs := false) (maxSteps := 2000000) (disch := omega) only [go_sem, zk, hkd, hy, hg, hg2, eI, eKy, boxW]; (repeat' (first | (refine hK _ ?_; clear hK hkp kp K) | (with_reducible refine And.intro ?_ ?_) | omega))) | ((first | refine aG (fun h => ?_) (fun h => ?_) | refine aD (fun h => ?_) (fun h => ?_) | refine aX (fun h => ?_) (fun h => ?_)) <;> simp only [h]) | refine awp_cond_t rfl ?_ | refine awp_cond_f rfl ?_ | ((refine awp_cond rfl (fun h => ?_) (fun h => ?_) <;> try simp only [ifs] at h) <;> (try (exfalso; omega))) | refine awp_ret ?_))

          refine hcut _ ?_
          (refine emb [0, 1, 2, 3, 4] ?_ ?_ rfl ?_ ?_ ?_ ?_ <;> simp [okM, okO, lk, ren, renL, renNd, by_, hE, boxW, renOp] <;> (try omega) <;> (try (intro i hi; first | (rcases i with _ | _ | i; rfl; rfl; (exfalso; omega)) | (rcases i with _ | _ | _ | i; rfl; rfl; rfl; (exfalso; omega)) | (rcases i with _ | _ | _ | _ | i; rfl; rfl; rfl; rfl; (exfalso; omega)) | (rcases i with _ | _ | _ | _ | _ | i; rfl; rfl; rfl; rfl; rfl; (exfalso; omega)) | (rcases i with _ | _ | _ | _ | _ | _ | i; rfl; rfl; rfl; rfl; rfl; rfl; (exfalso; omega)))))
        | succ j =>
          obtain ⟨y, hy⟩ : ∃ y, p.keys[j]? = some y := ⟨p.keys[j]'(by omega), by simp⟩
          have hyD : lo = y := by rw [← hlo, loP, if_neg (by omega), List.getD_eq_getElem?_getD, Nat.add_sub_cancel, hy]; rfl
          have e2 : fl = true := by rw [← hfl2]; rfl
          subst hyD e2
          have hj1 : ((j + 1 : Nat) : Int) - 1 = (j : Int) := by omega
          by_cases hjl : j + 1 < p.keys.length
          · obtain ⟨z, hz⟩ : ∃ z, p.keys[j + 1]? = some z := ⟨p.keys[j + 1]'(by omega), by simp⟩
            have hzD : hi2 = z := by rw [← hhi, hiP, if_pos hjl, List.getD_eq_getElem?_getD, hz]; rfl
            have e3 : fh = true := by rw [← hfh, if_pos hjl]
            subst hzD e3
            have hg : (((j + 1 : Nat) : Int) < (p.keys.length : Int)) = True := eq_true (by omega)
            (repeat' (first | refine awp_seq ?_ | refine awp_block ?_ | refine awp_skip ?_ | refine awp_exit ?_ | ((first | refine rR (fun K kp hK hkp => ?_) | refine rX (id := 10) mixed [] 17 [0,1,2,3,4,5,6,7,8,9,10,11,12,13,14,15,16] (fun K kp hK hkp => ?_) | refine iG ?_ | refine iD ?_ | refine iX ?_); simp (implicitDefEqProofs := false) (maxSteps := 2000000) (disch := omega) only [go_sem, zk, hkd, hy, hz, hg, hj1, eI, eKy, boxW]; (repeat' (first | (refine hK _ ?_; clear hK hkp kp K) | (with_reducible refine And.intro ?_ ?_) | omega))) | ((first | refine aG (fun h => ?_) (fun h => ?_) | refine aD (fun h => ?_) (fun h => ?_) | refine aX (fun h => ?_) (fun h => ?_)) <;> simp only [h]) | refine awp_cond_t rfl ?_ | refine awp_cond_f rfl ?_ | ((refine awp_cond rfl (fun h => ?_) (fun h => ?_) <;> try simp only [ifs] at h) <;> (try (exfalso; omega))) | refine awp_ret ?_))
            refine hcut _ ?_
            (refine emb [0, 1, 2, 3, 4] ?_ ?_ rfl ?_ ?_ ?_ ?_ <;> simp [okM, okO, lk, ren, renL, renNd, by_, hE, boxW, renOp] <;> (try omega) <;> (try (intro i hi; first | (rcases i with _ | _ | i; rfl; rfl; (exfalso; omega)) | (rcases i with _ | _ | _ | i; rfl; rfl; rfl; (exfalso; omega)) | (rcases i with _ | _ | _ | _ | i; rfl; rfl; rfl; rfl; (exfalso; omega)) | (rcases i with _ | _ | _ | _ | _ | i; rfl; rfl; rfl; rfl; rfl; (exfalso; omega)) | (rcases i with _ | _ | _ | _ | _ | _ | i; rfl; rfl; rfl; rfl; rfl; rfl; (exfalso; omega)))))
          · have e3 : fh = th := by rw [← hfh, if_neg hjl]
            have e4 : hi2 = high := by rw [← hhi, hiP, if_neg hjl]
            subst e3 e4
            have hg : (((j + 1 : Nat) : Int) < (p.keys.length : Int)) = False := eq_false (by omega)
            (repeat' (first | refine awp_seq ?_ | refine awp_block ?_ | refine awp_skip ?_ | refine awp_exit ?_ | ((first | refine rR (fun K kp hK hkp => ?_) | refine rX (id := 10) mixed [] 17 [0,1,2,3,4,5,6,7,8,9,10,11,12,13,14,15,16] (fun K kp hK hkp => ?_) | refine iG ?_ | refine iD ?_ | refine iX ?_); simp (implicitDefEqProofs := false) (maxSteps := 2000000) (disch := omega) only [go_sem, zk, hkd, hy, hg, hj1, eI, eKy, boxW]; (repeat' (first | (refine hK _ ?_; clear hK hkp kp K) | (with_reducible refine And.intro ?_ ?_) | omega))) | ((first | refine aG (fun h => ?_) (fun h => ?_) | refine aD (fun h => ?_) (fun h => ?_) | refine aX (fun h => ?_) (fun h => ?_)) <;> simp only [h]) | refine awp_cond_t rfl ?_ | refine awp_cond_f rfl ?_ | ((refine awp_cond rfl (fun h => ?_) (fun h => ?_) <;> try simp only [ifs] at h) <;> (try (exfalso; omega))) | refine awp_ret ?_))
            refine hcut _ ?_
            (refine emb [0, 1, 2, 3, 4] ?_ ?_ rfl ?_ ?_ ?_ ?_ <;> simp [okM, okO, lk, ren, renL, renNd, by_, hE, boxW, renOp] <;> (try omega) <;> (try (intro i hi; first | (rcases i with _ | _ | i; rfl; rfl; (exfalso; omega)) | (rcases i with _ | _ | _ | i; rfl; rfl; rfl; (exfalso; omega)) | (rcases i with _ | _ | _ | _ | i; rfl; rfl; rfl; rfl; (exfalso; omega)) | (rcases i with _ | _ | _ | _ | _ | i; rfl; rfl; rfl; rfl; rfl; (exfalso; omega)) | (rcases i with _ | _ | _ | _ | _ | _ | i; rfl; rfl; rfl; rfl; rfl; rfl; (exfalso; omega)))))
      · (repeat' (first | refine awp_seq ?_ | refine awp_block ?_ | refine awp_skip ?_ | refine awp_exit ?_ | ((first | refine rR (fun K kp hK hkp => ?_) | refine rX (id := 10) mixed [] 17 [0,1,2,3,4,5,6,7,8,9,10,11,12,13,14,15,16] (fun K kp hK hkp => ?_) | refine iG ?_ | refine iD ?_ | refine iX ?_); simp (implicitDefEqProofs := false) (maxSteps := 2000000) (disch := omega) only [go_sem, boxW]; (repeat' (first | (refine hK _ ?_; clear hK hkp kp K) | (with_reducible refine And.intro ?_ ?_) | omega))) | ((first | refine aG (fun h => ?_) (fun h => ?_) | refine aD (fun h => ?_) (fun h => ?_) | refine aX (fun h => ?_) (fun h => ?_)) <;> simp only [h]) | refine awp_cond_t rfl ?_ | refine awp_cond_f rfl ?_ | ((refine awp_cond rfl (fun h => ?_) (fun h => ?_) <;> try simp only [ifs] at h) <;> (try (exfalso; omega))) | refine awp_ret ?_))
        (refine callR_own [0, 1, 3] (IH) ?_ ?_ ?_ ?_ ?_ ?_ ?_ ?_ rfl rfl ?_; (· simp [pasL, pas, idx, bor, borL, borC, lk, ownW, boxW, renOp, ptq, ptA_eRow]); (· simp [okO, lk, renNd, renL, ren, by_, ownW, boxW, renOp, ptq, ptA_eRow]); (· (intro i hi; simp only [List.length_cons, List.length_nil] at hi; repeat' (first | omega | exact ⟨_, rfl⟩ | (rcases i with _ | i)))); (· simp); (· simp); (· simp); (· simp [ownW, boxW, renOp, ptq, ptA_eRow]); (· simp [ownW, boxW, renOp, ptq, ptA_eRow]); simp only [mapO, fw, rmL, rm, List.map_cons, List.map_nil, List.foldl_cons, List.foldl_nil, List.getElem?_cons_zero, List.getElem?_cons_succ, List.getElem?_nil, List.length_cons, List.length_nil, Nat.zero_add, Nat.sub_self, Nat.add_zero, ↓reduceIte, Nat.reduceEqDiff, reduceCtorEq, Nat.reduceAdd, Nat.reduceSub, List.cons_append, List.nil_append, ren, renL, renNd, ownW, boxW, renOp, ptq, ptA_eRow]; simp (implicitDefEqProofs := false) (maxSteps := 2000000) (disch := omega) only [go_sem, ownW, boxW, renOp, ptq, ptA_eRow]; (repeat' (first | (refine hK _ ?_; clear hK hkp kp K) | (with_reducible refine And.intro ?_ ?_) | omega)))
        by_cases c1 : X.1 < 0
        · rw [if_pos (.inl c1)] at hRk
          subst hRk
          have g1 : (X.1 < 0) = True := eq_true c1
          (repeat' (first | refine awp_seq ?_ | refine awp_block ?_ | refine awp_skip ?_ | refine awp_exit ?_ | ((first | refine rR (fun K kp hK hkp => ?_) | refine rX (id := 10) mixed [] 17 [0,1,2,3,4,5,6,7,8,9,10,11,12,13,14,15,16] (fun K kp hK hkp => ?_) | refine iG ?_ | refine iD ?_ | refine iX ?_); simp (implicitDefEqProofs := false) (maxSteps := 2000000) (disch := omega) only [go_sem, g1, boxW]; (repeat' (first | (refine hK _ ?_; clear hK hkp kp K) | (with_reducible refine And.intro ?_ ?_) | omega))) | ((first | refine aG (fun h => ?_) (fun h => ?_) | refine aD (fun h => ?_) (fun h => ?_) | refine aX (fun h => ?_) (fun h => ?_)) <;> simp only [h]) | refine awp_cond_t rfl ?_ | refine awp_cond_f rfl ?_ | ((refine awp_cond rfl (fun h => ?_) (fun h => ?_) <;> try simp only [ifs] at h) <;> (try (exfalso; omega))) | refine awp_ret ?_))
          (refine retA_is (by (simp (implicitDefEqProofs := false) (maxSteps := 2000000) (disch := omega) only [go_sem, Go.Proofs.Try.results28, ownW, boxW, renOp]); rfl) ?_; refine (embV [0, 1, 2, 5] ?_ ?_ ?_ ?_ ?_ ?_).s <;> simp [oneA, okO, lk, ren, renL, renNd, by_, hE, ownW, boxW, renOp] <;> (try (intro i hi; first | (rcases i with _ | _ | i; rfl; rfl; (exfalso; omega)) | (rcases i with _ | _ | _ | i; rfl; rfl; rfl; (exfalso; omega)) | (rcases i with _ | _ | _ | _ | i; rfl; rfl; rfl; rfl; (exfalso; omega)) | (rcases i with _ | _ | _ | _ | _ | i; rfl; rfl; rfl; rfl; rfl; (exfalso; omega)) | (rcases i with _ | _ | _ | _ | _ | _ | i; rfl; rfl; rfl; rfl; rfl; rfl; (exfalso; omega)))))
        have g1 : (X.1 < 0) = False := eq_false c1
        by_cases c2 : deep = -2
        · rw [if_neg (by intro h; rcases h with h | ⟨h, _⟩; (· exact c1 h); (· exact h c2))] at hRk
          have g2 : (deep != -2) = false := by rw [c2]; rfl
          (repeat' (first | refine awp_seq ?_ | refine awp_block ?_ | refine awp_skip ?_ | refine awp_exit ?_ | ((first | refine rR (fun K kp hK hkp => ?_) | refine rX (id := 10) mixed [] 17 [0,1,2,3,4,5,6,7,8,9,10,11,12,13,14,15,16] (fun K kp hK hkp => ?_) | refine iG ?_ | refine iD ?_ | refine iX ?_); simp (implicitDefEqProofs := false) (maxSteps := 2000000) (disch := omega) only [go_sem, g1, g2, boxW]; (repeat' (first | (refine hK _ ?_; clear hK hkp kp K) | (with_reducible refine And.intro ?_ ?_) | omega))) | ((first | refine aG (fun h => ?_) (fun h => ?_) | refine aD (fun h => ?_) (fun h => ?_) | refine aX (fun h => ?_) (fun h => ?_)) <;> simp only [h]) | refine awp_cond_t rfl ?_ | refine awp_cond_f rfl ?_ | ((refine awp_cond rfl (fun h => ?_) (fun h => ?_) <;> try simp only [ifs] at h) <;> (try (exfalso; omega))) | refine awp_ret ?_))
          ((first | (refine nextB ((k + 1, X.1, X.2)) ?_ ?_ ?_) | (refine nextA ((k + 1, X.1, X.2)) ?_ ?_ ?_) | (refine nextE ((k + 1, X.1, X.2)) ?_ ?_ ?_)); rotate_left; (· (try dsimp only); (first | omega | (simp only [List.length_drop, List.length_cons, List.length_append]; omega) | (simp; done) | (simp; omega))); (· (refine emb [0, 1, 2, 5, 4] ?_ ?_ rfl ?_ ?_ ?_ ?_ <;> simp [okM, okO, lk, ren, renL, renNd, by_, hE, boxW, renOp] <;> (try omega) <;> (try (intro i hi; first | (rcases i with _ | _ | i; rfl; rfl; (exfalso; omega)) | (rcases i with _ | _ | _ | i; rfl; rfl; rfl; (exfalso; omega)) | (rcases i with _ | _ | _ | _ | i; rfl; rfl; rfl; rfl; (exfalso; omega)) | (rcases i with _ | _ | _ | _ | _ | i; rfl; rfl; rfl; rfl; rfl; (exfalso; omega)) | (rcases i with _ | _ | _ | _ | _ | _ | i; rfl; rfl; rfl; rfl; rfl; rfl; (exfalso; omega)))))))
          exact ⟨by omega, hwi2, Nat.le_trans hrs hwl2.r, Nat.le_trans hms hwl2.m, hRk⟩
        have g2 : (deep != -2) = true := by simpa using c2
        by_cases c3 : X.1 = deep
        · rw [if_neg (by intro h; rcases h with h | ⟨_, h⟩; (· exact c1 h); (· exact h c3))] at hRk
          have g3 : (X.1 != deep) = false := by rw [c3]; simp
          (repeat' (first | refine awp_seq ?_ | refine awp_block ?_ | refine awp_skip ?_ | refine awp_exit ?_ | ((first | refine rR (fun K kp hK hkp => ?_) | refine rX (id := 10) mixed [] 17 [0,1,2,3,4,5,6,7,8,9,10,11,12,13,14,15,16] (fun K kp hK hkp => ?_) | refine iG ?_ | refine iD ?_ | refine iX ?_); simp (implicitDefEqProofs := false) (maxSteps := 2000000) (disch := omega) only [go_sem, g1, g2, g3, boxW]; (repeat' (first | (refine hK _ ?_; clear hK hkp kp K) | (with_reducible refine And.intro ?_ ?_) | omega))) | ((first | refine aG (fun h => ?_) (fun h => ?_) | refine aD (fun h => ?_) (fun h => ?_) | refine aX (fun h => ?_) (fun h => ?_)) <;> simp only [h]) | refine awp_cond_t rfl ?_ | refine awp_cond_f rfl ?_ | ((refine awp_cond rfl (fun h => ?_) (fun h => ?_) <;> try simp only [ifs] at h) <;> (try (exfalso; omega))) | refine awp_ret ?_))
          ((first | (refine nextB ((k + 1, X.1, X.2)) ?_ ?_ ?_) | (refine nextA ((k + 1, X.1, X.2)) ?_ ?_ ?_) | (refine nextE ((k + 1, X.1, X.2)) ?_ ?_ ?_)); rotate_left; (· (try dsimp only); (first | omega | (simp only [List.length_drop, List.length_cons, List.length_append]; omega) | (simp; done) | (simp; omega))); (· (refine emb [0, 1, 2, 5, 4] ?_ ?_ rfl ?_ ?_ ?_ ?_ <;> simp [okM, okO, lk, ren, renL, renNd, by_, hE, boxW, renOp] <;> (try omega) <;> (try (intro i hi; first | (rcases i with _ | _ | i; rfl; rfl; (exfalso; omega)) | (rcases i with _ | _ | _ | i; rfl; rfl; rfl; (exfalso; omega)) | (rcases i with _ | _ | _ | _ | i; rfl; rfl; rfl; rfl; (exfalso; omega)) | (rcases i with _ | _ | _ | _ | _ | i; rfl; rfl; rfl; rfl; rfl; (exfalso; omega)) | (rcases i with _ | _ | _ | _ | _ | _ | i; rfl; rfl; rfl; rfl; rfl; rfl; (exfalso; omega)))))))
          exact ⟨by omega, hwi2, Nat.le_trans hrs hwl2.r, Nat.le_trans hms hwl2.m, hRk⟩
        · rw [if_pos (.inr ⟨c2, c3⟩)] at hRk
          subst hRk
          have g3 : (X.1 != deep) = true := by simpa using c3
          (repeat' (first | refine awp_seq ?_ | refine awp_block ?_ | refine awp_skip ?_ | refine awp_exit ?_ | ((first | refine rR (fun K kp hK hkp => ?_) | refine rX (id := 10) mixed [] 17 [0,1,2,3,4,5,6,7,8,9,10,11,12,13,14,15,16] (fun K kp hK hkp => ?_) | refine iG ?_ | refine iD ?_ | refine iX ?_); simp (implicitDefEqProofs := false) (maxSteps := 2000000) (disch := omega) only [go_sem, g1, g2, g3, boxW]; (repeat' (first | (refine hK _ ?_; clear hK hkp kp K) | (with_reducible refine And.intro ?_ ?_) | omega))) | ((first | refine aG (fun h => ?_) (fun h => ?_) | refine aD (fun h => ?_) (fun h => ?_) | refine aX (fun h => ?_) (fun h => ?_)) <;> simp only [h]) | refine awp_cond_t rfl ?_ | refine awp_cond_f rfl ?_ | ((refine awp_cond rfl (fun h => ?_) (fun h => ?_) <;> try simp only [ifs] at h) <;> (try (exfalso; omega))) | refine awp_ret ?_))
          (refine retA_is (by (simp (implicitDefEqProofs := false) (maxSteps := 2000000) (disch := omega) only [go_sem, Go.Proofs.Try.results28, ownW, boxW, renOp]); rfl) ?_; refine (embV [0, 1, 2, 5] ?_ ?_ ?_ ?_ ?_ ?_).s <;> simp [oneA, okO, lk, ren, renL, renNd, by_, hE, ownW, boxW, renOp] <;> (try (intro i hi; first | (rcases i with _ | _ | i; rfl; rfl; (exfalso; omega)) | (rcases i with _ | _ | _ | i; rfl; rfl; rfl; (exfalso; omega)) | (rcases i with _ | _ | _ | _ | i; rfl; rfl; rfl; rfl; (exfalso; omega)) | (rcases i with _ | _ | _ | _ | _ | i; rfl; rfl; rfl; rfl; rfl; (exfalso; omega)) | (rcases i with _ | _ | _ | _ | _ | _ | i; rfl; rfl; rfl; rfl; rfl; rfl; (exfalso; omega)))))
    · obtain rfl : k = ks.length := by simp only at hk; omega
      rw [List.drop_length, kidsF] at hRk
      subst hRk
      (repeat' (first | refine awp_seq ?_ | refine awp_block ?_ | refine awp_skip ?_ | refine awp_exit ?_ | ((first | refine rR (fun K kp hK hkp => ?_) | refine rX (id := 10) mixed [] 17 [0,1,2,3,4,5,6,7,8,9,10,11,12,13,14,15,16] (fun K kp hK hkp => ?_) | refine iG ?_ | refine iD ?_ | refine iX ?_); simp (implicitDefEqProofs := false) (maxSteps := 2000000) (disch := omega) only [go_sem, hcl, boxW]; (repeat' (first | (refine hK _ ?_; clear hK hkp kp K) | (with_reducible refine And.intro ?_ ?_) | omega))) | ((first | refine aG (fun h => ?_) (fun h => ?_) | refine aD (fun h => ?_) (fun h => ?_) | refine aX (fun h => ?_) (fun h => ?_)) <;> simp only [h]) | refine awp_cond_t rfl ?_ | refine awp_cond_f rfl ?_ | ((refine awp_cond rfl (fun h => ?_) (fun h => ?_) <;> try simp only [ifs] at h) <;> (try (exfalso; omega))) | refine awp_ret ?_))
      (refine retA_is (by (simp (implicitDefEqProofs := false) (maxSteps := 2000000) (disch := omega) only [go_sem, Go.Proofs.Try.results28, ownW, boxW, renOp]); rfl) ?_; refine (embV [0, 1, 2, 3] ?_ ?_ ?_ ?_ ?_ ?_).s <;> simp [oneA, okO, lk, ren, renL, renNd, by_, hE, ownW, boxW, renOp] <;> (try (intro i hi; first | (rcases i with _ | _ | i; rfl; rfl; (exfalso; omega)) | (rcases i with _ | _ | _ | i; rfl; rfl; rfl; (exfalso; omega)) | (rcases i with _ | _ | _ | _ | i; rfl; rfl; rfl; rfl; (exfalso; omega)) | (rcases i with _ | _ | _ | _ | _ | i; rfl; rfl; rfl; rfl; rfl; (exfalso; omega)) | (rcases i with _ | _ | _ | _ | _ | _ | i; rfl; rfl; rfl; rfl; rfl; rfl; (exfalso; omega)))))
end Go.AM
