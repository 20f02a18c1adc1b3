/- Texts of the law LockVictims, part 4: lemmas; what is proved stands in the last text. -/
import Derived.Test.YteebiklebedneaaDoorZz3
import Derived.Test.YteebiklebedneaaDoorProg
import Derived.Test.YteebiklebedneaaDoorZz1
import Derived.Below
import Derived.OpenShut
import Derived.WalkKit
import Derived.ProofKit
import Derived.ChangeOld
import Derived.Deep.Strs
import Derived.Sort.Grow
import Derived.Sort.Row
import Derived.Shelf.Sort.Plain
import Derived.Shelf.Slices.CompactI
import Derived.Shelf.Slices.In.SortNone
import Derived.Ground.Names2Prog
import Derived.Lib.SlicesCompact
set_option linter.unusedSimpArgs false
set_option linter.unusedVariables false
/- The abstract machine, 23: regions that draw their order, where what allocates is not ordered: whatever order. -/
namespace Go.AM
open Go
section
variable {P : Program} {E : Env} {N : Nat}
/-- What a plan that is right gives. -/
structure OkU (ops : Array Oper) (n : Nat) (pl : List PU) (tot : Nat) (dss : List Nat) (zs : List Nat) : Prop where
  len : pl.length = n
  le : n ≤ ops.size
  head : ∀ s, HeadInv .any ops n s → ∀ i, i < n → i ∉ zs → s.getD i true = false → ∀ j ∈ Region.ready .any ops s, j < n
  strag : ∀ z ∈ zs, z < n ∧ ∃ o, ops[z]? = some o ∧ isExt o.op = true ∧ o.guard = none ∧ ∀ (j : Nat) oj, ops[j]? = some oj → j ≠ z → (∀ p, pl[z]? = some p → j ∉ p.anc) → (∀ e ∈ oj.after, Region.binds .any e = true → e.on ≠ z) → o.apart ops oj = true
  sel : zs ≠ [] → ∀ (j : Nat) (o : Oper) cs b, ops[j]? = some o → o.op ≠ .select cs b
  dst : ∀ (i : Nat) o p, i < n → ops[i]? = some o → pl[i]? = some p → ∃ d, o.dst = some d ∧ dss.contains d = true
  back : ∀ (i : Nat) o, i < n → ops[i]? = some o → ∀ e ∈ o.after, Region.binds .any e = true → e.on < i
  anc : ∀ (i : Nat) o p, i < n → ops[i]? = some o → pl[i]? = some p → ∀ a ∈ p.anc, ∃ e ∈ o.after, Region.binds .any e = true ∧ (e.on = a ∨ ∃ q, pl[e.on]? = some q ∧ a ∈ q.anc)
  tot : ∀ (i : Nat) p, i < n → pl[i]? = some p → p.r + p.k ≤ tot
  pair : ∀ (i h : Nat) o p oh q, i < n → h < n → h ≠ i → ops[i]? = some o → pl[i]? = some p → ops[h]? = some oh → pl[h]? = some q → oh.dst ≠ o.dst ∧ (q.k = 0 ∨ h ∈ p.anc ∨ (q.r, q.k) ∈ p.chk) ∧ (p.r + p.k ≤ q.r ∨ q.r + q.k ≤ p.r)
  seq : Region.seqB .any ops (ops.size - n) n ((List.range ops.size).map fun i => decide (i < n)).toArray = true
theorem tail_waitsZ {ops : Array Oper} {n : Nat} {zs : List Nat} {listed : Array Bool} (hs : sinkZ ops n zs = true) (hc : Region.chainB .any ops n = true) (hn : n < ops.size) (inv : HeadInv .any ops n listed) :
    ∀ (d i : Nat), n - i = d → i < n → i ∉ zs → listed.getD i true = false → ∀ t, n ≤ t → t ∉ Region.ready .any ops listed := by
  intro d
  induction d using Nat.strongRecOn with
  | _ d ih =>
    intro i hd hi hiz hun t ht hr
    obtain ⟨_, ot, hot, hall⟩ := mem_ready.1 hr
    have htlt : t < ops.size := (Array.getElem?_eq_some_iff.1 hot).1
    by_cases htn : t = n
    · subst htn
      have h1 := List.all_eq_true.1 hs i (List.mem_range.2 hi)
      rcases Bool.or_eq_true _ _ ▸ h1 with h1 | h1
      · exact hiz (by simpa using h1)
      obtain ⟨j, hj, hj2⟩ := List.any_eq_true.1 h1
      simp only [Bool.and_eq_true, decide_eq_true_eq, Bool.not_eq_true'] at hj2
      obtain ⟨oj, hoj, e, he, hb, hon⟩ := Region.waitsFor_spec hj2.2
      have hjle : j ≤ t := by have := List.mem_range.1 hj; omega
      have hjz : j ∉ zs := by have := hj2.1.2; simpa using this
      by_cases hjt : j = t
      · subst hjt
        have : oj = ot := Option.some.inj (hoj.symm.trans hot)
        subst this
        have h2 := hall e he hb
        rw [hon, getD_both hun] at h2
        cases h2
      · cases hl : listed.getD j false with
        | true =>
          have h2 := inv.closed j oj hoj hl e he hb
          rw [hon, getD_both hun] at h2
          cases h2
        | false =>
          have hjs : j < listed.size := by rw [inv.size]; omega
          exact ih (t - j) (by omega) j rfl (by omega) hjz (getD_in hjs hl) t (Nat.le_refl _) hr
    · have h1 := List.all_eq_true.1 hc t (List.mem_range.2 htlt)
      simp only [Bool.or_eq_true, decide_eq_true_eq] at h1
      rcases h1 with h1 | h1
      · omega
      · obtain ⟨o', ho', e, he, hb, hon⟩ := Region.waitsFor_spec h1
        have : o' = ot := Option.some.inj (ho'.symm.trans hot)
        subst this
        have h2 := hall e he hb
        rw [hon, getD_both (inv.tail (t - 1) (by omega) (by omega))] at h2
        cases h2
/-- What yields whatever the world may be taken first. -/
theorem wpAny_first {P : Program} {ops : Array Oper} {Q : Exit → Act → World → Prop} {i : Nat} {oi : Oper} {v : Value} (hi : ops[i]? = some oi) (hsel : ∀ (j : Nat) (o : Oper) cs b, ops[j]? = some o → o.op ≠ .select cs b) (hQ : ∀ c a w, Q (.panic c) (a.put oi.dst v) w → Q (.panic c) a w) : ∀ (f : Nat) (s : Array Bool) (a : Act) (w : World), (∀ (j : Nat) oj, ops[j]? = some oj → j ≠ i → s.getD j true = false → (∀ e ∈ oj.after, Region.binds .any e = true → e.on ≠ i) → oi.apart ops oj = true) →
      i ∈ Region.ready .any ops s → YieldsIf P ops (fun _ => True) oi v a → wpAny P .any ops Q f (s.setIfInBounds i true) (a.put oi.dst v) w → wpAny P .any ops Q (f + 1) s a w := by
  intro f
  induction f with
  | zero =>
    intro s a w hfree hr hy H
    refine ⟨fun h => (by rw [h] at hr; cases hr), fun j hj => ?_⟩
    by_cases hji : j = i
    · subst hji; exact hy.wpOp hi trivial H
    · have := ready_mono hj hji
      rw [H.1] at this; cases this
  | succ f ih =>
    intro s a w hfree hr hy H
    refine ⟨fun h => (by rw [h] at hr; cases hr), fun j hj => ?_⟩
    by_cases hji : j = i
    · subst hji; exact hy.wpOp hi trivial H
    · have h1 := H.2 j (ready_mono hj hji)
      obtain ⟨hjun, oj, hoj, hall⟩ := mem_ready.1 hj
      have hiun := (mem_ready.1 hr).1
      have hnot : ∀ e ∈ oj.after, Region.binds .any e = true → e.on ≠ i := fun e he hb heq => by
        have h2 := hall e he hb
        rw [heq, getD_both hiun] at h2
        cases h2
      have h2 := wpOp_putIf hoj (hfree j oj hoj hji hjun hnot) (fun cs b => hsel i oi cs b hi) (fun cs b => hsel j oj cs b hoj) hQ hy h1
      refine wpOp_mono (fun a' w' h3 => ih _ a' w' (fun k ok hk hki hun hno => hfree k ok hk hki (by
        by_cases hjk : j = k
        · subst hjk; exact hjun
        · rwa [getD_set_ne true hjk] at hun) hno) (ready_mono hr (Ne.symm hji)) h3.1 ?_) h2
      rw [Array.setIfInBounds_comm _ _ hji]
      exact h3.2
theorem extract_yields {P : Program} {ops : Array Oper} {o : Oper} (ho : isExt o.op = true) (hg : o.guard = none) {a : Act} {w : World} {K : Act → World → Prop} (h : o.wp P a w K (fun _ _ _ => False)) : ∃ u, YieldsIf P ops (fun _ => True) o u a ∧ K (a.put o.dst u) w := by
  obtain ⟨d, op, ty, pos, aft, gd⟩ := o
  simp only at ho hg
  cases op with
  | extract t i =>
    unfold Oper.wp at h
    simp only [execOp] at h
    generalize hv : a.eval t = tv at h
    have key : (∃ u, ∀ w', (Instr.extract tv i).run P w' = .ok u w') ∨ (∃ e, ∀ w', (Instr.extract tv i).run P w' = .halt e w' ∧ ∀ x, e ≠ .panic x) := by
      unfold Instr.extract
      split
      · split
        · rename_i u _; exact .inl ⟨u, fun w' => rfl⟩
        · exact .inr ⟨_, fun w' => ⟨rfl, fun x hx => by cases hx⟩⟩
      · exact .inr ⟨_, fun w' => ⟨rfl, fun x hx => by cases hx⟩⟩
    rcases key with ⟨u, hu⟩ | ⟨e, he⟩
    · refine ⟨u, .inl ⟨by simp [Region.wanted, hg], fun w' _ => ?_⟩, ?_⟩
      · simp only [execOp, hv, Sem.run_bind, hu, Result.andThen_ok]; rfl
      · simp only [Sem.run_bind, hu, Result.andThen_ok] at h; exact h
    · exfalso
      simp only [Sem.run_bind, (he w).1] at h
      have h' : Oper.upon P ⟨d, .extract t i, ty, pos, aft, gd⟩ a K (fun _ _ _ => False) (.halt e w) := h
      cases e with
      | panic x => exact h'
      | _ => exact h'
  | _ => cases ho
theorem okU_spec {ops : Array Oper} {n : Nat} {pl : List PU} {tot : Nat} {dss zs : List Nat} (h : okU ops n pl tot dss zs = true) : OkU ops n pl tot dss zs := by
  simp only [okU, Bool.and_eq_true, decide_eq_true_eq] at h
  obtain ⟨⟨⟨⟨h1, h2⟩, hz⟩, h3⟩, h4⟩ := h
  have hle : n ≤ ops.size := by
    rcases Bool.or_eq_true _ _ ▸ h2 with h2 | h2
    · exact Nat.le_of_eq (of_decide_eq_true h2)
    · simp only [Bool.and_eq_true, decide_eq_true_eq] at h2; exact Nat.le_of_lt h2.2
  have key : ∀ (i : Nat) o p, i < n → ops[i]? = some o → pl[i]? = some p → _ := fun i o p hi ho hp => (by
    have := List.all_eq_true.1 h3 i (by simpa using hi)
    rw [ho, hp] at this
    exact this)
  refine ⟨h1, hle, ?_, ?_, ?_, fun i o p hi ho hp => ?_, fun i o hi ho e he hb => ?_, fun i o p hi ho hp a ha => ?_, fun i p hi hp => ?_, fun i h o p oh q hi hh hne ho hp hoh hq => ?_, h4⟩
  · intro s inv i hi hiz hs j hj
    rcases Bool.or_eq_true _ _ ▸ h2 with b2 | b2
    · have := of_decide_eq_true b2
      obtain ⟨_, oj, hoj, _⟩ := mem_ready.1 hj
      rw [this]; exact (Array.getElem?_eq_some_iff.1 hoj).1
    · simp only [Bool.and_eq_true, decide_eq_true_eq] at b2
      by_cases h : j < n
      · exact h
      · exact absurd hj (tail_waitsZ b2.1.1 b2.1.2 b2.2 inv _ i rfl hi hiz hs j (by omega))
  · intro z hzm
    rcases Bool.or_eq_true _ _ ▸ hz with h0 | h0
    · have : zs = [] := by simpa using h0
      rw [this] at hzm; cases hzm
    · simp only [Bool.and_eq_true] at h0
      have h5 := List.all_eq_true.1 h0.1 z hzm
      simp only [Bool.and_eq_true, decide_eq_true_eq] at h5
      obtain ⟨h6, h7⟩ := h5
      refine ⟨h6, ?_⟩
      split at h7
      · rename_i oz hoz
        simp only [Bool.and_eq_true] at h7
        obtain ⟨⟨h8, h9⟩, h10⟩ := h7
        refine ⟨oz, hoz, h8, by simpa using h9, fun j oj hj hne hna hno => ?_⟩
        have h11 := List.all_eq_true.1 h10 j (by have := (Array.getElem?_eq_some_iff.1 hj).1; simpa using this)
        rw [hj] at h11
        simp only [Bool.or_eq_true, beq_iff_eq] at h11
        rcases h11 with (h11 | h11) | h11 | h11
        · exact (hne h11).elim
        · split at h11
          · rename_i p hp; exact (hna p hp (by simpa using h11)).elim
          · cases h11
        · obtain ⟨e, he, h12⟩ := List.any_eq_true.1 h11
          simp only [Bool.and_eq_true, beq_iff_eq] at h12
          exact (hno e (by simpa using he) h12.1 h12.2).elim
        · exact h11
      · cases h7
  · intro hne j o cs b hj hsel
    rcases Bool.or_eq_true _ _ ▸ hz with h0 | h0
    · exact hne (by simpa using h0)
    · simp only [Bool.and_eq_true] at h0
      have := List.all_eq_true.1 h0.2 o (by have := Array.mem_of_getElem? hj; simpa using this)
      rw [hsel] at this; cases this
  · have := key i o p hi ho hp
    simp only [Bool.and_eq_true] at this
    obtain ⟨⟨⟨⟨g1, _⟩, _⟩, _⟩, _⟩ := this
    split at g1
    · rename_i d hd; exact ⟨d, hd, g1⟩
    · cases g1
  · obtain ⟨p, hp⟩ : ∃ p, pl[i]? = some p := ⟨pl[i]'(by omega), by simp⟩
    have := key i o p hi ho hp
    simp only [Bool.and_eq_true] at this
    obtain ⟨⟨⟨⟨_, g2⟩, _⟩, _⟩, _⟩ := this
    have := List.all_eq_true.1 g2 e (by simpa using he)
    simpa [hb] using this
  · have := key i o p hi ho hp
    simp only [Bool.and_eq_true] at this
    obtain ⟨⟨⟨⟨_, _⟩, g3⟩, _⟩, _⟩ := this
    obtain ⟨e, he, h5⟩ := List.any_eq_true.1 (List.all_eq_true.1 g3 a ha)
    simp only [Bool.and_eq_true, Bool.or_eq_true, beq_iff_eq] at h5
    refine ⟨e, by simpa using he, h5.1, h5.2.imp id fun h6 => ?_⟩
    split at h6
    · rename_i q hq; exact ⟨q, hq, by simpa using h6⟩
    · cases h6
  · obtain ⟨o, ho⟩ : ∃ o, ops[i]? = some o := ⟨ops[i]'(by omega), by simp⟩
    have := key i o p hi ho hp
    simp only [Bool.and_eq_true, decide_eq_true_eq] at this
    exact this.1.2
  · have := key i o p hi ho hp
    simp only [Bool.and_eq_true, decide_eq_true_eq] at this
    have := List.all_eq_true.1 this.2 h (by simpa using hh)
    rw [hoh, hq] at this
    simp only [Bool.or_eq_true, Bool.and_eq_true, beq_iff_eq, decide_eq_true_eq, Bool.not_eq_true', beq_eq_false_iff_ne, ne_eq] at this
    obtain ⟨⟨g1, g2⟩, g3⟩ := this.resolve_left hne
    refine ⟨g1, ?_, g3⟩
    rcases g2 with (g2 | g2) | g2
    · exact .inl g2
    · exact .inr (.inl (by simpa using g2))
    · exact .inr (.inr (by simpa using g2))
theorem lk_mapO_get {φ : Nat → Nat} : ∀ {o : List (Nat × Nd)} {i : Nat} {x : Nd}, (∀ p ∈ o, φ p.1 = φ i → p.1 = i) → lk o i = some x → lk (mapO φ o) (φ i) = some (renNd φ x)
  | [], i, x, _, h => by simp [lk] at h
  | (j, y) :: r, i, x, hi, h => by
    simp only [lk] at h
    simp only [mapO, List.map_cons, lk]
    split at h
    · rename_i e; subst e; cases h; rw [if_pos rfl]
    · rename_i e
      rw [if_neg (fun e2 => e (hi (j, y) (by simp) e2))]
      exact lk_mapO_get (fun p hp => hi p (by simp [hp])) h
theorem mapO_none {φ : Nat → Nat} {o : List (Nat × Nd)} {i : Nat} (h : ∀ p ∈ o, φ p.1 ≠ i) : lk (mapO φ o) i = none := by
  induction o with
  | nil => rfl
  | cons p r ih =>
    obtain ⟨j, y⟩ := p
    simp only [mapO, List.map_cons, lk]
    rw [if_neg (h (j, y) (by simp))]
    exact ih (fun p hp => h p (by simp [hp]))
theorem anyU {ops : Array Oper} {n : Nat} {pl : List PU} {tot : Nat} {dss zs : List Nat} {L : List En} {bs : AS} {n0 : Nat} {Q : Exit → Act → World → Prop} {g : Nat} (ok : OkU ops n pl tot dss zs) (hQ : ∀ c a d v w, Q (.panic c) (a.put d v) w → Q (.panic c) a w) (hL : L.length = n) (hM : bs.n = n0 + tot) (hbig : bs.n + tot ≤ 1000000000) (hE : E.th0.length ≤ n0)
    (hprop : ∀ j, j < n → ∃ o p e, ops[j]? = some o ∧ pl[j]? = some p ∧ L[j]? = some e ∧ PropE P E N bs n0 L j o p e)
    (hbm : ∀ i x, lk bs.m i = some x → dss.contains i = false ∧ ∀ f : Nat → Nat, (∀ i, i < n0 → f i = i) → ren f x = x) (hbo : ∀ i nd, lk bs.o i = some nd → i < n0 ∧ ∀ f : Nat → Nat, (∀ i, i < n0 → f i = i) → renNd f nd = nd)
    (hend : ∀ lD th z a w, (∀ e ∈ lD, L[e.i]? = some e) → (∀ e ∈ L, e ∈ lD) → Sim E N (stE bs lD) th z a w → wpAny P .any ops Q g ((List.range ops.size).map fun i => decide (i < n)).toArray a w) :
    ∀ (f : Nat) (lD : List En) (s : Array Bool) (th : List NLoc) (z : Zone) (a : Act) (w : World), HeadInv .any ops n s → f + lD.length = n → (∀ e ∈ lD, e.i < n ∧ L[e.i]? = some e) → (lD.map (·.i)).Nodup → (∀ i, i < n → (s.getD i false = true ↔ ∃ e ∈ lD, e.i = i)) →
      (∀ e ∈ lD, ∀ p, pl[e.i]? = some p → ∀ x ∈ p.anc, ∃ e' ∈ lD, e'.i = x) → Sim E N (stE bs lD) th z a w → wpAny P .any ops Q (f + g) s a w := by
  have same : ∀ {a b : En}, L[a.i]? = some a → L[b.i]? = some b → a.i = b.i → a = b := fun {a b} h1 h2 h => by rw [h] at h1; exact Option.some.inj (h1.symm.trans h2)
  have range : (List.range n).Nodup := List.nodup_range
  intro f
  induction f with
  | zero =>
    intro lD s th z a w inv hlen hmem hnd hs hanc hsim
    have hall : ∀ i, i < n → ∃ e ∈ lD, e.i = i := by
      intro i hi
      apply Classical.byContradiction
      intro hno
      have h1 : (i :: lD.map (·.i)).Nodup := List.nodup_cons.2 ⟨fun h => by
        obtain ⟨e, he, rfl⟩ := List.mem_map.1 h
        exact hno ⟨e, he, rfl⟩, hnd⟩
      have := nodup_sub_len (l' := List.range n) h1 (fun x hx => by
        rcases List.mem_cons.1 hx with rfl | hx
        · simpa using hi
        · obtain ⟨e, he, rfl⟩ := List.mem_map.1 hx
          simpa using (hmem e he).1)
      simp at this; omega
    have hsF : s = ((List.range ops.size).map fun i => decide (i < n)).toArray := by
      apply Array.ext
      · simp [inv.size]
      · intro i h1 h2
        simp only [List.getElem_toArray, List.getElem_map, List.getElem_range]
        by_cases hi : i < n
        · have := (hs i hi).2 (hall i hi)
          simp [h1] at this
          simp [this, hi]
        · have := inv.tail i (by omega) (by rw [← inv.size]; exact h1)
          simp [h1] at this
          simp [this, hi]
    rw [Nat.zero_add, hsF]
    refine hend lD th z a w (fun e he => (hmem e he).2) (fun e he => ?_) hsim
    obtain ⟨i, hi, rfl⟩ := List.mem_iff_getElem.1 he
    rw [hL] at hi
    obtain ⟨e', he', h2⟩ := hall i hi
    obtain ⟨o, p, e, _, _, q3, q4⟩ := hprop i hi
    have h3 := (hmem e' he').2
    rw [h2] at h3
    have : L[i]'(by omega) = e' := by
      have := List.getElem?_eq_some_iff.1 h3
      exact this.2
    rw [this]; exact he'
  | succ f ih =>
    intro lD s th z a w inv hlen hmem hnd hs hanc hsim
    have hund : ∀ i, i < n → (¬ ∃ e ∈ lD, e.i = i) → s.getD i true = false := by
      intro i hi hno
      refine getD_in (by rw [inv.size]; have := ok.le; omega) ?_
      cases hv : s.getD i false with
      | false => rfl
      | true => exact (hno ((hs i hi).1 hv)).elim
    have hready : Region.ready .any ops s ≠ [] := by
      have hex : ∃ i, i < n ∧ ¬ ∃ e ∈ lD, e.i = i := by
        apply Classical.byContradiction
        intro hno
        have := nodup_sub_len (l' := lD.map (·.i)) range (fun i hi => by
          have hi : i < n := by simpa using hi
          have : ∃ e ∈ lD, e.i = i := Classical.byContradiction fun h => hno ⟨i, hi, h⟩
          obtain ⟨e, he, rfl⟩ := this
          exact List.mem_map_of_mem he)
        simp at this; omega
      obtain ⟨i0, hi0⟩ := hex
      obtain ⟨i, ⟨hi, hno⟩, hmin⟩ := exists_min (fun i => i < n ∧ ¬ ∃ e ∈ lD, e.i = i) i0 hi0
      obtain ⟨o, p, e, q1, q2, q3, q4⟩ := hprop i hi
      have : i ∈ Region.ready .any ops s := mem_ready.2 ⟨hund i hi hno, o, q1, fun e he hb => by
        have hlt := ok.back i o hi q1 e he hb
        refine (hs e.on (by omega)).2 (Classical.byContradiction fun h => ?_)
        have := hmin e.on ⟨by omega, h⟩
        omega⟩
      intro h; rw [h] at this; cases this
    rw [show f + 1 + g = (f + g) + 1 by omega]
    have body : ∀ (Q2 : Exit → Act → World → Prop) (i : Nat), i ∈ Region.ready .any ops s → i < n → ∃ o', ops[i]? = some o' ∧ o'.guard = none ∧ o'.wp P a w (fun a' w' => wpAny P .any ops Q (f + g) (s.setIfInBounds i true) a' w') Q2 := by
      intro Q2 i hir hi
      have hun := (mem_ready.1 hir).1
      obtain ⟨_, o', ho', hdeps⟩ := mem_ready.1 hir
      obtain ⟨o, p, e, q1, q2, q3, ⟨ei, eg, ed, ⟨vM, oM, hfr, hk0, hk1⟩, efix, ekeys⟩⟩ := hprop i hi
      obtain rfl : o' = o := Option.some.inj (ho'.symm.trans q1)
      have hnot : ¬ ∃ e ∈ lD, e.i = i := fun h => by
        have := (hs i hi).2 h
        rw [getD_both hun] at this; cases this
      have hancD : ∀ x ∈ p.anc, ∃ e' ∈ lD, e'.i = x := by
        intro x hx
        obtain ⟨ed', he', hb, h6⟩ := ok.anc i o' p hi q1 q2 x hx
        have hdone := hdeps ed' he' hb
        have hlt := ok.back i o' hi q1 ed' he' hb
        obtain ⟨e1, h7, h8⟩ := (hs ed'.on (by omega)).1 hdone
        rcases h6 with rfl | ⟨q, hq, hxq⟩
        · exact ⟨e1, h7, h8⟩
        · exact hanc e1 h7 q (by rw [h8]; exact hq) x hxq
      have epair : ∀ e1 ∈ lD, ∃ o1 p1, ops[e1.i]? = some o1 ∧ pl[e1.i]? = some p1 ∧ PropE P E N bs n0 L e1.i o1 p1 e1 ∧ e1.i ≠ i := by
        intro e1 he1
        obtain ⟨h1, h2⟩ := hmem e1 he1
        obtain ⟨o1, p1, e1', r1, r2, r3, r4⟩ := hprop e1.i h1
        rw [h2] at r3; cases r3
        exact ⟨o1, p1, r1, r2, r4, fun h => hnot ⟨e1, he1, h⟩⟩
      have hdist : ∀ a ∈ lD, ∀ b ∈ lD, a.d = b.d → a = b := by
        intro a ha b hb hab
        obtain ⟨o1, p1, r1, r2, r3, _⟩ := epair a ha
        obtain ⟨o2, p2, t1, t2, t3, _⟩ := epair b hb
        by_cases hne : b.i = a.i
        · exact same (hmem a ha).2 (hmem b hb).2 hne.symm
        · have := (ok.pair a.i b.i o1 p1 o2 p2 (hmem a ha).1 (hmem b hb).1 hne r1 r2 t1 t2).1
          rw [t3.d, r3.d, hab] at this; exact (this rfl).elim
      have hle : (stE bs (fltE p.anc (L.take i).reverse)).le (stE bs lD) := by
        have hin : ∀ e1 ∈ fltE p.anc (L.take i).reverse, e1 ∈ lD := by
          intro e1 he1
          obtain ⟨h1, h2⟩ := fltE_mem.1 he1
          obtain ⟨e2, h3, h4⟩ := hancD e1.i (by simpa using h2)
          obtain ⟨k, hk, hk2⟩ := List.mem_iff_getElem.1 (List.mem_of_mem_take (List.mem_reverse.1 h1))
          have hkn : k < n := by omega
          obtain ⟨_, _, e3, _, _, u3, u4⟩ := hprop k hkn
          have : e3 = e1 := by
            have := List.getElem?_eq_some_iff.1 u3
            exact this.2.symm.trans hk2
          subst this
          have hl : L[e3.i]? = some e3 := by rw [u4.i]; exact u3
          rw [same hl (hmem e2 h3).2 h4.symm]; exact h3
        have hbase : ∀ e1 ∈ lD, dss.contains e1.d = true := by
          intro e1 he1
          obtain ⟨o1, p1, r1, r2, r3, _⟩ := epair e1 he1
          obtain ⟨d, h1, h2⟩ := ok.dst e1.i o1 p1 (hmem e1 he1).1 r1 r2
          rw [r3.d] at h1; cases h1; exact h2
        refine ⟨fun j x hj => ?_, fun j x hj => ?_⟩
        · rcases lk_finM hj with ⟨e1, h1, rfl, rfl⟩ | ⟨_, h2⟩
          · exact finM_get (hin e1 h1) hdist
          · show lk (finM lD bs.m) j = some x
            rw [finM_none (fun e1 he1 h => by have := hbase e1 he1; rw [h, (hbm j x h2).1] at this; cases this)]; exact h2
        · refine finO_get (fun e1 he1 y hy => ?_) ?_
          · obtain ⟨o1, p1, r1, r2, r3, _⟩ := epair e1 he1
            have hk1 := r3.keys _ (lk_mem hy)
            rcases lk_finO hj with ⟨e2, h1, h2⟩ | h2
            · obtain ⟨o2, p2, t1, t2, t3, _⟩ := epair e2 (hin e2 h1)
              have hk2 := t3.keys _ (lk_mem h2)
              by_cases hne : e2.i = e1.i
              · rw [same (hmem e2 (hin e2 h1)).2 (hmem e1 he1).2 hne, hy] at h2; exact Option.some.inj h2
              · have := (ok.pair e1.i e2.i o1 p1 o2 p2 (hmem e1 he1).1 (hmem e2 (hin e2 h1)).1 hne r1 r2 t1 t2).2.2
                simp only at hk1 hk2; omega
            · have := (hbo j x h2).1
              simp only at hk1; omega
          · rcases lk_finO hj with ⟨e2, h1, h2⟩ | h2
            · exact .inl ⟨e2, hin e2 h1, h2⟩
            · exact .inr h2
      have hptot := ok.tot i p hi q2
      refine ⟨o', q1, eg, hfr (stE bs lD) th z a w hle rfl hsim _ _ (fun th' z' a' w' hS => ?_)⟩
      have hnext : ∃ th'', Sim E N (stE bs (e :: lD)) th'' z' a' w' := by
        rw [ed] at hS
        by_cases hk : p.k = 0
        · obtain ⟨rfl, rfl⟩ := hk0 hk
          rw [hk] at hS
          exact ⟨th', hS⟩
        · obtain ⟨rfl, rfl⟩ := hk1 (by omega)
          refine ⟨_, hS.renL (rho bs.n (n0 + p.r) p.k) (rho_lt (by omega)) (by show bs.n + p.k ≤ 1000000000; omega) ?_ ?_ (by rw [rho_len]; rfl) ?_ rho_nodup⟩
          · intro j x hj
            have hj' : lk ((e.d, e.v) :: finM lD bs.m) j = some x := hj
            show lk ((e.d, ren (by_ (rho bs.n (n0 + p.r) p.k)) e.v) :: finM lD bs.m) j = _
            simp only [lk] at hj' ⊢
            split at hj'
            · rename_i h; cases hj'; rw [if_pos h]
            · rename_i h
              rw [if_neg h, hj']
              congr 1
              rcases lk_finM hj' with ⟨e1, h1, _, rfl⟩ | ⟨_, h2⟩
              · obtain ⟨o1, p1, r1, r2, r3, r4⟩ := epair e1 h1
                rcases (ok.pair e1.i i o1 p1 o' p (hmem e1 h1).1 hi (Ne.symm r4) r1 r2 q1 q2).2.1 with h5 | h5 | h5
                · exact (hk h5).elim
                · exact (hnot (hanc e1 h1 p1 r2 i h5)).elim
                · exact (fixU_mem r3.fix h5).1.symm
              · exact ((hbm j x h2).2 _ (fun i hi => by rw [by_rho (by omega), if_neg (by omega)])).symm
          · intro j nd hj
            have hj' : lk (e.o ++ finO lD bs.o) j = some nd := hj
            have eqS : ∀ j, lk (({ stE bs lD with o := mapO (by_ (rho bs.n (n0 + p.r) p.k)) e.o ++ (stE bs lD).o, n := (stE bs lD).n + p.k }.put (some e.d) (ren (by_ (rho bs.n (n0 + p.r) p.k)) e.v)).o) j = lk (mapO (by_ (rho bs.n (n0 + p.r) p.k)) e.o ++ finO lD bs.o) j := fun _ => rfl
            rw [lk_append] at hj'
            split at hj'
            · rename_i y hy; cases hj'
              have hkk := ekeys _ (lk_mem hy)
              simp only at hkk
              refine ⟨bs.n + (j - (n0 + p.r)), by rw [rho_get (by omega), if_pos (by omega)], ?_⟩
              have e1 : by_ (rho bs.n (n0 + p.r) p.k) j = bs.n + (j - (n0 + p.r)) := by rw [by_rho (by omega), if_pos (by omega)]
              rw [eqS, lk_append, ← e1, lk_mapO_get (fun q hq h => by
                have := ekeys q hq
                rw [by_rho (by omega), by_rho (by omega), if_pos (by omega), if_pos (by omega)] at h
                omega) hy]
            · rename_i hy
              have hjn : j < bs.n ∧ ¬ (n0 + p.r ≤ j ∧ j < n0 + p.r + p.k) ∧ renNd (by_ (rho bs.n (n0 + p.r) p.k)) nd = nd := by
                rcases lk_finO hj' with ⟨e1, h1, h2⟩ | h2
                · obtain ⟨o1, p1, r1, r2, r3, r4⟩ := epair e1 h1
                  have hk1 := r3.keys _ (lk_mem h2)
                  have ht1 := ok.tot e1.i p1 (hmem e1 h1).1 r2
                  simp only at hk1
                  have hp := ok.pair e1.i i o1 p1 o' p (hmem e1 h1).1 hi (Ne.symm r4) r1 r2 q1 q2
                  refine ⟨by omega, by have := hp.2.2; omega, ?_⟩
                  rcases hp.2.1 with h5 | h5 | h5
                  · exact (hk h5).elim
                  · exact (hnot (hanc e1 h1 p1 r2 i h5)).elim
                  · exact (fixU_mem r3.fix h5).2 _ (lk_mem h2)
                · obtain ⟨h3, h4⟩ := hbo j nd h2
                  exact ⟨by omega, by omega, h4 _ (fun i hi => by rw [by_rho (by omega), if_neg (by omega)])⟩
              refine ⟨j, by rw [rho_get hjn.1, if_neg hjn.2.1], ?_⟩
              rw [eqS, lk_append, mapO_none (fun q hq h => by
                have := ekeys q hq
                rw [by_rho (by omega), if_pos (by omega)] at h
                omega), hjn.2.2]
              exact hj'
          · intro j hj
            rw [rho_get (by omega), if_neg (by omega)]
      obtain ⟨th'', hS2⟩ := hnext
      refine ih (e :: lD) (s.setIfInBounds i true) th'' z' a' w' (inv.set hir hi) (by simp; omega) ?_ ?_ ?_ ?_ hS2
      · intro e1 he1
        rcases List.mem_cons.1 he1 with rfl | he1
        · rw [ei]; exact ⟨hi, q3⟩
        · exact hmem e1 he1
      · rw [List.map_cons, ei]
        exact List.nodup_cons.2 ⟨fun h => by
          obtain ⟨e1, h1, h2⟩ := List.mem_map.1 h
          exact hnot ⟨e1, h1, h2⟩, hnd⟩
      · intro j hj
        by_cases hij : i = j
        · subst hij
          refine ⟨fun _ => ⟨e, by simp, ei⟩, fun _ => ?_⟩
          have : i < s.size := by rw [inv.size]; have := ok.le; omega
          simp [this]
        · rw [getD_set_ne false hij, hs j hj]
          constructor
          · rintro ⟨e1, h1, h2⟩; exact ⟨e1, by simp [h1], h2⟩
          · rintro ⟨e1, h1, h2⟩
            rcases List.mem_cons.1 h1 with rfl | h1
            · exact (hij (ei.symm.trans h2)).elim
            · exact ⟨e1, h1, h2⟩
      · intro e1 he1 p1 hp1 x hx
        rcases List.mem_cons.1 he1 with rfl | he1
        · rw [ei, q2] at hp1; cases hp1
          obtain ⟨e2, h1, h2⟩ := hancD x hx
          exact ⟨e2, by simp [h1], h2⟩
        · obtain ⟨e2, h1, h2⟩ := hanc e1 he1 p1 hp1 x hx
          exact ⟨e2, by simp [h1], h2⟩
    by_cases hz : ∃ z ∈ zs, z ∈ Region.ready .any ops s
    · obtain ⟨z, hzm, hzr⟩ := hz
      obtain ⟨hzn, oz, hoz, hext, hgz, hfree⟩ := ok.strag z hzm
      obtain ⟨o', q1, _, h1⟩ := body (fun _ _ _ => False) z hzr hzn
      obtain rfl : o' = oz := Option.some.inj (q1.symm.trans hoz)
      obtain ⟨u, hy, hK⟩ := extract_yields (ops := ops) hext hgz h1
      refine wpAny_first hoz (ok.sel (fun h => by rw [h] at hzm; cases hzm)) (fun c a w => hQ c a _ _ w) (f + g) s a w (fun j oj hj hne hun hno => hfree j oj hj hne (fun p hp hja => ?_) hno) hzr hy hK
      obtain ⟨_, o2, ho2, hdeps⟩ := mem_ready.1 hzr
      obtain ⟨ed, he, hb, h6⟩ := ok.anc z o2 p hzn ho2 hp j hja
      have hdone := hdeps ed he hb
      have hlt := ok.back z o2 hzn ho2 ed he hb
      obtain ⟨e1, h7, h8⟩ := (hs ed.on (by omega)).1 hdone
      have hj2 : ∃ e' ∈ lD, e'.i = j := by
        rcases h6 with rfl | ⟨q, hq, hxq⟩
        · exact ⟨e1, h7, h8⟩
        · exact hanc e1 h7 q (by rw [h8]; exact hq) j hxq
      obtain ⟨e2, h9, h10⟩ := hj2
      have := (hs j (by rw [← h10]; exact (hmem e2 h9).1)).2 ⟨e2, h9, h10⟩
      rw [getD_both hun] at this; cases this
    refine ⟨fun h => absurd h hready, fun i hir => ?_⟩
    have hi : i < n := by
      have hex : ∃ i, i < n ∧ ¬ ∃ e ∈ lD, e.i = i := by
        apply Classical.byContradiction
        intro hno
        have := nodup_sub_len (l' := lD.map (·.i)) range (fun i hi => by
          have hi : i < n := by simpa using hi
          have : ∃ e ∈ lD, e.i = i := Classical.byContradiction fun h => hno ⟨i, hi, h⟩
          obtain ⟨e, he, rfl⟩ := this
          exact List.mem_map_of_mem he)
        simp at this; omega
      obtain ⟨i0, hi0⟩ := hex
      obtain ⟨i1, ⟨hi1, hno⟩, hmin⟩ := exists_min (fun i => i < n ∧ ¬ ∃ e ∈ lD, e.i = i) i0 hi0
      obtain ⟨o, p, e, q1, q2, q3, q4⟩ := hprop i1 hi1
      have hr1 : i1 ∈ Region.ready .any ops s := mem_ready.2 ⟨hund i1 hi1 hno, o, q1, fun e he hb => by
        have hlt := ok.back i1 o hi1 q1 e he hb
        refine (hs e.on (by omega)).2 (Classical.byContradiction fun h => ?_)
        have := hmin e.on ⟨by omega, h⟩
        omega⟩
      exact ok.head s inv i1 hi1 (fun h => hz ⟨i1, h, hr1⟩) (hund i1 hi1 hno) i hir
    obtain ⟨o', q1, eg, h1⟩ := body Q i hir hi
    unfold wpOp
    simp only [q1]
    have hw : Region.wanted o' (yielded ops a.tmps) = true := by simp [Region.wanted, eg]
    rw [if_pos hw]
    exact .inl h1
end
end Go.AM
/- The abstract machine, 24: regions that draw their order, where what allocates is not ordered: how they are run. -/
namespace Go.AM
open Go
section
variable {P : Program} {E : Env} {N : Nat} {st : AS}
theorem awp_du {id : Nat} {ops : Array Oper} {AQ : AExit → AS → Prop} {ds : List (Option Nat)} {l l' : List Oper} (hm : P.follows .mixedOrders = true) (n : Nat) (pl : List PU) (tot : Nat) (dss zs : List Nat) (hB : okU ops n pl tot dss zs = true) (hd : dstOK N ops = true) (hds : dsOf ops = ds) (ht : ops.toList.drop n = l') (hh : ops.toList.take n = l)
    {m' : List (Nat × AV)} {M : Nat} (hf : fltM dss st.m = m') (hM : st.n + tot = M) (hbig : M + tot ≤ 1000000000) (hcl : cls st.o = true) (h : ∀ (K : AS → Prop) (kp : AV → AS → Prop), (∀ st', AQ .normal st' → K st') → (∀ x st', AQ (.pan x) st' → kp x st') → exU P E N ds kp l' st.n ⟨m', st.o, M⟩ pl l 0 [] K) : AWP P E N (.region id ops true) st AQ := by
  subst hds ht hh hf
  have h := h (AQ .normal) (fun x st => AQ (.pan x) st) (fun _ h => h) (fun _ _ h => h)
  have ok := okU_spec hB
  intro Q hQ th z a w hs
  let Q' : Exit → Act → World → Prop := fun e a w => match e with
    | .panic c => ∀ a' : Act, a'.defers = a.defers → Q (.panic c) a' w
    | e => Q e a w
  refine wp_mono (Q := Q') ?_ (fun e a w hq => by
    cases e
    case panic c => exact hq a rfl
    all_goals exact hq)
  refine wp_region_any hm ?_
  have hdst := dstOK_spec hd
  obtain ⟨L, _, hL, hprop, htail⟩ := exU_out (N := N) (es := []) (j := 0) rfl (fun o ho => hdst o (List.mem_of_mem_take ho)) (fun p hp => by
    obtain ⟨i, hi⟩ := List.mem_iff_getElem?.1 hp
    have hi' : i < n := by have := (List.getElem?_eq_some_iff.1 hi).1; have := ok.len; omega
    have := ok.tot i p hi' hi
    show st.n + p.r + p.k ≤ M
    omega) h
  have hlen : (ops.toList.take n).length = n := by have := ok.le; simp; omega
  rw [hlen, Nat.zero_add] at hL
  simp only [Nat.zero_add] at hprop
  have hprop' : ∀ j, j < n → ∃ o p e, ops[j]? = some o ∧ pl[j]? = some p ∧ L[j]? = some e ∧ PropE P E N ⟨fltM dss st.m, st.o, M⟩ st.n L j o p e := by
    intro j hj
    obtain ⟨o, p, e, q1, q2, q3, q4⟩ := hprop j (by omega)
    rw [List.getElem?_take_of_lt hj] at q1
    exact ⟨o, p, e, by simpa using q1, q2, q3, q4⟩
  have hs0 := hs.ext (ext_drew w)
  have hm0 := hs.mem.len
  have inv0 : HeadInv .any ops n (Array.replicate ops.size false) :=
    ⟨by simp, fun j oj _ hl => (by rw [getD_replicate_false] at hl; cases hl), fun t _ ht => getD_in (by simpa using ht) (getD_replicate_false _ _)⟩
  have hbase : Sim E N (stE ⟨fltM dss st.m, st.o, M⟩ []) (th ++ List.replicate tot ⟨0, 0, 0, 0, false⟩) z a w.drew :=
    (hs0.more tot).sub (by show M = st.n + tot; omega) (fun i x hi => hi) (fun i x hi => (fltM_lk hi).2)
  have hE : E.th0.length ≤ st.n := by
    apply Classical.byContradiction
    intro hno
    have := hs.mem.pre st.n E.th0[st.n] (by simp [show st.n < E.th0.length by omega])
    have := (List.getElem?_eq_some_iff.1 this).1
    omega
  have key := anyU (Q := Q') (g := ops.size - n) (bs := ⟨fltM dss st.m, st.o, M⟩) (n0 := st.n) ok (fun c a d v w h a2 ha => h a2 (by rw [ha]; cases d <;> rfl)) hL hM.symm hbig hE hprop'
    (fun i x hi => by
      obtain ⟨h1, h2⟩ := fltM_lk hi
      refine ⟨h1, fun f hf => ?_⟩
      obtain ⟨y, _, hr⟩ := hs.slots i x h2
      exact hr.lt (fun i hi => hf i (by omega)))
    (fun i nd hi => by
      obtain ⟨L, h1, h2, _⟩ := hs.mem.nds i nd hi
      exact ⟨by have := (List.getElem?_eq_some_iff.1 h1).1; omega, fun f hf => h2.lt (cls_get hcl hi) (fun i hi => hf i (by omega))⟩)
    (fun lD th' z' a' w' hin hall hsim => by
      have hsub : Sim E N (stE ⟨fltM dss st.m, st.o, M⟩ L.reverse) th' z' a' w' := by
        have hLi : ∀ e ∈ L, L[e.i]? = some e := fun e he => hin e (hall e he)
        have props : ∀ e ∈ L, ∃ o p, e.i < n ∧ ops[e.i]? = some o ∧ pl[e.i]? = some p ∧ PropE P E N ⟨fltM dss st.m, st.o, M⟩ st.n L e.i o p e := by
          intro e he
          have h1 := hLi e he
          have hlt : e.i < n := by have := (List.getElem?_eq_some_iff.1 h1).1; omega
          obtain ⟨o, p, e', q1, q2, q3, q4⟩ := hprop' e.i hlt
          rw [h1] at q3; cases q3
          exact ⟨o, p, hlt, q1, q2, q4⟩
        have back : ∀ e ∈ lD, e ∈ L := fun e he => List.mem_of_getElem? (hin e he)
        have hdist : ∀ a ∈ lD, ∀ b ∈ lD, a.d = b.d → a = b := by
          intro a ha b hb hab
          obtain ⟨o1, p1, l1, r1, r2, r3⟩ := props a (back a ha)
          obtain ⟨o2, p2, l2, t1, t2, t3⟩ := props b (back b hb)
          by_cases hne : b.i = a.i
          · have h1 := hin a ha
            have h2 := hin b hb
            rw [hne, h1] at h2; exact Option.some.inj h2
          · have := (ok.pair a.i b.i o1 p1 o2 p2 l1 l2 hne r1 r2 t1 t2).1
            rw [t3.d, r3.d, hab] at this; exact (this rfl).elim
        refine hsim.sub rfl (fun i x hi => ?_) (fun i x hi => ?_)
        · refine finO_get (fun e1 he1 y hy => ?_) ?_
          · obtain ⟨o1, p1, l1, r1, r2, r3⟩ := props e1 (back e1 he1)
            have hk1 := r3.keys _ (lk_mem hy)
            rcases lk_finO hi with ⟨e2, h1, h2⟩ | h2
            · obtain ⟨o2, p2, l2, t1, t2, t3⟩ := props e2 (List.mem_reverse.1 h1)
              have hk2 := t3.keys _ (lk_mem h2)
              by_cases hne : e2.i = e1.i
              · have g1 := hLi e2 (List.mem_reverse.1 h1)
                have g2 := hin e1 he1
                rw [hne, g2] at g1
                rw [← Option.some.inj g1, hy] at h2; exact Option.some.inj h2
              · have := (ok.pair e1.i e2.i o1 p1 o2 p2 l1 l2 hne r1 r2 t1 t2).2.2
                simp only at hk1 hk2; omega
            · obtain ⟨L', g1, _⟩ := hs.mem.nds i x h2
              have := (List.getElem?_eq_some_iff.1 g1).1
              simp only at hk1; omega
          · rcases lk_finO hi with ⟨e2, h1, h2⟩ | h2
            · exact .inl ⟨e2, hall e2 (List.mem_reverse.1 h1), h2⟩
            · exact .inr h2
        · rcases lk_finM hi with ⟨e2, h1, rfl, rfl⟩ | ⟨h1, h2⟩
          · exact finM_get (hall e2 (List.mem_reverse.1 h1)) hdist
          · show lk (finM lD _) i = _
            rw [finM_none (fun e1 he1 => h1 e1 (List.mem_reverse.2 (back e1 he1)))]; exact h2
      have := wpAny_of_seq (md := .any) (Q' := Q') (ops.toList.drop n) n ((List.range ops.size).map fun i => decide (i < n)).toArray a' w' (fun j => by simp [List.getElem?_drop]) (by simpa using ok.seq)
        (exec_sound (Q := Q') (K := AQ .normal) (kp := fun x st => AQ (.pan x) st) (fun x v st' th' z' a' w' g1 g2 g3 a2 ha => hQ.2.2.2 x v st' th' z' w' g1 g2.mem g3 a2 (ha.trans g2.dfs)) (fun st' th' z' a' w' g1 g2 => hQ.1 st' th' z' a' w' g1 g2) _ (fun o ho => hdst o (List.mem_of_mem_drop ho)) hsub (exec_of htail))
      simpa using this)
    n [] (Array.replicate ops.size false) _ z a w.drew inv0 (by simp) (by simp) (by simp) (fun i hi => by rw [getD_replicate_false]; simp) (by simp) hbase
  have e : n + (ops.size - n) = ops.size := by have := ok.le; omega
  rw [e] at key
  exact key
end
section
variable (P : Program) (E : Env) (N : Nat) (ds : List (Option Nat)) (kp : AV → AS → Prop) (tail : List Oper) (n0 : Nat) (bs : AS) (p : PU) (pl : List PU) (rest : List Oper) (j d : Nat) (es : List En) (K : AS → Prop)
def kontU (v : AV) (oo : List (Nat × Nd)) : Prop := fixU bs.n n0 p.chk v oo ∧ exU P E N ds kp tail n0 bs pl rest (j + 1) (⟨j, d, v, oo⟩ :: es) K
def goUQ (r : SR) : Prop := match r with
  | .val v _ => p.k = 0 ∧ kontU P E N ds kp tail n0 bs p pl rest j d es K v []
  | _ => False
def goUL (r : Option (Prop × TypeId × Nat × Nat × List (List AV))) : Prop := match r with
  | some (c, e, sz, len, els) => c ∧ p.k = 1 ∧ kontU P E N ds kp tail n0 bs p pl rest j d es K (.s (n0 + p.r) 0 len) [(n0 + p.r, .lst e sz els)]
  | none => False
def goUA (T : TypeId) (r : Option TY) : Prop := match r with
  | some ⟨_, _, _, some zs⟩ => p.k = 1 ∧ kontU P E N ds kp tail n0 bs p pl rest j d es K (.p (n0 + p.r) 0 0) [(n0 + p.r, .box T (zs.map .r))]
  | _ => False
def callU (R : AS) (g : Nat) (xs : List AV) : Prop := CallU P E.G R g xs (n0 + p.r) p.k (kontU P E N ds kp tail n0 bs p pl rest j d es K)
def goUC (R : AS) (f : Option AV) (xs : Option (List AV)) : Prop := match f, xs with
  | some (.fn g caps), some xs => callU P E N ds kp tail n0 bs p pl rest j d es K R g (xs ++ caps)
  | _, _ => False
def goU (q : Bool) (R : AS) (op : Op) : Prop := match q with
  | true => goUQ P E N ds kp tail n0 bs p pl rest j d es K (stepR P E.G R op)
  | false => MakesU P E R op (n0 + p.r) p.k (kontU P E N ds kp tail n0 bs p pl rest j d es K)
@[go_sem] theorem exU_nil (pl : List PU) : exU P E N ds kp tail n0 bs pl [] j es K = ex P E N ds kp tail (stE bs es) K := by cases pl <;> rfl
theorem makes_q (R : AS) (op : Op) (h : isQ op = true) (r k : Nat) (kont : AV → List (Nat × Nd) → Prop) : MakesU P E R op r k kont = (match stepR P E.G R op with | .val v _ => k = 0 ∧ kont v [] | _ => False) := by
  have key : ∀ x : Option AV, (match x with | some v => k = 0 ∧ kont v [] | none => False) = (match ofO R x with | .val v _ => k = 0 ∧ kont v [] | _ => False) := by
    intro x; cases x <;> rfl
  cases op
  case call c =>
    obtain ⟨callee, args, ats⟩ := c
    cases callee with
    | value f => simp [isQ] at h
    | builtin b => cases b <;> first | (simp [isQ] at h; done) | (rw [stepR_call_else (by simp) (by simp) (by simp)]; exact key _)
    | invoke a b => simp [isQ] at h
  all_goals first | (simp [isQ] at h; done) | exact key _ | exact key none | rfl
@[go_sem] theorem exU_cons (op : Op) (t : TypeId) (pp : String) (af : Array Edge) : exU P E N ds kp tail n0 bs (p :: pl) (⟨some d, op, t, pp, af, none⟩ :: rest) j es K = goU P E N ds kp tail n0 bs p pl rest j d es K (isQ op) (stE bs (fltE p.anc es)) op := by
  have e : exU P E N ds kp tail n0 bs (p :: pl) (⟨some d, op, t, pp, af, none⟩ :: rest) j es K = MakesU P E (stE bs (fltE p.anc es)) op (n0 + p.r) p.k (kontU P E N ds kp tail n0 bs p pl rest j d es K) := by
    simp only [exU, true_and]; rfl
  rw [e]
  cases h : isQ op
  · rfl
  · exact makes_q P E _ op h _ _ _
@[go_sem] theorem goU_t (R : AS) (op : Op) : goU P E N ds kp tail n0 bs p pl rest j d es K true R op = goUQ P E N ds kp tail n0 bs p pl rest j d es K (stepR P E.G R op) := rfl
@[go_sem] theorem goU_list (R : AS) (T : TypeId) (len : Nat) (ps : Array (Nat × Operand)) : goU P E N ds kp tail n0 bs p pl rest j d es K false R (.buildSlice T len ps) = goUL P E N ds kp tail n0 bs p pl rest j d es K (lstU P E.G R (.buildSlice T len ps)) := rfl
@[go_sem] theorem goU_alloc (R : AS) (T : TypeId) : goU P E N ds kp tail n0 bs p pl rest j d es K false R (.alloc T) = goUA P E N ds kp tail n0 bs p pl rest j d es K T (tyOf P T) := rfl
@[go_sem] theorem goUA_some (T : TypeId) (k1 : TK) (s1 b1 : Nat) (zs : List Value) : goUA P E N ds kp tail n0 bs p pl rest j d es K T (some ⟨k1, s1, b1, some zs⟩) = (p.k = 1 ∧ kontU P E N ds kp tail n0 bs p pl rest j d es K (.p (n0 + p.r) 0 0) [(n0 + p.r, .box T (zs.map .r))]) := rfl
@[go_sem] theorem goU_call (R : AS) (f : Operand) (args : Array Operand) (ats : Array TypeId) : goU P E N ds kp tail n0 bs p pl rest j d es K false R (.call { callee := .value f, args := args, argTypes := ats }) = goUC P E N ds kp tail n0 bs p pl rest j d es K R (ev R E.G f) (evs R E.G args.toList) := rfl
@[go_sem] theorem goUQ_val (v : AV) (s : AS) : goUQ P E N ds kp tail n0 bs p pl rest j d es K (.val v s) = (p.k = 0 ∧ kontU P E N ds kp tail n0 bs p pl rest j d es K v []) := rfl
@[go_sem] theorem goUL_some (c : Prop) (e : TypeId) (sz len : Nat) (els : List (List AV)) : goUL P E N ds kp tail n0 bs p pl rest j d es K (some (c, e, sz, len, els)) = (c ∧ p.k = 1 ∧ kontU P E N ds kp tail n0 bs p pl rest j d es K (.s (n0 + p.r) 0 len) [(n0 + p.r, .lst e sz els)]) := rfl
@[go_sem] theorem goUC_some (R : AS) (g : Nat) (caps xs : List AV) : goUC P E N ds kp tail n0 bs p pl rest j d es K R (some (.fn g caps)) (some xs) = callU P E N ds kp tail n0 bs p pl rest j d es K R g (xs ++ caps) := rfl
@[go_sem] theorem kontU_eq (v : AV) (oo : List (Nat × Nd)) : kontU P E N ds kp tail n0 bs p pl rest j d es K v oo = (fixU bs.n n0 p.chk v oo ∧ exU P E N ds kp tail n0 bs pl rest (j + 1) (⟨j, d, v, oo⟩ :: es) K) := rfl
end
section
variable {P : Program} {E : Env} {N : Nat} {ds : List (Option Nat)} {kp : AV → AS → Prop} {tail : List Oper} {n0 : Nat} {bs : AS} {p : PU} {pl : List PU} {rest : List Oper} {j d : Nat} {es : List En} {K : AS → Prop}
theorem callU_i {R : AS} {g : Nat} {xs ys : List AV} {res : AV} {os : List (Nat × Nd)} {k : Nat} (hc : Con P E.G g ys [] 0 (Is res os k) No) (hb : borL R xs = some ys) (hp : PT res) (hq : ∀ p ∈ os, PTNd p.2)
    (hx : k = p.k ∧ (∀ x ∈ os, x.1 < p.k) ∧ (p.k = 0 → ren (· + R.n) res = ren (· + (n0 + p.r)) res) ∧ (0 < p.k → ren (by_ (rho R.n (n0 + p.r) p.k)) (ren (· + (n0 + p.r)) res) = ren (· + R.n) res ∧ mapO (by_ (rho R.n (n0 + p.r) p.k)) (shO (n0 + p.r) os) = shO R.n os))
    (hk : kontU P E N ds kp tail n0 bs p pl rest j d es K (ren (· + (n0 + p.r)) res) (shO (n0 + p.r) os)) : callU P E N ds kp tail n0 bs p pl rest j d es K R g xs := by
  obtain ⟨rfl, h1, h2, h3⟩ := hx
  exact ⟨ys, res, os, hc, hb, hp, hq, h1, h2, h3, hk⟩
@[go_sem] theorem by_rho_in {M r k i : Nat} (h : i < M) (h1 : r ≤ i) (h2 : i < r + k) : by_ (rho M r k) i = M + (i - r) := by rw [by_rho h, if_pos ⟨h1, h2⟩]
@[go_sem] theorem by_rho_lo {M r k i : Nat} (h : i < M) (h1 : i < r) : by_ (rho M r k) i = i := by rw [by_rho h, if_neg (by omega)]
@[go_sem] theorem by_rho_hi {M r k i : Nat} (h : i < M) (h1 : r + k ≤ i) : by_ (rho M r k) i = i := by rw [by_rho h, if_neg (by omega)]
end
attribute [go_sem] stE finM finO fltE fltM fixU fixO lstU pureL pureA mapO memN true_and and_true cond_true cond_false
end Go.AM
/- The abstract machine, 25: the same laws under short names; what is plain about them is found by itself. -/
namespace Go.AM
open Go
section
variable {P : Program} {E : Env} {N : Nat} {st : AS} {AQ : AExit → AS → Prop}
theorem rR {id : Nat} {ops : Array Oper} (h : ∀ (K : AS → Prop) (kp : AV → AS → Prop), (∀ st', AQ .normal st' → K st') → (∀ x st', AQ (.pan x) st' → kp x st') → ex P E N (dsOf ops) kp ops.toList st K) (hd : dstOK N ops = true := by kernel_rfl) : AWP P E N (.region id ops false) st AQ := awp_r hd h
theorem rD {id : Nat} {ops : Array Oper} {ds : List (Option Nat)} {l l' : List Oper} (hm : P.follows .mixedOrders = true) (n : Nat) (ord : List Nat)
    (h : ∀ (K : AS → Prop) (kp : AV → AS → Prop), (∀ st', AQ .normal st' → K st') → (∀ x st', AQ (.pan x) st' → kp x st') → exD P E N ds kp l' l st K)
    (hB : okDraw ops n ord = true := by kernel_rfl) (hd : dstOK N ops = true := by kernel_rfl) (hg : ((ordOf ops ord).all fun o => isG o.op) = true := by kernel_rfl)
    (hds : dsOf ops = ds := by simp only [go_sem]; rfl) (ht : ops.toList.drop n = l' := by simp only [go_sem]; rfl) (hh : ordOf ops ord = l := by simp only [go_sem]; rfl) : AWP P E N (.region id ops true) st AQ :=
  awp_dr hm n ord hB hd hg hds ht hh h
theorem rX {id : Nat} {ops : Array Oper} {ds : List (Option Nat)} {l l' : List Oper} (hm : P.follows .mixedOrders = true) (ws : List Nat) (n : Nat) (ord : List Nat)
    (h : ∀ (K : AS → Prop) (kp : AV → AS → Prop), (∀ st', AQ .normal st' → K st') → (∀ x st', AQ (.pan x) st' → kp x st') → exX P E N ws ds kp l' l st K)
    (hB : okDraw ops n ord = true := by kernel_rfl) (hd : dstOK N ops = true := by kernel_rfl)
    (hds : dsOf ops = ds := by simp only [go_sem]; rfl) (ht : ops.toList.drop n = l' := by simp only [go_sem]; rfl) (hh : ordOf ops ord = l := by simp only [go_sem]; rfl) (hws : prs ws st = true := by rfl) : AWP P E N (.region id ops true) st AQ :=
  awp_dx hm ws n ord hB hd hds ht hh hws h
theorem rU {id : Nat} {ops : Array Oper} {ds : List (Option Nat)} {l l' : List Oper} {m' : List (Nat × AV)} {M : Nat} (hm : P.follows .mixedOrders = true) (n : Nat) (pl : List PU) (tot : Nat) (dss zs : List Nat)
    (h : ∀ (K : AS → Prop) (kp : AV → AS → Prop), (∀ st', AQ .normal st' → K st') → (∀ x st', AQ (.pan x) st' → kp x st') → exU P E N ds kp l' st.n ⟨m', st.o, M⟩ pl l 0 [] K)
    (hB : okU ops n pl tot dss zs = true := by kernel_rfl) (hd : dstOK N ops = true := by kernel_rfl)
    (hds : dsOf ops = ds := by simp only [go_sem]; rfl) (ht : ops.toList.drop n = l' := by simp only [go_sem]; rfl) (hh : ops.toList.take n = l := by simp only [go_sem]; rfl)
    (hf : fltM dss st.m = m' := by simp only [go_sem]; rfl) (hM : st.n + tot = M := by simp only [go_sem]; rfl) (hbig : M + tot ≤ 1000000000 := by omega) (hcl : cls st.o = true := by rfl) : AWP P E N (.region id ops true) st AQ :=
  awp_du hm n pl tot dss zs hB hd hds ht hh hf hM hbig hcl h
variable {ds : List (Option Nat)} {kp : AV → AS → Prop} {tail rest : List Oper} {K : AS → Prop} {d : Option Nat} {ws : List Nat}
theorem cR {f : Nat} {xs ys : List AV} {res : AV} {os : List (Nat × Nd)} {m : Nat} (hc : Con P E.G f ys [] 0 (Is res os m) No) (hk : ex P E N ds kp rest ({ st with o := shO st.n os ++ st.o, n := st.n + m }.put d (ren (· + st.n) res)) K)
    (hb : borL st xs = some ys := by first | (simp (implicitDefEqProofs := false) (maxSteps := 2000000) (disch := omega) only [go_sem]; first | done | rfl) | rfl | (simp (implicitDefEqProofs := false) (maxSteps := 2000000) (disch := omega) only [go_sem, *, List.map_take, List.map_drop]; first | done | rfl))
    (hp : PT res := by first | (simp [-List.map_drop, -List.map_take]; done) | exact .ro _ _ (pt_map _ _))
    (hq : ∀ p ∈ os, PTNd p.2 := by first | (simp [-List.map_drop, -List.map_take]; done) | (intro _ h; simp only [List.mem_singleton] at h; subst h; exact pt_map _ _)) : callR P E N ds kp rest st K f xs d := callR_i hc hb hp hq hk
theorem cD {f : Nat} {xs ys : List AV} {res : AV} {os : List (Nat × Nd)} {m : Nat} (hc : Con P E.G f ys [] 0 (Is res os m) No) (hk : exD P E N ds kp tail rest ({ st with o := shO st.n os ++ st.o, n := st.n + m }.put d (ren (· + st.n) res)) K)
    (hb : borL st xs = some ys := by first | (simp (implicitDefEqProofs := false) (maxSteps := 2000000) (disch := omega) only [go_sem]; first | done | rfl) | rfl | (simp (implicitDefEqProofs := false) (maxSteps := 2000000) (disch := omega) only [go_sem, *, List.map_take, List.map_drop]; first | done | rfl))
    (hp : PT res := by first | (simp [-List.map_drop, -List.map_take]; done) | exact .ro _ _ (pt_map _ _))
    (hq : ∀ p ∈ os, PTNd p.2 := by first | (simp [-List.map_drop, -List.map_take]; done) | (intro _ h; simp only [List.mem_singleton] at h; subst h; exact pt_map _ _)) : callD P E N ds kp tail rest st K f xs d := callD_i hc hb hp hq hk
theorem cX {f : Nat} {xs ys : List AV} {res : AV} {os : List (Nat × Nd)} {m : Nat} (hc : Con P E.G f ys [] 0 (Is res os m) No) (hk : exX P E N ws ds kp tail rest ({ st with o := shO st.n os ++ st.o, n := st.n + m }.put d (ren (· + st.n) res)) K)
    (hb : borL st xs = some ys := by first | (simp (implicitDefEqProofs := false) (maxSteps := 2000000) (disch := omega) only [go_sem]; first | done | rfl) | rfl | (simp (implicitDefEqProofs := false) (maxSteps := 2000000) (disch := omega) only [go_sem, *, List.map_take, List.map_drop]; first | done | rfl))
    (hp : PT res := by first | (simp [-List.map_drop, -List.map_take]; done) | exact .ro _ _ (pt_map _ _))
    (hq : ∀ p ∈ os, PTNd p.2 := by first | (simp [-List.map_drop, -List.map_take]; done) | (intro _ h; simp only [List.mem_singleton] at h; subst h; exact pt_map _ _)) : callX P E N ws ds kp tail rest st K f xs d := callX_i hc hb hp hq hk
theorem cU {n0 : Nat} {bs : AS} {p : PU} {pl : List PU} {j d : Nat} {es : List En} {R : AS} {g : Nat} {xs ys : List AV} {res : AV} {os : List (Nat × Nd)} {k : Nat} (hc : Con P E.G g ys [] 0 (Is res os k) No)
    (hk : kontU P E N ds kp tail n0 bs p pl rest j d es K (ren (· + (n0 + p.r)) res) (shO (n0 + p.r) os))
    (hb : borL R xs = some ys := by first | (simp (implicitDefEqProofs := false) (maxSteps := 2000000) (disch := omega) only [go_sem]; first | done | rfl) | rfl | (simp (implicitDefEqProofs := false) (maxSteps := 2000000) (disch := omega) only [go_sem, *, List.map_take, List.map_drop]; first | done | rfl))
    (hp : PT res := by first | (simp [-List.map_drop, -List.map_take]; done) | exact .ro _ _ (pt_map _ _))
    (hq : ∀ p ∈ os, PTNd p.2 := by first | (simp [-List.map_drop, -List.map_take]; done) | (intro _ h; simp only [List.mem_singleton] at h; subst h; exact pt_map _ _))
    (hx : k = p.k ∧ (∀ x ∈ os, x.1 < p.k) ∧ (p.k = 0 → ren (· + R.n) res = ren (· + (n0 + p.r)) res) ∧ (0 < p.k → ren (by_ (rho R.n (n0 + p.r) p.k)) (ren (· + (n0 + p.r)) res) = ren (· + R.n) res ∧ mapO (by_ (rho R.n (n0 + p.r) p.k)) (shO (n0 + p.r) os) = shO R.n os) := by simp (disch := omega) [go_sem]) :
    callU P E N ds kp tail n0 bs p pl rest j d es K R g xs := callU_i hc hb hp hq hx hk
variable {op : Op} {b w : Bool}
theorem aG (h1 : b = true → goG P E N ds kp rest st K (.ask true w) d op) (h2 : b = false → goG P E N ds kp rest st K (.ask false w) d op) : goG P E N ds kp rest st K (.ask b w) d op := goG_ask h1 h2
theorem aD (h1 : b = true → goGD P E N ds kp tail rest st K (.ask true w) d op) (h2 : b = false → goGD P E N ds kp tail rest st K (.ask false w) d op) : goGD P E N ds kp tail rest st K (.ask b w) d op := goGD_ask h1 h2
theorem aX (h1 : b = true → goGX P E N ws ds kp tail rest st K (.ask true w) d op) (h2 : b = false → goGX P E N ws ds kp tail rest st K (.ask false w) d op) : goGX P E N ws ds kp tail rest st K (.ask b w) d op := goGX_ask h1 h2
theorem iG {g : GV} (h : goG P E N ds kp rest st K g d op) : goG P E N ds kp rest st K g d op := h
theorem iD {g : GV} (h : goGD P E N ds kp tail rest st K g d op) : goGD P E N ds kp tail rest st K g d op := h
theorem iX {g : GV} (h : goGX P E N ws ds kp tail rest st K g d op) : goGX P E N ws ds kp tail rest st K g d op := h
theorem rI {rs : List ResultVar} {R : AV → List (Nat × Nd) → Nat → Prop} {l : List AV} {y : AV} {o : List (Nat × Nd)} {n : Nat} (he : EmbS E N st (oneA l) o n y) (hl : rvsA P st rs = some l := by rfl) : retA P E N rs (Is y o n) R .ret st := retA_is hl he
theorem eN {x y : AV} (hE : E.th0.length = 0) (hx : x = ren (by_ []) y) (hb : st.n ≤ 1000000000 := by simp) : EmbS E N st x [] 0 y := (embV_nil hE hb hx).s
end
theorem ifs : (∀ (p : Prop) [Decidable p], (decide p = true) = p) ∧ (∀ (p : Prop) [Decidable p], (decide p = false) = ¬ p) ∧ (∀ a b : Int, (¬ a < b) = (b ≤ a)) ∧ (∀ a b : Int, (¬ a ≤ b) = (b < a)) ∧ (∀ b : Bool, (¬ b = true) = (b = false)) ∧ (∀ b : Bool, (¬ b = false) = (b = true)) ∧
    (∀ a b : Int, ((a != b) = true) = ¬ a = b) ∧ (∀ a b : Int, ((a == b) = true) = (a = b)) ∧ (∀ a b : Int, ((a != b) = false) = (a = b)) ∧ (∀ a b : Int, ((a == b) = false) = ¬ a = b) := by
  refine ⟨fun p _ => by simp, fun p _ => by simp, fun a b => by simp, fun a b => by simp, fun b => by simp, fun b => by simp, fun a b => by simp, fun a b => by simp, fun a b => by simp, fun a b => by simp⟩
end Go.AM
/- The program's types, as a table. -/
namespace Go.AM
open Go
theorem mixed : Go.Proofs.Tryd.prog.follows .mixedOrders = true := by kernel_rfl
@[go_sem] theorem ty_2 : tyOf Go.Proofs.Tryd.prog 2 = some ⟨.int .i64, 1, 8, some [.int .i64 0]⟩ := by kernel_rfl
@[go_sem] theorem ty_3 : tyOf Go.Proofs.Tryd.prog 3 = some ⟨.int .i64, 1, 8, some [.int .i64 0]⟩ := by kernel_rfl
@[go_sem] theorem ty_4 : tyOf Go.Proofs.Tryd.prog 4 = some ⟨.bool, 1, 1, some [.bool false]⟩ := by kernel_rfl
@[go_sem] theorem ty_5 : tyOf Go.Proofs.Tryd.prog 5 = some ⟨.int .u8, 1, 1, some [.int .u8 0]⟩ := by kernel_rfl
@[go_sem] theorem ty_6 : tyOf Go.Proofs.Tryd.prog 6 = some ⟨.int .u8, 1, 1, some [.int .u8 0]⟩ := by kernel_rfl
@[go_sem] theorem ty_7 : tyOf Go.Proofs.Tryd.prog 7 = some ⟨.struct [(0, 1), (1, 1), (2, 1), (3, 1)], 4, 24, some [.int .i64 0, .int .i64 0, .bool false, .int .u8 0]⟩ := by kernel_rfl
@[go_sem] theorem ty_8 : tyOf Go.Proofs.Tryd.prog 8 = some ⟨.struct [(0, 1), (1, 1), (2, 1), (3, 1)], 4, 24, some [.int .i64 0, .int .i64 0, .bool false, .int .u8 0]⟩ := by kernel_rfl
@[go_sem] theorem ty_9 : tyOf Go.Proofs.Tryd.prog 9 = some ⟨.str, 1, 16, some [.string ⟨#[]⟩]⟩ := by kernel_rfl
@[go_sem] theorem ty_10 : tyOf Go.Proofs.Tryd.prog 10 = some ⟨.str, 1, 16, some [.string ⟨#[]⟩]⟩ := by kernel_rfl
@[go_sem] theorem ty_11 : tyOf Go.Proofs.Tryd.prog 11 = some ⟨.str, 1, 16, some [.string ⟨#[]⟩]⟩ := by kernel_rfl
@[go_sem] theorem ty_12 : tyOf Go.Proofs.Tryd.prog 12 = some ⟨.int .u64, 1, 8, some [.int .u64 0]⟩ := by kernel_rfl
@[go_sem] theorem ty_13 : tyOf Go.Proofs.Tryd.prog 13 = some ⟨.struct [(0, 1), (1, 1)], 2, 24, some [.string ⟨#[]⟩, .int .u64 0]⟩ := by kernel_rfl
@[go_sem] theorem ty_14 : tyOf Go.Proofs.Tryd.prog 14 = some ⟨.struct [(0, 1), (1, 1)], 2, 24, some [.string ⟨#[]⟩, .int .u64 0]⟩ := by kernel_rfl
@[go_sem] theorem ty_15 : tyOf Go.Proofs.Tryd.prog 15 = some ⟨.ptr 187, 1, 8, some [.pointer none]⟩ := by kernel_rfl
@[go_sem] theorem ty_16 : tyOf Go.Proofs.Tryd.prog 16 = some ⟨.ptr 190, 1, 8, some [.pointer none]⟩ := by kernel_rfl
@[go_sem] theorem ty_17 : tyOf Go.Proofs.Tryd.prog 17 = some ⟨.ptr 197, 1, 8, some [.pointer none]⟩ := by kernel_rfl
@[go_sem] theorem ty_18 : tyOf Go.Proofs.Tryd.prog 18 = some ⟨.struct [(0, 1)], 1, 8, some [.pointer none]⟩ := by kernel_rfl
@[go_sem] theorem ty_19 : tyOf Go.Proofs.Tryd.prog 19 = some ⟨.struct [(0, 1)], 1, 8, some [.pointer none]⟩ := by kernel_rfl
@[go_sem] theorem ty_20 : tyOf Go.Proofs.Tryd.prog 20 = some ⟨.ifc, 1, 16, some [.nilIface]⟩ := by kernel_rfl
@[go_sem] theorem ty_21 : tyOf Go.Proofs.Tryd.prog 21 = some ⟨.int .i32, 1, 4, some [.int .i32 0]⟩ := by kernel_rfl
@[go_sem] theorem ty_22 : tyOf Go.Proofs.Tryd.prog 22 = some ⟨.slice 57, 1, 24, some [.slice none 0 0]⟩ := by kernel_rfl
@[go_sem] theorem ty_24 : tyOf Go.Proofs.Tryd.prog 24 = some ⟨.slice 5, 1, 24, some [.slice none 0 0]⟩ := by kernel_rfl
@[go_sem] theorem ty_25 : tyOf Go.Proofs.Tryd.prog 25 = some ⟨.int .i64, 1, 8, some [.int .i64 0]⟩ := by kernel_rfl
@[go_sem] theorem ty_30 : tyOf Go.Proofs.Tryd.prog 30 = some ⟨.slice 66, 1, 24, some [.slice none 0 0]⟩ := by kernel_rfl
@[go_sem] theorem ty_39 : tyOf Go.Proofs.Tryd.prog 39 = some ⟨.slice 82, 1, 24, some [.slice none 0 0]⟩ := by kernel_rfl
@[go_sem] theorem ty_40 : tyOf Go.Proofs.Tryd.prog 40 = some ⟨.struct [(0, 1), (1, 1)], 2, 48, some [.slice none 0 0, .slice none 0 0]⟩ := by kernel_rfl
@[go_sem] theorem ty_41 : tyOf Go.Proofs.Tryd.prog 41 = some ⟨.struct [(0, 1), (1, 1)], 2, 48, some [.slice none 0 0, .slice none 0 0]⟩ := by kernel_rfl
@[go_sem] theorem ty_43 : tyOf Go.Proofs.Tryd.prog 43 = some ⟨.slice 3, 1, 24, some [.slice none 0 0]⟩ := by kernel_rfl
@[go_sem] theorem ty_49 : tyOf Go.Proofs.Tryd.prog 49 = some ⟨.slice 43, 1, 24, some [.slice none 0 0]⟩ := by kernel_rfl
@[go_sem] theorem ty_56 : tyOf Go.Proofs.Tryd.prog 56 = some ⟨.struct [(0, 1), (1, 1), (2, 1)], 3, 32, some [.int .i64 0, .int .i64 0, .string ⟨#[]⟩]⟩ := by kernel_rfl
@[go_sem] theorem ty_57 : tyOf Go.Proofs.Tryd.prog 57 = some ⟨.struct [(0, 1), (1, 1), (2, 1)], 3, 32, some [.int .i64 0, .int .i64 0, .string ⟨#[]⟩]⟩ := by kernel_rfl
@[go_sem] theorem ty_59 : tyOf Go.Proofs.Tryd.prog 59 = some ⟨.int .u64, 1, 8, some [.int .u64 0]⟩ := by kernel_rfl
@[go_sem] theorem ty_62 : tyOf Go.Proofs.Tryd.prog 62 = some ⟨.ptr 64, 1, 8, some [.pointer none]⟩ := by kernel_rfl
@[go_sem] theorem ty_63 : tyOf Go.Proofs.Tryd.prog 63 = some ⟨.struct [(0, 1), (1, 1)], 2, 32, some [.pointer none, .slice none 0 0]⟩ := by kernel_rfl
@[go_sem] theorem ty_64 : tyOf Go.Proofs.Tryd.prog 64 = some ⟨.struct [(0, 1), (1, 1)], 2, 32, some [.pointer none, .slice none 0 0]⟩ := by kernel_rfl
@[go_sem] theorem ty_65 : tyOf Go.Proofs.Tryd.prog 65 = some ⟨.struct [(0, 1), (1, 1), (2, 1)], 3, 32, some [.int .i64 0, .string ⟨#[]⟩, .int .i64 0]⟩ := by kernel_rfl
@[go_sem] theorem ty_66 : tyOf Go.Proofs.Tryd.prog 66 = some ⟨.struct [(0, 1), (1, 1), (2, 1)], 3, 32, some [.int .i64 0, .string ⟨#[]⟩, .int .i64 0]⟩ := by kernel_rfl
@[go_sem] theorem ty_68 : tyOf Go.Proofs.Tryd.prog 68 = some ⟨.ifc, 1, 16, some [.nilIface]⟩ := by kernel_rfl
@[go_sem] theorem ty_69 : tyOf Go.Proofs.Tryd.prog 69 = some ⟨.ifc, 1, 16, some [.nilIface]⟩ := by kernel_rfl
@[go_sem] theorem ty_81 : tyOf Go.Proofs.Tryd.prog 81 = some ⟨.struct [(0, 1), (1, 1), (2, 1)], 3, 32, some [.int .i64 0, .string ⟨#[]⟩, .int .i64 0]⟩ := by kernel_rfl
@[go_sem] theorem ty_82 : tyOf Go.Proofs.Tryd.prog 82 = some ⟨.struct [(0, 1), (1, 1), (2, 1)], 3, 32, some [.int .i64 0, .string ⟨#[]⟩, .int .i64 0]⟩ := by kernel_rfl
@[go_sem] theorem ty_88 : tyOf Go.Proofs.Tryd.prog 88 = some ⟨.ptr 41, 1, 8, some [.pointer none]⟩ := by kernel_rfl
@[go_sem] theorem ty_94 : tyOf Go.Proofs.Tryd.prog 94 = some ⟨.map 3 95, 1, 8, some [.map none]⟩ := by kernel_rfl
@[go_sem] theorem ty_95 : tyOf Go.Proofs.Tryd.prog 95 = some ⟨.struct [], 0, 0, some []⟩ := by kernel_rfl
@[go_sem] theorem ty_98 : tyOf Go.Proofs.Tryd.prog 98 = some ⟨.slice 99, 1, 24, some [.slice none 0 0]⟩ := by kernel_rfl
@[go_sem] theorem ty_99 : tyOf Go.Proofs.Tryd.prog 99 = some ⟨.slice 4, 1, 24, some [.slice none 0 0]⟩ := by kernel_rfl
@[go_sem] theorem ty_102 : tyOf Go.Proofs.Tryd.prog 102 = some ⟨.slice 9, 1, 24, some [.slice none 0 0]⟩ := by kernel_rfl
@[go_sem] theorem ty_103 : tyOf Go.Proofs.Tryd.prog 103 = some ⟨.arr 12 9, 12, 192, some [.string ⟨#[]⟩, .string ⟨#[]⟩, .string ⟨#[]⟩, .string ⟨#[]⟩, .string ⟨#[]⟩, .string ⟨#[]⟩, .string ⟨#[]⟩, .string ⟨#[]⟩, .string ⟨#[]⟩, .string ⟨#[]⟩, .string ⟨#[]⟩, .string ⟨#[]⟩]⟩ := by kernel_rfl
@[go_sem] theorem ty_104 : tyOf Go.Proofs.Tryd.prog 104 = some ⟨.ptr 5, 1, 8, some [.pointer none]⟩ := by kernel_rfl
@[go_sem] theorem ty_111 : tyOf Go.Proofs.Tryd.prog 111 = some ⟨.arr 6 3, 6, 48, some [.int .i64 0, .int .i64 0, .int .i64 0, .int .i64 0, .int .i64 0, .int .i64 0]⟩ := by kernel_rfl
@[go_sem] theorem ty_112 : tyOf Go.Proofs.Tryd.prog 112 = some ⟨.arr 6 111, 36, 288, some [.int .i64 0, .int .i64 0, .int .i64 0, .int .i64 0, .int .i64 0, .int .i64 0, .int .i64 0, .int .i64 0, .int .i64 0, .int .i64 0, .int .i64 0, .int .i64 0, .int .i64 0, .int .i64 0, .int .i64 0, .int .i64 0, .int .i64 0, .int .i64 0, .int .i64 0, .int .i64 0, .int .i64 0, .int .i64 0, .int .i64 0, .int .i64 0, .int .i64 0, .int .i64 0, .int .i64 0, .int .i64 0, .int .i64 0, .int .i64 0, .int .i64 0, .int .i64 0, .int .i64 0, .int .i64 0, .int .i64 0, .int .i64 0]⟩ := by kernel_rfl
@[go_sem] theorem ty_116 : tyOf Go.Proofs.Tryd.prog 116 = some ⟨.arr 6 4, 6, 6, some [.bool false, .bool false, .bool false, .bool false, .bool false, .bool false]⟩ := by kernel_rfl
@[go_sem] theorem ty_117 : tyOf Go.Proofs.Tryd.prog 117 = some ⟨.arr 6 116, 36, 36, some [.bool false, .bool false, .bool false, .bool false, .bool false, .bool false, .bool false, .bool false, .bool false, .bool false, .bool false, .bool false, .bool false, .bool false, .bool false, .bool false, .bool false, .bool false, .bool false, .bool false, .bool false, .bool false, .bool false, .bool false, .bool false, .bool false, .bool false, .bool false, .bool false, .bool false, .bool false, .bool false, .bool false, .bool false, .bool false, .bool false]⟩ := by kernel_rfl
@[go_sem] theorem ty_120 : tyOf Go.Proofs.Tryd.prog 120 = some ⟨.int .u64, 1, 8, some [.int .u64 0]⟩ := by kernel_rfl
@[go_sem] theorem ty_133 : tyOf Go.Proofs.Tryd.prog 133 = some ⟨.int .i64, 1, 8, some [.int .i64 0]⟩ := by kernel_rfl
@[go_sem] theorem ty_141 : tyOf Go.Proofs.Tryd.prog 141 = some ⟨.int .u32, 1, 4, some [.int .u32 0]⟩ := by kernel_rfl
@[go_sem] theorem ty_145 : tyOf Go.Proofs.Tryd.prog 145 = some ⟨.arr 24 5, 24, 24, some [.int .u8 0, .int .u8 0, .int .u8 0, .int .u8 0, .int .u8 0, .int .u8 0, .int .u8 0, .int .u8 0, .int .u8 0, .int .u8 0, .int .u8 0, .int .u8 0, .int .u8 0, .int .u8 0, .int .u8 0, .int .u8 0, .int .u8 0, .int .u8 0, .int .u8 0, .int .u8 0, .int .u8 0, .int .u8 0, .int .u8 0, .int .u8 0]⟩ := by kernel_rfl
@[go_sem] theorem ty_149 : tyOf Go.Proofs.Tryd.prog 149 = some ⟨.int .i64, 1, 8, some [.int .i64 0]⟩ := by kernel_rfl
@[go_sem] theorem ty_152 : tyOf Go.Proofs.Tryd.prog 152 = some ⟨.ptr 173, 1, 8, some [.pointer none]⟩ := by kernel_rfl
@[go_sem] theorem ty_156 : tyOf Go.Proofs.Tryd.prog 156 = some ⟨.int .u64, 1, 8, some [.int .u64 0]⟩ := by kernel_rfl
@[go_sem] theorem ty_160 : tyOf Go.Proofs.Tryd.prog 160 = some ⟨.ptr 3, 1, 8, some [.pointer none]⟩ := by kernel_rfl
@[go_sem] theorem ty_163 : tyOf Go.Proofs.Tryd.prog 163 = some ⟨.struct [(0, 1), (1, 1)], 2, 2, some [.int .u8 0, .int .u8 0]⟩ := by kernel_rfl
@[go_sem] theorem ty_164 : tyOf Go.Proofs.Tryd.prog 164 = some ⟨.struct [(0, 1), (1, 1)], 2, 2, some [.int .u8 0, .int .u8 0]⟩ := by kernel_rfl
@[go_sem] theorem ty_165 : tyOf Go.Proofs.Tryd.prog 165 = some ⟨.arr 16 164, 32, 32, some [.int .u8 0, .int .u8 0, .int .u8 0, .int .u8 0, .int .u8 0, .int .u8 0, .int .u8 0, .int .u8 0, .int .u8 0, .int .u8 0, .int .u8 0, .int .u8 0, .int .u8 0, .int .u8 0, .int .u8 0, .int .u8 0, .int .u8 0, .int .u8 0, .int .u8 0, .int .u8 0, .int .u8 0, .int .u8 0, .int .u8 0, .int .u8 0, .int .u8 0, .int .u8 0, .int .u8 0, .int .u8 0, .int .u8 0, .int .u8 0, .int .u8 0, .int .u8 0]⟩ := by kernel_rfl
@[go_sem] theorem ty_167 : tyOf Go.Proofs.Tryd.prog 167 = some ⟨.arr 20 59, 20, 160, some [.int .u64 0, .int .u64 0, .int .u64 0, .int .u64 0, .int .u64 0, .int .u64 0, .int .u64 0, .int .u64 0, .int .u64 0, .int .u64 0, .int .u64 0, .int .u64 0, .int .u64 0, .int .u64 0, .int .u64 0, .int .u64 0, .int .u64 0, .int .u64 0, .int .u64 0, .int .u64 0]⟩ := by kernel_rfl
@[go_sem] theorem ty_172 : tyOf Go.Proofs.Tryd.prog 172 = some ⟨.struct [(0, 1), (1, 1), (2, 1)], 3, 48, some [.string ⟨#[]⟩, .string ⟨#[]⟩, .nilIface]⟩ := by kernel_rfl
@[go_sem] theorem ty_173 : tyOf Go.Proofs.Tryd.prog 173 = some ⟨.struct [(0, 1), (1, 1), (2, 1)], 3, 48, some [.string ⟨#[]⟩, .string ⟨#[]⟩, .nilIface]⟩ := by kernel_rfl
@[go_sem] theorem ty_175 : tyOf Go.Proofs.Tryd.prog 175 = some ⟨.ptr 156, 1, 8, some [.pointer none]⟩ := by kernel_rfl
@[go_sem] theorem ty_181 : tyOf Go.Proofs.Tryd.prog 181 = some ⟨.ptr 183, 1, 8, some [.pointer none]⟩ := by kernel_rfl
@[go_sem] theorem ty_182 : tyOf Go.Proofs.Tryd.prog 182 = some ⟨.struct [(0, 1)], 1, 16, some [.string ⟨#[]⟩]⟩ := by kernel_rfl
@[go_sem] theorem ty_183 : tyOf Go.Proofs.Tryd.prog 183 = some ⟨.struct [(0, 1)], 1, 16, some [.string ⟨#[]⟩]⟩ := by kernel_rfl
@[go_sem] theorem ty_184 : tyOf Go.Proofs.Tryd.prog 184 = some ⟨.arr 32 5, 32, 32, some [.int .u8 0, .int .u8 0, .int .u8 0, .int .u8 0, .int .u8 0, .int .u8 0, .int .u8 0, .int .u8 0, .int .u8 0, .int .u8 0, .int .u8 0, .int .u8 0, .int .u8 0, .int .u8 0, .int .u8 0, .int .u8 0, .int .u8 0, .int .u8 0, .int .u8 0, .int .u8 0, .int .u8 0, .int .u8 0, .int .u8 0, .int .u8 0, .int .u8 0, .int .u8 0, .int .u8 0, .int .u8 0, .int .u8 0, .int .u8 0, .int .u8 0, .int .u8 0]⟩ := by kernel_rfl
@[go_sem] theorem ty_186 : tyOf Go.Proofs.Tryd.prog 186 = some ⟨.struct [(0, 1), (1, 1), (2, 1), (3, 1)], 4, 40, some [.pointer none, .pointer none, .pointer none, .string ⟨#[]⟩]⟩ := by kernel_rfl
@[go_sem] theorem ty_187 : tyOf Go.Proofs.Tryd.prog 187 = some ⟨.struct [(0, 1), (1, 1), (2, 1), (3, 1)], 4, 40, some [.pointer none, .pointer none, .pointer none, .string ⟨#[]⟩]⟩ := by kernel_rfl
@[go_sem] theorem ty_188 : tyOf Go.Proofs.Tryd.prog 188 = some ⟨.arr 0 16, 0, 0, some []⟩ := by kernel_rfl
@[go_sem] theorem ty_189 : tyOf Go.Proofs.Tryd.prog 189 = some ⟨.struct [(0, 0)], 0, 0, some []⟩ := by kernel_rfl
@[go_sem] theorem ty_190 : tyOf Go.Proofs.Tryd.prog 190 = some ⟨.struct [(0, 0)], 0, 0, some []⟩ := by kernel_rfl
@[go_sem] theorem ty_191 : tyOf Go.Proofs.Tryd.prog 191 = some ⟨.int .u8, 1, 1, some [.int .u8 0]⟩ := by kernel_rfl
@[go_sem] theorem ty_192 : tyOf Go.Proofs.Tryd.prog 192 = some ⟨.int .u8, 1, 1, some [.int .u8 0]⟩ := by kernel_rfl
@[go_sem] theorem ty_194 : tyOf Go.Proofs.Tryd.prog 194 = some ⟨.int .i32, 1, 4, some [.int .i32 0]⟩ := by kernel_rfl
@[go_sem] theorem ty_195 : tyOf Go.Proofs.Tryd.prog 195 = some ⟨.int .i32, 1, 4, some [.int .i32 0]⟩ := by kernel_rfl
@[go_sem] theorem ty_196 : tyOf Go.Proofs.Tryd.prog 196 = some ⟨.struct [(0, 1), (1, 1), (2, 1), (3, 1), (4, 1), (5, 1), (6, 1), (7, 1), (8, 1), (9, 1), (10, 1)], 11, 48, some [.int .u64 0, .int .u64 0, .int .u32 0, .int .u8 0, .int .u8 0, .int .u8 0, .int .u8 0, .nilFunc, .pointer none, .int .i32 0, .int .i32 0]⟩ := by kernel_rfl
@[go_sem] theorem ty_197 : tyOf Go.Proofs.Tryd.prog 197 = some ⟨.struct [(0, 1), (1, 1), (2, 1), (3, 1), (4, 1), (5, 1), (6, 1), (7, 1), (8, 1), (9, 1), (10, 1)], 11, 48, some [.int .u64 0, .int .u64 0, .int .u32 0, .int .u8 0, .int .u8 0, .int .u8 0, .int .u8 0, .nilFunc, .pointer none, .int .i32 0, .int .i32 0]⟩ := by kernel_rfl
@[go_sem] theorem et_7 : etTop Go.Proofs.Tryd.prog 7 = some (.str [(0, 1, .prim (.int .i64)), (1, 1, .prim (.int .i64)), (2, 1, .prim .bool), (3, 1, .prim (.int .u8))]) := by kernel_rfl
@[go_sem] theorem et_8 : etTop Go.Proofs.Tryd.prog 8 = some (.str [(0, 1, .prim (.int .i64)), (1, 1, .prim (.int .i64)), (2, 1, .prim .bool), (3, 1, .prim (.int .u8))]) := by kernel_rfl
@[go_sem] theorem et_56 : etTop Go.Proofs.Tryd.prog 56 = some (.str [(0, 1, .prim (.int .i64)), (1, 1, .prim (.int .i64)), (2, 1, .prim .str)]) := by kernel_rfl
@[go_sem] theorem et_57 : etTop Go.Proofs.Tryd.prog 57 = some (.str [(0, 1, .prim (.int .i64)), (1, 1, .prim (.int .i64)), (2, 1, .prim .str)]) := by kernel_rfl
@[go_sem] theorem et_65 : etTop Go.Proofs.Tryd.prog 65 = some (.str [(0, 1, .prim (.int .i64)), (1, 1, .prim .str), (2, 1, .prim (.int .i64))]) := by kernel_rfl
@[go_sem] theorem et_66 : etTop Go.Proofs.Tryd.prog 66 = some (.str [(0, 1, .prim (.int .i64)), (1, 1, .prim .str), (2, 1, .prim (.int .i64))]) := by kernel_rfl
@[go_sem] theorem et_81 : etTop Go.Proofs.Tryd.prog 81 = some (.str [(0, 1, .prim (.int .i64)), (1, 1, .prim .str), (2, 1, .prim (.int .i64))]) := by kernel_rfl
@[go_sem] theorem et_82 : etTop Go.Proofs.Tryd.prog 82 = some (.str [(0, 1, .prim (.int .i64)), (1, 1, .prim .str), (2, 1, .prim (.int .i64))]) := by kernel_rfl
@[go_sem] theorem et_95 : etTop Go.Proofs.Tryd.prog 95 = some (.str []) := by kernel_rfl
@[go_sem] theorem et_163 : etTop Go.Proofs.Tryd.prog 163 = some (.str [(0, 1, .prim (.int .u8)), (1, 1, .prim (.int .u8))]) := by kernel_rfl
@[go_sem] theorem et_164 : etTop Go.Proofs.Tryd.prog 164 = some (.str [(0, 1, .prim (.int .u8)), (1, 1, .prim (.int .u8))]) := by kernel_rfl
@[go_sem] theorem et_182 : etTop Go.Proofs.Tryd.prog 182 = some (.str [(0, 1, .prim .str)]) := by kernel_rfl
@[go_sem] theorem et_183 : etTop Go.Proofs.Tryd.prog 183 = some (.str [(0, 1, .prim .str)]) := by kernel_rfl
end Go.AM
/- The abstract machine, 19: slices that came in, as what is read. -/
namespace Go.AM
open Go Go.ChangeShapes Go.WideShapes Go.ChangeAt Go.RowKit
theorem add_none_ (a : Addr) (n : Nat) (h : a.spot = none) : a.add n = ⟨a.block, a.off + n, none⟩ := by
  unfold Addr.add
  split
  · rename_i h0; subst h0; cases a; simp_all
  · rfl
/-- All that lies. -/
def zAll (w : World) : Zone := fun _ b => b < w.heap.size
theorem open_ro {H α : Type} {E : TypeId × Value → H} {P : Program} {w : World} {base : Nat} {spare : Nat → Bool} {held : Bool} {k fuel : Nat} {t e : TypeId} {cs : List Value} {x : DataW H × List MemPlace}
    (enc : α → List AV) (R : α → DataW H → Prop) (tt : Bool) (ht : P.underlying t = some (.slice e)) (hk : P.cellsOf e = k) (hk0 : 0 < k)
    (leaf : ∀ fuel cs x, DataW.trod E P w base spare held fuel e cs = some x → ∃ y, Reps w (zAll w) [] (enc y) cs ∧ (∀ v ∈ cs, v.oneCell' = true) ∧ R y x.1)
    (h : DataW.trod E P w base spare held fuel t cs = some x) :
    ∃ (v : Value) (l : List α), cs = [v] ∧ Rep w (zAll w) [] (.ro tt k (l.map enc)) v ∧ v.oneCell' = true ∧
      ((l = [] ∧ x.1 = .nil) ∨ ∃ ds rest, x.1 = .slice ds rest ∧ ds.length = l.length ∧ ∀ (i : Nat) y, l[i]? = some y → ∃ d, ds[i]? = some d ∧ R y d) := by
  rcases DataW.trod_slice ht h with ⟨rfl, rfl⟩ | ⟨a, len, cap, elems, rest, n, _, rfl, rfl, hb, hl, hm, hlen, hel, -, -⟩
  · exact ⟨_, [], rfl, .nil _ _ _ _ _, rfl, .inl ⟨rfl, rfl⟩⟩
  have hy : ∀ i : Fin len, ∃ y cs', w.cells? base (a.add (i.1 * k)) k = some cs' ∧ Reps w (zAll w) [] (enc y) cs' ∧ (∀ v ∈ cs', v.oneCell' = true) ∧ ∃ d, (elems.map (·.1))[i.1]? = some d ∧ R y d := fun ⟨i, hi⟩ => by
    have h1 := hel i hi
    rw [List.getElem?_eq_getElem (by omega), hk] at h1
    obtain ⟨cs', h2, h3⟩ := Option.bind_eq_some_iff.1 h1
    obtain ⟨y, h4, h5, hR⟩ := leaf _ _ _ h3
    exact ⟨y, cs', h2, h4, h5, _, by simp [show i < elems.length by omega], hR⟩
  obtain ⟨f, hf⟩ := Classical.axiomOfChoice hy
  obtain ⟨g, hg⟩ := Classical.axiomOfChoice hf
  refine ⟨_, List.ofFn f, rfl, ?_, rfl, .inr ⟨_, _, rfl, by simp [hlen], fun i y hi => ?_⟩⟩
  · by_cases h0 : len = 0
    · subst h0; simp only [List.ofFn_zero, List.map_nil]; exact .nil _ _ _ _ _
    have c0 := hg ⟨0, by omega⟩
    obtain ⟨_, l0, g0⟩ := World.cells?_some c0.1
    have g1 := g0 0 hk0
    rw [List.getElem?_eq_getElem (by omega)] at g1
    have hs : a.spot = none := by
      simp only [Nat.zero_mul] at g1
      have e0 : (a.add 0).add 0 = a := by simp [Addr.add]
      rw [e0] at g1
      unfold World.cell? at g1
      split at g1
      · split at g1
        · cases g1
        · rename_i h5; simpa using h5
      · cases g1
    have hlt : a.block < w.heap.size := by
      have := World.block_lt_of_cell? _ _ g1
      simpa [Addr.add] using this
    have ha : a = ⟨a.block, a.off, none⟩ := by cases a; simp_all
    have hlk : ∀ i : Fin len, (g i).length = k := fun i => (World.cells?_some (hg i).1).2.1
    have hmem : ∀ (i : Nat) (e : List AV), ((List.ofFn f).map enc)[i]? = some e → ∃ h : i < len, e = enc (f ⟨i, h⟩) := by
      intro i e hi
      rw [List.getElem?_map, List.getElem?_ofFn] at hi
      split at hi
      · rename_i h; exact ⟨h, by simpa using hi.symm⟩
      · simp at hi
    have key : ∀ (i : Nat) (e : List AV) (j : Nat) (x : AV), ((List.ofFn f).map enc)[i]? = some e → e[j]? = some x → ∃ (h : i < len) (y : Value), (g ⟨i, h⟩)[j]? = some y ∧ Rep w (zAll w) [] x y ∧ w.cell? ⟨a.block, a.off + i * k + j, none⟩ = some y := by
      intro i e j x hi hj
      obtain ⟨h, rfl⟩ := hmem i e hi
      obtain ⟨y, h1, h2⟩ := (hg ⟨i, h⟩).2.1.get hj
      refine ⟨h, y, h1, h2, ?_⟩
      obtain ⟨_, l1, g2⟩ := World.cells?_some (hg ⟨i, h⟩).1
      have hj' : j < k := by rw [← hlk ⟨i, h⟩]; exact (List.getElem?_eq_some_iff.1 h1).1
      have g3 := g2 j hj'
      rw [add_none_ a _ hs, add_none_ _ _ rfl] at g3
      rw [← h1, ← g3]
    have hlen2 : ((List.ofFn f).map enc).length = len := by simp
    let ys : Nat → Nat → Value := fun i j => if h : i < len then ((g ⟨i, h⟩)[j]?).getD undef else undef
    have hys : ∀ {i j : Nat} (h : i < len) {y : Value}, (g ⟨i, h⟩)[j]? = some y → ys i j = y := by
      intro i j h y hy; simp only [ys]; rw [dif_pos h, hy]; rfl
    have hro := Rep.ro (w := w) (z := zAll w) [] tt k ((List.ofFn f).map enc) a.block a.off cap ys hlt (by rw [hlen2]; exact hl) (fun i e hi => by obtain ⟨h, rfl⟩ := hmem i e hi; rw [← (hg ⟨i, h⟩).2.1.1]; exact hlk _)
      (fun i e j x hi hj => by obtain ⟨h, y, h1, _, h3⟩ := key i e j x hi hj; rw [hys h h1]; exact h3)
      (fun i e j x hi hj => by obtain ⟨h, y, h1, _, _⟩ := key i e j x hi hj; rw [hys h h1]; exact (hg ⟨i, h⟩).2.2.1 y (List.mem_of_getElem? h1))
      (fun i e j x hi hj => by obtain ⟨h, y, h1, h2, _⟩ := key i e j x hi hj; rw [hys h h1]; exact h2)
    rw [hlen2, ← ha] at hro
    exact hro
  · obtain ⟨hi', rfl⟩ : ∃ h : i < len, f ⟨i, h⟩ = y := by
      rw [List.getElem?_ofFn] at hi
      split at hi
      · rename_i h; exact ⟨h, by simpa using hi⟩
      · cases hi
    exact (hg ⟨i, hi'⟩).2.2.2
theorem rep1 {w : World} {z : Zone} {th : List NLoc} {x : AV} {v : Value} (h : Rep w z th x v) : Reps w z th [x] [v] := .cons h .nil
end Go.AM
/- The abstract machine, 20: contracts of the old form; arguments that say less. -/
namespace Go.AM
open Go
section
variable {P : Program}
/-- What lies in the tables. -/
def Globs (G : List (Nat × List Value)) (w : World) : Prop := ∀ g cs, (g, cs) ∈ G → g < w.heap.size ∧ ∀ (j : Nat) u, cs[j]? = some u → w.cell? ⟨g, j, none⟩ = some u
/-- A contract of the old form: a plain value; what was there is as it was. -/
theorem con_of_calls {f : Nat} {G : List (Nat × List Value)} {xs : List AV} {v : Value} (hok : okFn P f = true)
    (h : ∀ (w : World) (z : Zone) (vs : List Value), (∀ t b, z t b → b < w.heap.size) → Reps w z [] xs vs → Globs G w → Calls P f vs.toArray w (fun e w' => e = .returned v ∧ Go.RowKit.Below w.heap.size w w')) : Con P G f xs [] 0 (Is (.r v) [] 0) No := by
  refine ⟨hok, fun w th z own vs ho hm hr => ?_⟩
  have hth : th = [] := List.length_eq_zero_iff.1 hm.len
  subst hth
  refine (h w z vs hm.zlt hr (fun g cs hg => ⟨hm.zlt _ _ (hm.globs g cs hg).1, (hm.globs g cs hg).2⟩)).mono ?_
  rintro e w' ⟨rfl, hb⟩
  refine ⟨v, .r v, [], 0, [], z, .inl ⟨rfl, rfl, rfl, rfl⟩, ?_, .r _ _⟩
  refine ⟨rfl, fun i nd hi => by simp [lk] at hi, fun i j x y L M hi => by simp [lk] at hi, fun t b hz => Nat.lt_of_lt_of_le (hm.zlt t b hz) hb.size, hb.size, fun b hlt _ => hb.block b hlt, fun t b h => h, fun b h => .inl h, fun b h => h, ?_, fun i L hi => by simp at hi, ⟨hb.os, hb.tape, hb.output⟩, ⟨fun _ _ => False, fun i T k els op L hi => by simp [lk] at hi, fun _ _ h => h.elim, fun _ _ h => h.elim, fun _ _ h => h.elim, fun _ _ _ h => h.elim, fun i nd L j hi => by simp [lk] at hi⟩⟩
  intro g cs hg
  obtain ⟨h1, h2⟩ := hm.globs g cs hg
  exact ⟨h1, fun j u hu => (cell_heap (hb.block g (hm.zlt _ _ h1)) j).trans (h2 j u hu)⟩
mutual
/-- The second says no more than the first: a nil slice is a slice without elements; what is read for good is read. -/
def wk : AV → AV → Prop
  | .r (.slice none 0 0), .ro _ _ [] => True
  | .agg a, .agg b => wkL a b
  | x, y => x = y
def wkL : List AV → List AV → Prop
  | [], [] => True
  | x :: a, y :: b => wk x y ∧ wkL a b
  | _, _ => False
end
variable {w : World} {z : Zone} {th : List NLoc}
mutual
theorem wk_rep : ∀ {x y : AV} {v : Value}, wk x y → Rep w z th x v → Rep w z th y v
  | .r u, y, v, h, hr => by
    unfold wk at h
    split at h
    · rename_i t k e; cases e; exact nil_ro _ _ hr
    · rename_i a b e; cases e
    · subst h; exact hr
  | .agg a, y, v, h, hr => by
    unfold wk at h
    split at h
    · rename_i e; cases e
    · rename_i a' b e; cases e
      obtain ⟨ys, rfl, hc⟩ := hr.agg_inv
      have := wkL_rep h hc
      exact .agg _ _ _ this.1 this.2
    · subst h; exact hr
  | .ro t k e, y, v, h, hr => by simp [wk] at h; subst h; exact hr
  | .re t c o, y, v, h, hr => by simp [wk] at h; subst h; exact hr
  | .s n l k, y, v, h, hr => by simp [wk] at h; subst h; exact hr
  | .p n i o, y, v, h, hr => by simp [wk] at h; subst h; exact hr
  | .tup c, y, v, h, hr => by simp [wk] at h; subst h; exact hr
  | .fn f c, y, v, h, hr => by simp [wk] at h; subst h; exact hr
  | .ifc t c, y, v, h, hr => by simp [wk] at h; subst h; exact hr
  | .q n, y, v, h, hr => by simp [wk] at h; subst h; exact hr
  | .u a b c, y, v, h, hr => by simp [wk] at h; subst h; exact hr
  | .any, y, v, h, hr => by simp [wk] at h; subst h; exact hr
theorem wkL_rep : ∀ {x y : List AV} {vs : List Value}, wkL x y → Reps w z th x vs → Reps w z th y vs
  | [], [], vs, _, hr => hr
  | x :: a, y :: b, vs, h, hr => by
    unfold wkL at h
    obtain ⟨v, r, rfl, h1, h2⟩ := hr.head
    exact .cons (wk_rep h.1 h1) (wkL_rep h.2 h2)
  | [], _ :: _, _, h, _ => by simp [wkL] at h
  | _ :: _, [], _, h, _ => by simp [wkL] at h
end
theorem Con.weak {G : List (Nat × List Value)} {f : Nat} {xs xs' : List AV} {o : List (Nat × Nd)} {n : Nat} {Q R : AV → List (Nat × Nd) → Nat → Prop} (hc : Con P G f xs' o n Q R) (h : wkL xs xs') : Con P G f xs o n Q R :=
  hc.args (fun _ _ _ _ hr => wkL_rep h hr)
end
end Go.AM
/- Plain data of the program, as cells. -/
namespace Go.AM
open Go
structure V where
  k : Int
  n : Int
  s : ByteArray
def eV (x : V) : List AV := [.r (.int .i64 x.k), .r (.int .i64 x.n), .r (.string x.s)]
def sameV (x y : V) : Bool := x.k == y.k && (x.n == y.n && x.s.toList == y.s.toList)
def sameVs : List V → List V → Bool
  | [], [] => true
  | x :: r, y :: q => sameV x y && sameVs r q
  | _, _ => false
theorem drop_at {α : Type} {l : List α} {k : Nat} {x : α} (h : l[k]? = some x) : l.drop k = x :: l.drop (k + 1) := by
  obtain ⟨hk, rfl⟩ := List.getElem?_eq_some_iff.1 h
  exact List.drop_eq_getElem_cons hk
theorem sameVs_len : ∀ {a b : List V}, sameVs a b = true → a.length = b.length
  | [], [], _ => rfl
  | x :: r, y :: q, h => by simp [sameVs] at h; simp [sameVs_len h.2]
  | [], _ :: _, h => by simp [sameVs] at h
  | _ :: _, [], h => by simp [sameVs] at h
def eI (n : Int) : List AV := [.r (.int .i64 n)]
def eStr (s : ByteArray) : List AV := [.r (.string s)]
/-- A column. -/
structure CO where
  nm : ByteArray
  k : Int
def eC (c : CO) : List AV := [.r (.string c.nm), .r (.int .i64 c.k)]
/-- A token. -/
structure TK0 where
  k : Int
  s : ByteArray
  n : Int
def eT (t : TK0) : List AV := [.r (.int .i64 t.k), .r (.string t.s), .r (.int .i64 t.n)]
@[simp] theorem ptA_eV (a : V) : (∀ x, x ∈ eV a → PT x) = True := eq_true (by intro x hx; simp [eV] at hx; rcases hx with rfl | rfl | rfl <;> exact .r _)
@[simp] theorem ptA_eT (a : TK0) : (∀ x, x ∈ eT a → PT x) = True := eq_true (by intro x hx; simp [eT] at hx; rcases hx with rfl | rfl | rfl <;> exact .r _)
@[simp] theorem ptA_eI (a : Int) : (∀ x, x ∈ eI a → PT x) = True := eq_true (by intro x hx; simp [eI] at hx; subst hx; exact .r _)
@[simp] theorem ptA_eC (a : CO) : (∀ x, x ∈ eC a → PT x) = True := eq_true (by intro x hx; simp [eC] at hx; rcases hx with rfl | rfl <;> exact .r _)
@[simp] theorem ptA_eStr (a : ByteArray) : (∀ x, x ∈ eStr a → PT x) = True := eq_true (by intro x hx; simp [eStr] at hx; subst hx; exact .r _)
instance : PTf eV := ⟨fun a => of_eq_true (ptA_eV a)⟩
instance : PTf eT := ⟨fun a => of_eq_true (ptA_eT a)⟩
instance : PTf eI := ⟨fun a => of_eq_true (ptA_eI a)⟩
instance : PTf eC := ⟨fun a => of_eq_true (ptA_eC a)⟩
instance : PTf eStr := ⟨fun a => of_eq_true (ptA_eStr a)⟩
theorem pt_eV : ∀ {l : List V}, ∀ e ∈ l.map eV, ∀ x ∈ e, PT x := by
  intro l e he x hx
  obtain ⟨a, _, rfl⟩ := List.mem_map.1 he
  simp [eV] at hx; rcases hx with rfl | rfl | rfl <;> exact .r _
theorem pt_eT {l : List TK0} : ∀ e ∈ l.map eT, ∀ x ∈ e, PT x := by
  intro e he x hx
  obtain ⟨a, _, rfl⟩ := List.mem_map.1 he
  simp [eT] at hx; rcases hx with rfl | rfl | rfl <;> exact .r _
theorem pt_eByte {l : List UInt8} : ∀ e ∈ l.map eByte, ∀ x ∈ e, PT x := by
  intro e he x hx
  obtain ⟨a, _, rfl⟩ := List.mem_map.1 he
  simp [eByte] at hx; subst hx; exact .r _
theorem pt_eI {l : List Int} : ∀ e ∈ l.map eI, ∀ x ∈ e, PT x := by
  intro e he x hx
  obtain ⟨a, _, rfl⟩ := List.mem_map.1 he
  simp [eI] at hx; subst hx; exact .r _
end Go.AM
/- Locks by the abstract machine: plain data; what the walks of old have shown, as contracts. -/
namespace Go.AM
open Go Go.RowKit
open Go.Proofs.YteebiklebedneaaDoor (LK SlAt LksAt TabFits TabJoins fitB joinB modeB shapeM findM agK agR agM ahM wfM modeM firstM lockGood chkM isK sameT sameX fitsL joinsL fittingM)
attribute [local irreducible] AWP retA
def eK (x : LK) : List AV := [.r (.int .i64 x.t), .r (.string x.s), .r (.int .i64 x.m)]
@[simp] theorem ptA_eK (a : LK) : (∀ x, x ∈ eK a → PT x) = True := eq_true (by intro x hx; simp [eK] at hx; rcases hx with rfl | rfl | rfl <;> exact .r _)
instance : PTf eK := ⟨fun a => of_eq_true (ptA_eK a)⟩
def fitsV : List Value := fitsL.flatten.map .bool
def joinsV : List Value := joinsL.flatten.map (.int .i64)
/-- The package's tables. -/
structure TabsL (G : List (Nat × List Value)) : Prop where
  fits : lk G 2 = some fitsV
  joins : lk G 1 = some joinsV
theorem lk_in {α : Type} : ∀ {G : List (Nat × α)} {g : Nat} {c : α}, lk G g = some c → (g, c) ∈ G
  | (i, x) :: r, g, c, h => by
    rw [lk] at h
    split at h
    · rename_i e; cases h; subst e; exact List.mem_cons_self ..
    · exact List.mem_cons_of_mem _ (lk_in h)
theorem fitsV_at {i j : Nat} (hi : i < 6) (hj : j < 6) : fitsV[i * 6 + j]? = some (.bool ((fitsL.getD i []).getD j false)) := by
  have h : ∀ i < 6, ∀ j < 6, fitsL.flatten[i * 6 + j]? = some ((fitsL.getD i []).getD j false) := by decide
  rw [fitsV, List.getElem?_map, h i hi j hj]; rfl
theorem joinsV_at {i j : Nat} (hi : i < 6) (hj : j < 6) : joinsV[i * 6 + j]? = some (.int .i64 ((joinsL.getD i []).getD j 0)) := by
  have h : ∀ i < 6, ∀ j < 6, joinsL.flatten[i * 6 + j]? = some ((joinsL.getD i []).getD j 0) := by decide
  rw [joinsV, List.getElem?_map, h i hi j hj]; rfl
theorem tabFits_of {G : List (Nat × List Value)} {w : World} (T : TabsL G) (h : Globs G w) : TabFits w := fun _ _ hi hj => (h _ _ (lk_in T.fits)).2 _ _ (fitsV_at hi hj)
theorem tabJoins_of {G : List (Nat × List Value)} {w : World} (T : TabsL G) (h : Globs G w) : TabJoins w := fun _ _ hi hj => (h _ _ (lk_in T.joins)).2 _ _ (joinsV_at hi hj)
theorem lks_of_ro {w : World} {z : Zone} {t : Bool} {l : List LK} {v : Value} (hz : ∀ t b, z t b → b < w.heap.size) (h : Rep w z [] (.ro t 3 (l.map eK)) v) : ∃ a cap, v = .slice a l.length cap ∧ LksAt w a l ∧ l.length ≤ cap := by
  obtain ⟨ad, c, rfl, hc, hn | ⟨b, o, rfl, hzb, hcell⟩⟩ := h.ro_inv
  · have : l = [] := by simpa using hn
    subst this; exact ⟨ad, c, rfl, .inl rfl, Nat.zero_le _⟩
  · refine ⟨_, c, by simp, .inr ⟨b, o, rfl, hz _ _ hzb, fun j x hj i u hi => ?_⟩, by simpa using hc⟩
    obtain ⟨h1, h2⟩ := hcell j (eK x) (by rw [List.getElem?_map, hj]; rfl)
    obtain ⟨y, hy, hr⟩ := h2 i (.r u) (by rw [show eK x = (LK.cells x).map .r from rfl, List.getElem?_map, hi]; rfl)
    rw [hy, show y = u from hr.1.r_inv]
/-- Two rows of locks. -/
def eKs (t1 t2 : Bool) (l1 l2 : List LK) : AV := .agg [.ro t1 3 (l1.map eK), .ro t2 3 (l2.map eK)]
theorem locks_open {w : World} {z : Zone} {t1 t2 : Bool} {l1 l2 : List LK} {v : Value} (hz : ∀ t b, z t b → b < w.heap.size) (h : Rep w z [] (.agg [.ro t1 3 (l1.map eK), .ro t2 3 (l2.map eK)]) v) :
    ∃ a1 c1 a2 c2, v = .agg #[.slice a1 l1.length c1, .slice a2 l2.length c2] ∧ LksAt w a1 l1 ∧ LksAt w a2 l2 ∧ l1.length ≤ c1 ∧ l2.length ≤ c2 := by
  obtain ⟨ys, rfl, hy⟩ := h.agg_inv
  obtain ⟨u1, r1, rfl, g1, hy2⟩ := hy.head
  obtain ⟨u2, r2, rfl, g2, hy3⟩ := hy2.head
  obtain rfl := hy3.of_nil
  obtain ⟨a1, c1, rfl, k1, b1⟩ := lks_of_ro hz g1
  obtain ⟨a2, c2, rfl, k2, b2⟩ := lks_of_ro hz g2
  exact ⟨a1, c1, a2, c2, rfl, k1, k2, b1, b2⟩
/-- What may be the size of the things of locks. -/
def okKs (l : List LK) : Prop := l.length ≤ 1048576 ∧ ∀ x ∈ l, x.s.size ≤ maxLen
theorem check_con {G : List (Nat × List Value)} (T : TabsL G) (t1 t2 : Bool) (l1 l2 : List LK) (o1 : okKs l1) (o2 : okKs l2) : Con Go.Proofs.Tryd.prog G 45 [.agg [.ro t1 3 (l1.map eK), .ro t2 3 (l2.map eK)]] [] 0 (Is (.r (.int .i64 (chkM l1 l2))) [] 0) No :=
  con_of_calls (by kernel_rfl) (fun w z vs hz hr hG => by
    obtain ⟨v, r, rfl, h1, h2⟩ := hr.head
    obtain rfl := h2.of_nil
    obtain ⟨a1, c1, a2, c2, rfl, k1, k2, b1, b2⟩ := locks_open hz h1
    exact Go.Proofs.YteebiklebedneaaDoor.check_any a1 a2 l1 l2 c1 c2 w k1 k2 o1.1 o2.1 b1 b2 o1.2 o2.2 (tabFits_of T hG) (tabJoins_of T hG))
theorem locksFault_con (G : List (Nat × List Value)) (t1 t2 : Bool) (l1 l2 : List LK) (o1 : okKs l1) (o2 : okKs l2) : Con Go.Proofs.Tryd.prog G 52 [.agg [.ro t1 3 (l1.map eK), .ro t2 3 (l2.map eK)]] [] 0 (Is (.r (.int .i64 (chkM l1 l2))) [] 0) No :=
  con_of_calls (by kernel_rfl) (fun w z vs hz hr hG => by
    obtain ⟨v, r, rfl, h1, h2⟩ := hr.head
    obtain rfl := h2.of_nil
    obtain ⟨a1, c1, a2, c2, rfl, k1, k2, b1, b2⟩ := locks_open hz h1
    exact Go.Proofs.YteebiklebedneaaDoor.locksFault_any a1 a2 l1 l2 c1 c2 w k1 k2 o1.1 o2.1 b1 b2 o1.2 o2.2)
theorem find_con (G : List (Nat × List Value)) (t : Bool) (l : List LK) (hl : l.length ≤ 1048576) (txn : Int) (s : ByteArray) : Con Go.Proofs.Tryd.prog G 79 [.ro t 3 (l.map eK), .r (.int .i64 txn), .r (.string s)] [] 0 (Is (.r (.int .i64 (findM txn s l))) [] 0) No :=
  con_of_calls (by kernel_rfl) (fun w z vs hz hr hG => by
    obtain ⟨v, r, rfl, h1, h2⟩ := hr.head
    obtain ⟨v2, r2, rfl, h3, h4⟩ := h2.head
    obtain ⟨v3, r3, rfl, h5, h6⟩ := h4.head
    obtain rfl := h3.r_inv
    obtain rfl := h5.r_inv
    obtain rfl := h6.of_nil
    obtain ⟨a, c, rfl, k, b⟩ := lks_of_ro hz h1
    exact Go.Proofs.YteebiklebedneaaDoor.find_any a l c txn s w k (by omega))
theorem first_con {G : List (Nat × List Value)} (T : TabsL G) (t1 t2 : Bool) (l1 l2 : List LK) (n1 : l1.length ≤ 1048576) (n2 : l2.length ≤ 1048576) (i : Nat) (q : LK) (hi : l2[i]? = some q) (hq : modeB q.m = true) (hm : ∀ y ∈ l1, modeB y.m = true) :
    Con Go.Proofs.Tryd.prog G 49 [.agg [.ro t1 3 (l1.map eK), .ro t2 3 (l2.map eK)], .r (.int .i64 i)] [] 0 (Is (.r (.bool (firstM l1 l2 i q))) [] 0) No :=
  con_of_calls (by kernel_rfl) (fun w z vs hz hr hG => by
    obtain ⟨v, r, rfl, h1, h2⟩ := hr.head
    obtain ⟨v2, r2, rfl, h3, h4⟩ := h2.head
    obtain rfl := h3.r_inv
    obtain rfl := h4.of_nil
    obtain ⟨a1, c1, a2, c2, rfl, k1, k2, b1, b2⟩ := locks_open hz h1
    exact Go.Proofs.YteebiklebedneaaDoor.first_any a1 a2 l1 l2 c1 c2 i q w k1 k2 (by omega) (by omega) b2 (tabFits_of T hG) hi hq hm)
theorem fitting_con (G : List (Nat × List Value)) (a b : Int) : Con Go.Proofs.Tryd.prog G 104 [.r (.int .i64 a), .r (.int .i64 b)] [] 0 (Is (.r (.bool (fittingM a b))) [] 0) No :=
  con_of_calls (by kernel_rfl) (fun w z vs hz hr hG => by
    obtain ⟨v, r, rfl, h1, h2⟩ := hr.head
    obtain ⟨v2, r2, rfl, h3, h4⟩ := h2.head
    obtain rfl := h1.r_inv
    obtain rfl := h3.r_inv
    obtain rfl := h4.of_nil
    exact (Go.Proofs.YteebiklebedneaaDoor.fitting_any a b w).mono (fun e w' ⟨he, hw⟩ => by subst hw; exact ⟨he, Below.refl _ _⟩))
theorem modeOf_con (G : List (Nat × List Value)) (t : Bool) (l : List LK) (hl : l.length ≤ 1048576) (txn : Int) (s : ByteArray) : Con Go.Proofs.Tryd.prog G 85 [.ro t 3 (l.map eK), .r (.int .i64 txn), .r (.string s)] [] 0 (Is (.r (.int .i64 (modeM txn s l))) [] 0) No :=
  con_of_calls (by kernel_rfl) (fun w z vs hz hr hG => by
    obtain ⟨v, r, rfl, h1, h2⟩ := hr.head
    obtain ⟨v2, r2, rfl, h3, h4⟩ := h2.head
    obtain ⟨v3, r3, rfl, h5, h6⟩ := h4.head
    obtain rfl := h3.r_inv
    obtain rfl := h5.r_inv
    obtain rfl := h6.of_nil
    obtain ⟨a, c, rfl, k, b⟩ := lks_of_ro hz h1
    exact (Go.Proofs.YteebiklebedneaaDoor.modeOf_any a l c txn s w k (by omega)).mono (fun e w' ⟨he, hw⟩ => by subst hw; exact ⟨he, Below.refl _ _⟩))
end Go.AM
/- Rows of numbers: the same lists are the same. -/
namespace Go.AM
open Go Go.RowKit
attribute [local irreducible] AWP retA
def eIs (l : List Int) : List AV := [.ro true 1 (l.map eI)]
@[simp] theorem ptA_eIs (a : List Int) : (∀ x, x ∈ eIs a → PT x) = True := eq_true (by intro x hx; simp [eIs] at hx; subst hx; simp)
instance : PTf eIs := ⟨fun a => of_eq_true (ptA_eIs a)⟩
set_option maxRecDepth 100000 in
set_option maxHeartbeats 4000000 in
theorem sameI_con (G : List (Nat × List Value)) (t t' : Bool) (l : List Int) (hl : l.length ≤ 1048576) : Con Go.Proofs.Tryd.prog G 22 [.ro t 1 (l.map eI), .ro t' 1 (l.map eI)] [] 0 (Is (.r (.bool true)) [] 0) No := by
  refine con_of_awp Go.Proofs.Tryd.func22 rfl (by kernel_rfl) (of_decide_eq_true (by kernel_rfl)) ?_; intro E hG hE; subst hG; simp only [ent]
  (repeat' (first | refine awp_seq ?_ | refine awp_block ?_ | refine awp_skip ?_ | refine awp_exit ?_ | ((first | refine rR (fun K kp hK hkp => ?_) | refine rD (id := 6) mixed 9 [0,1,2,3,4,5,6,7,8] (fun K kp hK hkp => ?_) | refine iG ?_ | refine iD ?_); simp (implicitDefEqProofs := false) (maxSteps := 2000000) (disch := omega) only [go_sem, bne_self_eq_false]; (repeat' (first | (refine hK _ ?_; clear hK hkp kp K) | (with_reducible refine And.intro ?_ ?_) | omega))) | ((first | refine aG (fun h => ?_) (fun h => ?_) | refine aD (fun h => ?_) (fun h => ?_) | refine aX (fun h => ?_) (fun h => ?_)) <;> simp only [h]) | refine awp_cond_t rfl ?_ | refine awp_cond_f rfl ?_ | ((refine awp_cond rfl (fun h => ?_) (fun h => ?_) <;> try simp only [ifs] at h) <;> (try (exfalso; omega))) | refine awp_ret ?_))
  refine awp_loop (fun k : Nat => ⟨[(5, .r (.int .i64 k)), (0, .ro t 1 (l.map eI)), (1, .ro t' 1 (l.map eI))], [], 0⟩) (fun k => k ≤ l.length) (fun k => l.length - k) 0 ?_ ?_ ?_
  · simp
  · (refine emb [] ?_ ?_ rfl ?_ ?_ ?_ ?_ <;> simp [okM, okO, lk, ren, renL, renNd, by_, hE] <;> (try omega) <;> (try (intro i hi; first | (rcases (by omega : i = 0 ∨ i = 1 ∨ i = 2) with rfl | rfl | rfl <;> rfl) | (rcases (by omega : i = 0 ∨ i = 1) with rfl | rfl <;> rfl))))
  intro k hk
  by_cases hlt : k < l.length
  · obtain ⟨x, hx⟩ : ∃ x, l[k]? = some x := ⟨l[k], by simp [hlt]⟩
    have d1 : decide ((k : Int) < (l.length : Int)) = true := decide_eq_true (by omega)
    (repeat' (first | refine awp_seq ?_ | refine awp_block ?_ | refine awp_skip ?_ | refine awp_exit ?_ | ((first | refine rR (fun K kp hK hkp => ?_) | refine rD (id := 6) mixed 9 [0,1,2,3,4,5,6,7,8] (fun K kp hK hkp => ?_) | refine iG ?_ | refine iD ?_); simp (implicitDefEqProofs := false) (maxSteps := 2000000) (disch := omega) only [go_sem, hx, eI, d1, bne_self_eq_false]; (repeat' (first | (refine hK _ ?_; clear hK hkp kp K) | (with_reducible refine And.intro ?_ ?_) | omega))) | ((first | refine aG (fun h => ?_) (fun h => ?_) | refine aD (fun h => ?_) (fun h => ?_) | refine aX (fun h => ?_) (fun h => ?_)) <;> simp only [h]) | refine awp_cond_t rfl ?_ | refine awp_cond_f rfl ?_ | ((refine awp_cond rfl (fun h => ?_) (fun h => ?_) <;> try simp only [ifs] at h) <;> (try (exfalso; omega))) | refine awp_ret ?_))
    ((first | (refine nextB (k + 1) ?_ ?_ ?_) | (refine nextA (k + 1) ?_ ?_ ?_) | (refine nextE (k + 1) ?_ ?_ ?_)); rotate_left; (· (try dsimp only); (first | omega | (simp only [List.length_drop, List.length_cons, List.length_append]; omega) | (simp; done) | (simp; omega))); (· (refine emb [] ?_ ?_ rfl ?_ ?_ ?_ ?_ <;> simp [okM, okO, lk, ren, renL, renNd, by_, hE] <;> (try omega) <;> (try (intro i hi; first | (rcases (by omega : i = 0 ∨ i = 1 ∨ i = 2) with rfl | rfl | rfl <;> rfl) | (rcases (by omega : i = 0 ∨ i = 1) with rfl | rfl <;> rfl))))))
    omega
  · have d1 : decide ((k : Int) < (l.length : Int)) = false := decide_eq_false (by omega)
    (repeat' (first | refine awp_seq ?_ | refine awp_block ?_ | refine awp_skip ?_ | refine awp_exit ?_ | ((first | refine rR (fun K kp hK hkp => ?_) | refine rD (id := 6) mixed 9 [0,1,2,3,4,5,6,7,8] (fun K kp hK hkp => ?_) | refine iG ?_ | refine iD ?_); simp (implicitDefEqProofs := false) (maxSteps := 2000000) (disch := omega) only [go_sem, d1]; (repeat' (first | (refine hK _ ?_; clear hK hkp kp K) | (with_reducible refine And.intro ?_ ?_) | omega))) | ((first | refine aG (fun h => ?_) (fun h => ?_) | refine aD (fun h => ?_) (fun h => ?_) | refine aX (fun h => ?_) (fun h => ?_)) <;> simp only [h]) | refine awp_cond_t rfl ?_ | refine awp_cond_f rfl ?_ | ((refine awp_cond rfl (fun h => ?_) (fun h => ?_) <;> try simp only [ifs] at h) <;> (try (exfalso; omega))) | refine awp_ret ?_))
    (refine retA_is (by (simp (implicitDefEqProofs := false) (maxSteps := 2000000) (disch := omega) only [go_sem, Go.Proofs.Tryd.results22]); rfl) ?_; refine eN hE ?_; simp [oneA, ren, renL])
set_option maxRecDepth 100000 in
set_option maxHeartbeats 4000000 in
theorem sameLs_con (G : List (Nat × List Value)) (t t' : Bool) (l : List (List Int)) (hl : l.length ≤ 1048576) (hs : ∀ x ∈ l, x.length ≤ 1048576) : Con Go.Proofs.Tryd.prog G 26 [.ro t 1 (l.map eIs), .ro t' 1 (l.map eIs)] [] 0 (Is (.r (.bool true)) [] 0) No := by
  refine con_of_awp Go.Proofs.Tryd.func26 rfl (by kernel_rfl) (of_decide_eq_true (by kernel_rfl)) ?_; intro E hG hE; subst hG; simp only [ent]
  (repeat' (first | refine awp_seq ?_ | refine awp_block ?_ | refine awp_skip ?_ | refine awp_exit ?_ | ((first | refine rR (fun K kp hK hkp => ?_) | refine rD (id := 6) mixed 10 [0,1,2,3,4,5,6,7,8,9] (fun K kp hK hkp => ?_) | refine iG ?_ | refine iD ?_); simp (implicitDefEqProofs := false) (maxSteps := 2000000) (disch := omega) only [go_sem, bne_self_eq_false]; (repeat' (first | (refine hK _ ?_; clear hK hkp kp K) | (with_reducible refine And.intro ?_ ?_) | omega))) | ((first | refine aG (fun h => ?_) (fun h => ?_) | refine aD (fun h => ?_) (fun h => ?_) | refine aX (fun h => ?_) (fun h => ?_)) <;> simp only [h]) | refine awp_cond_t rfl ?_ | refine awp_cond_f rfl ?_ | ((refine awp_cond rfl (fun h => ?_) (fun h => ?_) <;> try simp only [ifs] at h) <;> (try (exfalso; omega))) | refine awp_ret ?_))
  refine awp_loop (fun k : Nat => ⟨[(5, .r (.int .i64 k)), (0, .ro t 1 (l.map eIs)), (1, .ro t' 1 (l.map eIs))], [], 0⟩) (fun k => k ≤ l.length) (fun k => l.length - k) 0 ?_ ?_ ?_
  · simp
  · (refine emb [] ?_ ?_ rfl ?_ ?_ ?_ ?_ <;> simp [okM, okO, lk, ren, renL, renNd, by_, hE] <;> (try omega) <;> (try (intro i hi; first | (rcases (by omega : i = 0 ∨ i = 1 ∨ i = 2) with rfl | rfl | rfl <;> rfl) | (rcases (by omega : i = 0 ∨ i = 1) with rfl | rfl <;> rfl))))
  intro k hk
  by_cases hlt : k < l.length
  · obtain ⟨x, hx⟩ : ∃ x, l[k]? = some x := ⟨l[k], by simp [hlt]⟩
    have d1 : decide ((k : Int) < (l.length : Int)) = true := decide_eq_true (by omega)
    have sc := sameI_con E.G true true x (hs x (List.mem_of_getElem? hx))
    (repeat' (first | refine awp_seq ?_ | refine awp_block ?_ | refine awp_skip ?_ | refine awp_exit ?_ | ((first | refine rR (fun K kp hK hkp => ?_) | refine rD (id := 6) mixed 10 [0,1,2,3,4,5,6,7,8,9] (fun K kp hK hkp => ?_) | refine cR sc ?_ | refine cD sc ?_ | refine iG ?_ | refine iD ?_); simp (implicitDefEqProofs := false) (maxSteps := 2000000) (disch := omega) only [go_sem, hx, eIs, d1]; (repeat' (first | (refine hK _ ?_; clear hK hkp kp K) | (with_reducible refine And.intro ?_ ?_) | omega))) | ((first | refine aG (fun h => ?_) (fun h => ?_) | refine aD (fun h => ?_) (fun h => ?_) | refine aX (fun h => ?_) (fun h => ?_)) <;> simp only [h]) | refine awp_cond_t rfl ?_ | refine awp_cond_f rfl ?_ | ((refine awp_cond rfl (fun h => ?_) (fun h => ?_) <;> try simp only [ifs] at h) <;> (try (exfalso; omega))) | refine awp_ret ?_))
    ((first | (refine nextB (k + 1) ?_ ?_ ?_) | (refine nextA (k + 1) ?_ ?_ ?_) | (refine nextE (k + 1) ?_ ?_ ?_)); rotate_left; (· (try dsimp only); (first | omega | (simp only [List.length_drop, List.length_cons, List.length_append]; omega) | (simp; done) | (simp; omega))); (· (refine emb [] ?_ ?_ rfl ?_ ?_ ?_ ?_ <;> simp [okM, okO, lk, ren, renL, renNd, by_, hE] <;> (try omega) <;> (try (intro i hi; first | (rcases (by omega : i = 0 ∨ i = 1 ∨ i = 2) with rfl | rfl | rfl <;> rfl) | (rcases (by omega : i = 0 ∨ i = 1) with rfl | rfl <;> rfl))))))
    omega
  · have d1 : decide ((k : Int) < (l.length : Int)) = false := decide_eq_false (by omega)
    (repeat' (first | refine awp_seq ?_ | refine awp_block ?_ | refine awp_skip ?_ | refine awp_exit ?_ | ((first | refine rR (fun K kp hK hkp => ?_) | refine rD (id := 6) mixed 10 [0,1,2,3,4,5,6,7,8,9] (fun K kp hK hkp => ?_) | refine iG ?_ | refine iD ?_); simp (implicitDefEqProofs := false) (maxSteps := 2000000) (disch := omega) only [go_sem, d1]; (repeat' (first | (refine hK _ ?_; clear hK hkp kp K) | (with_reducible refine And.intro ?_ ?_) | omega))) | ((first | refine aG (fun h => ?_) (fun h => ?_) | refine aD (fun h => ?_) (fun h => ?_) | refine aX (fun h => ?_) (fun h => ?_)) <;> simp only [h]) | refine awp_cond_t rfl ?_ | refine awp_cond_f rfl ?_ | ((refine awp_cond rfl (fun h => ?_) (fun h => ?_) <;> try simp only [ifs] at h) <;> (try (exfalso; omega))) | refine awp_ret ?_))
    (refine retA_is (by (simp (implicitDefEqProofs := false) (maxSteps := 2000000) (disch := omega) only [go_sem, Go.Proofs.Tryd.results26]); rfl) ?_; refine eN hE ?_; simp [oneA, ren, renL])
end Go.AM
/- Locks: for whom what stands at a place of the queue waits: the program's side. -/
namespace Go.AM
open Go Go.RowKit
open Go.Proofs.YteebiklebedneaaDoor (LK SlAt LksAt TabFits TabJoins fitB joinB modeB shapeM findM agK agR agM ahM wfM modeM firstM lockGood chkM isK sameT sameX fitsL joinsL fittingM)
attribute [local irreducible] AWP retA
def akM (x : LK) (l : List LK) : List Int := (l.filter (agK x)).map (·.t)
theorem filter_eq' {p q : LK → Bool} : ∀ {l : List LK}, (∀ y ∈ l, p y = q y) → l.filter p = l.filter q
  | [], _ => rfl
  | y :: r, h => by
    rw [List.filter_cons, List.filter_cons, h y (by simp), filter_eq' fun z hz => h z (by simp [hz])]
theorem akM_eq {x : LK} {l : List LK} (hx : modeB x.m = true) (hl : ∀ y ∈ l, modeB y.m = true) : akM x l = agM x l := by
  unfold akM agM
  rw [filter_eq' fun y hy => (Go.Proofs.YteebiklebedneaaDoor.agR_eq hx (hl y hy)).symm]
theorem filt_succ {p : LK → Bool} {l : List LK} {k : Nat} {h : LK} (hh : l[k]? = some h) : ((l.take (k + 1)).filter p).map (·.t) = ((l.take k).filter p).map (·.t) ++ (if p h = true then [h.t] else []) := by
  rw [List.take_add_one, hh]
  simp only [Option.toList_some, List.filter_append, List.map_append]
  congr 1
  cases e : p h <;> simp [List.filter, e]
theorem filt_len {p : LK → Bool} (l : List LK) : ((l.filter p).map (·.t)).length ≤ l.length := by rw [List.length_map]; exact List.length_filter_le _ _
theorem fits_get {a b : Int} (h1 : a < 6) (h2 : b < 6) : fitsV[a.toNat * 6 + b.toNat * 1]? = some (.bool (fitB a b)) := by
  rw [Nat.mul_one, fitsV_at (by omega) (by omega)]; rfl
theorem joins_get {a b : Int} (h1 : a < 6) (h2 : b < 6) : joinsV[a.toNat * 6 + b.toNat * 1]? = some (.int .i64 (joinB a b)) := by
  rw [Nat.mul_one, joinsV_at (by omega) (by omega)]; rfl
set_option maxRecDepth 100000 in
set_option maxHeartbeats 8000000 in
theorem waits_con {G : List (Nat × List Value)} (T : TabsL G) (t1 t2 : Bool) (l1 l2 : List LK) (n1 : l1.length ≤ 1048576) (n2 : l2.length ≤ 1048576) (i : Nat) (q : LK) (hi : l2[i]? = some q) (hq : modeB q.m = true) (hm : ∀ y ∈ l1, modeB y.m = true) :
    Con Go.Proofs.Tryd.prog G 56 [.agg [.ro t1 3 (l1.map eK), .ro t2 3 (l2.map eK)], .r (.int .i64 i)] [] 0 (Is (.s 0 0 (wfM l1 l2 i q).length) [(0, .lst 3 1 ((wfM l1 l2 i q).map eI))] 1) No := by
  have hil : i < l2.length := (List.getElem?_eq_some_iff.1 hi).1
  obtain ⟨q1, q2⟩ := Go.Proofs.YteebiklebedneaaDoor.modeB_iff.1 hq
  refine con_of_awp Go.Proofs.Tryd.func56 rfl (by kernel_rfl) (of_decide_eq_true (by kernel_rfl)) ?_; intro E hG hE; subst hG; simp only [ent]
  (repeat' (first | refine awp_seq ?_ | refine awp_block ?_ | refine awp_skip ?_ | refine awp_exit ?_ | ((first | refine rR (fun K kp hK hkp => ?_) | refine rD (id := 6) mixed 22 [0,1,2,3,4,5,6,7,8,9,10,11,12,13,14,15,16,17,18,19,20,21] (fun K kp hK hkp => ?_) | refine iG ?_ | refine iD ?_); simp (implicitDefEqProofs := false) (maxSteps := 2000000) (disch := omega) only [go_sem, hi, eK]; (repeat' (first | (refine hK _ ?_; clear hK hkp kp K) | (with_reducible refine And.intro ?_ ?_) | omega))) | ((first | refine aG (fun h => ?_) (fun h => ?_) | refine aD (fun h => ?_) (fun h => ?_) | refine aX (fun h => ?_) (fun h => ?_)) <;> simp only [h]) | refine awp_cond_t rfl ?_ | refine awp_cond_f rfl ?_ | ((refine awp_cond rfl (fun h => ?_) (fun h => ?_) <;> try simp only [ifs] at h) <;> (try (exfalso; omega))) | refine awp_ret ?_))
  (refine AWP.emb (emb_nil 6 3 1 ?_) ?_; (· rfl); dsimp only)
  refine awp_loop (fun k : Nat => ⟨[(19, .r (.int .i64 k)), (18, .r (.int .i64 l1.length)), (17, .ro t1 3 (l1.map eK)), (6, .s 2 0 (akM q (l1.take k)).length), (5, .p 1 0 0), (2, .p 0 0 0), (1, .r (.int .i64 i))], [(0, .box 41 [.ro t1 3 (l1.map eK), .ro t2 3 (l2.map eK)]), (1, .box 82 (eK q)), (2, .lst 3 1 ((akM q (l1.take k)).map eI))], 3⟩) (fun k => k ≤ l1.length) (fun k => l1.length - k) 0 ?_ ?_ ?_
  · simp
  · (refine emb [0, 1, 2] ?_ ?_ rfl ?_ ?_ ?_ ?_ <;> simp [okM, okO, lk, ren, renL, renNd, by_, hE, eK, akM] <;> (try omega) <;> (try (intro i hi; first | (rcases (by omega : i = 0 ∨ i = 1 ∨ i = 2) with rfl | rfl | rfl <;> rfl) | (rcases (by omega : i = 0 ∨ i = 1) with rfl | rfl <;> rfl))))
  intro k hk
  by_cases hlt : k < l1.length
  · obtain ⟨y, hx⟩ : ∃ x, l1[k]? = some x := ⟨l1[k], by simp [hlt]⟩
    obtain ⟨y1, y2⟩ := Go.Proofs.YteebiklebedneaaDoor.modeB_iff.1 (hm y (List.mem_of_getElem? hx))
    have ht : akM q (l1.take (k + 1)) = akM q (l1.take k) ++ (if agK q y = true then [y.t] else []) := filt_succ hx
    have hle : (akM q (l1.take k)).length ≤ 1048576 := by
      have := filt_len (p := agK q) (l1.take k); have := List.length_take_le k l1; simp only [akM]; omega
    have fg := fits_get (a := y.m) (b := q.m) (by omega) (by omega)
    have z1 : ((0 : Int) ≤ y.m) = True := eq_true (by omega)
    have z2 : (y.m < 6) = True := eq_true (by omega)
    have z3 : ((0 : Int) ≤ q.m) = True := eq_true (by omega)
    have z4 : (q.m < 6) = True := eq_true (by omega)
    cases e1 : (y.s.toList == q.s.toList)
    · (repeat' (first | refine awp_seq ?_ | refine awp_block ?_ | refine awp_skip ?_ | refine awp_exit ?_ | ((first | refine rR (fun K kp hK hkp => ?_) | refine rD (id := 6) mixed 22 [0,1,2,3,4,5,6,7,8,9,10,11,12,13,14,15,16,17,18,19,20,21] (fun K kp hK hkp => ?_) | refine iG ?_ | refine iD ?_); simp (implicitDefEqProofs := false) (maxSteps := 2000000) (disch := omega) only [go_sem, hx, eK, e1]; (repeat' (first | (refine hK _ ?_; clear hK hkp kp K) | (with_reducible refine And.intro ?_ ?_) | omega))) | ((first | refine aG (fun h => ?_) (fun h => ?_) | refine aD (fun h => ?_) (fun h => ?_) | refine aX (fun h => ?_) (fun h => ?_)) <;> simp only [h]) | refine awp_cond_t rfl ?_ | refine awp_cond_f rfl ?_ | ((refine awp_cond rfl (fun h => ?_) (fun h => ?_) <;> try simp only [ifs] at h) <;> (try (exfalso; omega))) | refine awp_ret ?_))
      ((first | (refine nextB (k + 1) ?_ ?_ ?_) | (refine nextA (k + 1) ?_ ?_ ?_) | (refine nextE (k + 1) ?_ ?_ ?_)); rotate_left; (· (try dsimp only); (first | omega | (simp only [List.length_drop, List.length_cons, List.length_append]; omega) | (simp; done) | (simp; omega))); (· (refine emb [0, 1, 2] ?_ ?_ rfl ?_ ?_ ?_ ?_ <;> simp [okM, okO, lk, ren, renL, renNd, by_, hE, eK, ht, agK, e1] <;> (try omega) <;> (try (intro i hi; first | (rcases (by omega : i = 0 ∨ i = 1 ∨ i = 2) with rfl | rfl | rfl <;> rfl) | (rcases (by omega : i = 0 ∨ i = 1) with rfl | rfl <;> rfl))))))
      omega
    cases e2 : (y.t != q.t)
    · (repeat' (first | refine awp_seq ?_ | refine awp_block ?_ | refine awp_skip ?_ | refine awp_exit ?_ | ((first | refine rR (fun K kp hK hkp => ?_) | refine rD (id := 6) mixed 22 [0,1,2,3,4,5,6,7,8,9,10,11,12,13,14,15,16,17,18,19,20,21] (fun K kp hK hkp => ?_) | refine iG ?_ | refine iD ?_); simp (implicitDefEqProofs := false) (maxSteps := 2000000) (disch := omega) only [go_sem, hx, eK, e1, e2]; (repeat' (first | (refine hK _ ?_; clear hK hkp kp K) | (with_reducible refine And.intro ?_ ?_) | omega))) | ((first | refine aG (fun h => ?_) (fun h => ?_) | refine aD (fun h => ?_) (fun h => ?_) | refine aX (fun h => ?_) (fun h => ?_)) <;> simp only [h]) | refine awp_cond_t rfl ?_ | refine awp_cond_f rfl ?_ | ((refine awp_cond rfl (fun h => ?_) (fun h => ?_) <;> try simp only [ifs] at h) <;> (try (exfalso; omega))) | refine awp_ret ?_))
      ((first | (refine nextB (k + 1) ?_ ?_ ?_) | (refine nextA (k + 1) ?_ ?_ ?_) | (refine nextE (k + 1) ?_ ?_ ?_)); rotate_left; (· (try dsimp only); (first | omega | (simp only [List.length_drop, List.length_cons, List.length_append]; omega) | (simp; done) | (simp; omega))); (· (refine emb [0, 1, 2] ?_ ?_ rfl ?_ ?_ ?_ ?_ <;> simp [okM, okO, lk, ren, renL, renNd, by_, hE, eK, ht, agK, e1, e2] <;> (try omega) <;> (try (intro i hi; first | (rcases (by omega : i = 0 ∨ i = 1 ∨ i = 2) with rfl | rfl | rfl <;> rfl) | (rcases (by omega : i = 0 ∨ i = 1) with rfl | rfl <;> rfl))))))
      omega
    cases e3 : fitB y.m q.m
    · rw [e3] at fg
      (repeat' (first | refine awp_seq ?_ | refine awp_block ?_ | refine awp_skip ?_ | refine awp_exit ?_ | ((first | refine rR (fun K kp hK hkp => ?_) | refine rD (id := 6) mixed 22 [0,1,2,3,4,5,6,7,8,9,10,11,12,13,14,15,16,17,18,19,20,21] (fun K kp hK hkp => ?_) | refine iG ?_ | refine iD ?_); simp (implicitDefEqProofs := false) (maxSteps := 2000000) (disch := omega) only [go_sem, hx, eK, e1, e2, T.fits, z1, z2, z3, z4, fg]; (repeat' (first | (refine hK _ ?_; clear hK hkp kp K) | (with_reducible refine And.intro ?_ ?_) | omega))) | ((first | refine aG (fun h => ?_) (fun h => ?_) | refine aD (fun h => ?_) (fun h => ?_) | refine aX (fun h => ?_) (fun h => ?_)) <;> simp only [h]) | refine awp_cond_t rfl ?_ | refine awp_cond_f rfl ?_ | ((refine awp_cond rfl (fun h => ?_) (fun h => ?_) <;> try simp only [ifs] at h) <;> (try (exfalso; omega))) | refine awp_ret ?_))
      ((first | (refine nextB (k + 1) ?_ ?_ ?_) | (refine nextA (k + 1) ?_ ?_ ?_) | (refine nextE (k + 1) ?_ ?_ ?_)); rotate_left; (· (try dsimp only); (first | omega | (simp only [List.length_drop, List.length_cons, List.length_append]; omega) | (simp; done) | (simp; omega))); (· (refine emb [0, 1, 5] ?_ ?_ rfl ?_ ?_ ?_ ?_ <;> simp [okM, okO, lk, ren, renL, renNd, by_, hE, eK, eI, ht, agK, e1, e2, e3] <;> (try omega) <;> (try (intro i hi; first | (rcases (by omega : i = 0 ∨ i = 1 ∨ i = 2) with rfl | rfl | rfl <;> rfl) | (rcases (by omega : i = 0 ∨ i = 1) with rfl | rfl <;> rfl))))))
      omega
    · rw [e3] at fg
      (repeat' (first | refine awp_seq ?_ | refine awp_block ?_ | refine awp_skip ?_ | refine awp_exit ?_ | ((first | refine rR (fun K kp hK hkp => ?_) | refine rD (id := 6) mixed 22 [0,1,2,3,4,5,6,7,8,9,10,11,12,13,14,15,16,17,18,19,20,21] (fun K kp hK hkp => ?_) | refine iG ?_ | refine iD ?_); simp (implicitDefEqProofs := false) (maxSteps := 2000000) (disch := omega) only [go_sem, hx, eK, e1, e2, T.fits, z1, z2, z3, z4, fg]; (repeat' (first | (refine hK _ ?_; clear hK hkp kp K) | (with_reducible refine And.intro ?_ ?_) | omega))) | ((first | refine aG (fun h => ?_) (fun h => ?_) | refine aD (fun h => ?_) (fun h => ?_) | refine aX (fun h => ?_) (fun h => ?_)) <;> simp only [h]) | refine awp_cond_t rfl ?_ | refine awp_cond_f rfl ?_ | ((refine awp_cond rfl (fun h => ?_) (fun h => ?_) <;> try simp only [ifs] at h) <;> (try (exfalso; omega))) | refine awp_ret ?_))
      ((first | (refine nextB (k + 1) ?_ ?_ ?_) | (refine nextA (k + 1) ?_ ?_ ?_) | (refine nextE (k + 1) ?_ ?_ ?_)); rotate_left; (· (try dsimp only); (first | omega | (simp only [List.length_drop, List.length_cons, List.length_append]; omega) | (simp; done) | (simp; omega))); (· (refine emb [0, 1, 2] ?_ ?_ rfl ?_ ?_ ?_ ?_ <;> simp [okM, okO, lk, ren, renL, renNd, by_, hE, eK, ht, agK, e1, e2, e3] <;> (try omega) <;> (try (intro i hi; first | (rcases (by omega : i = 0 ∨ i = 1 ∨ i = 2) with rfl | rfl | rfl <;> rfl) | (rcases (by omega : i = 0 ∨ i = 1) with rfl | rfl <;> rfl))))))
      omega
  · obtain rfl : k = l1.length := by omega
    have mm := Go.Proofs.YteebiklebedneaaDoor.modeM_mem (t := q.t) (s := q.s) hm
    have HW : akM q (l1.take l1.length) = agM q l1 := by rw [List.take_length, akM_eq hq hm]
    rw [HW]
    have fc := find_con E.G t1 l1 n1 q.t q.s
    have hle : (agM q l1).length ≤ 1048576 := by have := filt_len (p := agR q) l1; simp only [agM] at this ⊢; omega
    by_cases e2 : 0 ≤ findM q.t q.s l1
    · have MZ : modeM q.t q.s l1 ≠ 0 := by rcases mm with h | h <;> omega
      have d2 : decide (findM q.t q.s l1 < 0) = false := decide_eq_false (by omega)
      have W : wfM l1 l2 i q = agM q l1 := by rw [wfM, if_neg MZ, List.append_nil]
      rw [W]
      (repeat' (first | refine awp_seq ?_ | refine awp_block ?_ | refine awp_skip ?_ | refine awp_exit ?_ | ((first | refine rR (fun K kp hK hkp => ?_) | refine rD (id := 6) mixed 22 [0,1,2,3,4,5,6,7,8,9,10,11,12,13,14,15,16,17,18,19,20,21] (fun K kp hK hkp => ?_) | refine cR fc ?_ | refine cD fc ?_ | refine iG ?_ | refine iD ?_); simp (implicitDefEqProofs := false) (maxSteps := 2000000) (disch := omega) only [go_sem, eK, d2]; (repeat' (first | (refine hK _ ?_; clear hK hkp kp K) | (with_reducible refine And.intro ?_ ?_) | omega))) | ((first | refine aG (fun h => ?_) (fun h => ?_) | refine aD (fun h => ?_) (fun h => ?_) | refine aX (fun h => ?_) (fun h => ?_)) <;> simp only [h]) | refine awp_cond_t rfl ?_ | refine awp_cond_f rfl ?_ | ((refine awp_cond rfl (fun h => ?_) (fun h => ?_) <;> try simp only [ifs] at h) <;> (try (exfalso; omega))) | refine awp_ret ?_))
      (refine retA_is (by (simp (implicitDefEqProofs := false) (maxSteps := 2000000) (disch := omega) only [go_sem, Go.Proofs.Tryd.results56]); rfl) ?_; refine (embV [2] ?_ ?_ ?_ ?_ ?_ ?_).s <;> simp [oneA, okO, lk, ren, renL, renNd, by_, hE] <;> (try (intro i hi; first | (rcases (by omega : i = 0 ∨ i = 1 ∨ i = 2) with rfl | rfl | rfl <;> rfl) | (rcases (by omega : i = 0 ∨ i = 1) with rfl | rfl <;> rfl))))
    · have MZ : modeM q.t q.s l1 = 0 := by rcases mm with h | h <;> omega
      have d2 : decide (findM q.t q.s l1 < 0) = true := decide_eq_true (by omega)
      have W : wfM l1 l2 i q = agM q l1 ++ ahM q (l2.take i) := by rw [wfM, if_pos MZ]
      rw [W]
      (repeat' (first | refine awp_seq ?_ | refine awp_block ?_ | refine awp_skip ?_ | refine awp_exit ?_ | ((first | refine rR (fun K kp hK hkp => ?_) | refine rD (id := 6) mixed 22 [0,1,2,3,4,5,6,7,8,9,10,11,12,13,14,15,16,17,18,19,20,21] (fun K kp hK hkp => ?_) | refine cR fc ?_ | refine cD fc ?_ | refine iG ?_ | refine iD ?_); simp (implicitDefEqProofs := false) (maxSteps := 2000000) (disch := omega) only [go_sem, eK, d2]; (repeat' (first | (refine hK _ ?_; clear hK hkp kp K) | (with_reducible refine And.intro ?_ ?_) | omega))) | ((first | refine aG (fun h => ?_) (fun h => ?_) | refine aD (fun h => ?_) (fun h => ?_) | refine aX (fun h => ?_) (fun h => ?_)) <;> simp only [h]) | refine awp_cond_t rfl ?_ | refine awp_cond_f rfl ?_ | ((refine awp_cond rfl (fun h => ?_) (fun h => ?_) <;> try simp only [ifs] at h) <;> (try (exfalso; omega))) | refine awp_ret ?_))
      have h62 : (l2.take i).length = i := by rw [List.length_take]; omega
      refine awp_loop (fun k : Nat => ⟨[(64, .r (.int .i64 k)), (63, .r (.int .i64 i)), (62, .ro t2 3 ((l2.take i).map eK)), (6, .s 2 0 (agM q l1 ++ ahM q (l2.take k)).length), (5, .p 1 0 0), (2, .p 0 0 0), (1, .r (.int .i64 i))], [(0, .box 41 [.ro t1 3 (l1.map eK), .ro t2 3 (l2.map eK)]), (1, .box 82 (eK q)), (2, .lst 3 1 ((agM q l1 ++ ahM q (l2.take k)).map eI))], 3⟩) (fun k => k ≤ i) (fun k => i - k) 0 ?_ ?_ ?_
      · simp
      · (refine emb [0, 1, 2] ?_ ?_ rfl ?_ ?_ ?_ ?_ <;> simp [okM, okO, lk, ren, renL, renNd, by_, hE, eK, ahM, h62, List.map_take] <;> (try omega) <;> (try (intro i hi; first | (rcases (by omega : i = 0 ∨ i = 1 ∨ i = 2) with rfl | rfl | rfl <;> rfl) | (rcases (by omega : i = 0 ∨ i = 1) with rfl | rfl <;> rfl))))
      intro k hk
      by_cases hlt : k < i
      · obtain ⟨y, hx⟩ : ∃ x, l2[k]? = some x := ⟨l2[k], by simp [show k < l2.length by omega]⟩
        have hx' : (l2.take i)[k]? = some y := by rw [List.getElem?_take_of_lt hlt]; exact hx
        have ht : ahM q (l2.take (k + 1)) = ahM q (l2.take k) ++ (if sameT q y = true then [y.t] else []) := filt_succ hx
        have hle2 : (ahM q (l2.take k)).length ≤ 1048576 := by
          have := filt_len (p := sameT q) (l2.take k); have := List.length_take_le k l2; simp only [ahM] at this ⊢; omega
        have hap : (agM q l1 ++ ahM q (l2.take k)).length = (agM q l1).length + (ahM q (l2.take k)).length := List.length_append
        cases e1 : (y.s.toList == q.s.toList)
        · (repeat' (first | refine awp_seq ?_ | refine awp_block ?_ | refine awp_skip ?_ | refine awp_exit ?_ | ((first | refine rR (fun K kp hK hkp => ?_) | refine rD (id := 6) mixed 22 [0,1,2,3,4,5,6,7,8,9,10,11,12,13,14,15,16,17,18,19,20,21] (fun K kp hK hkp => ?_) | refine iG ?_ | refine iD ?_); simp (implicitDefEqProofs := false) (maxSteps := 2000000) (disch := omega) only [go_sem, hx', eK, e1]; (repeat' (first | (refine hK _ ?_; clear hK hkp kp K) | (with_reducible refine And.intro ?_ ?_) | omega))) | ((first | refine aG (fun h => ?_) (fun h => ?_) | refine aD (fun h => ?_) (fun h => ?_) | refine aX (fun h => ?_) (fun h => ?_)) <;> simp only [h]) | refine awp_cond_t rfl ?_ | refine awp_cond_f rfl ?_ | ((refine awp_cond rfl (fun h => ?_) (fun h => ?_) <;> try simp only [ifs] at h) <;> (try (exfalso; omega))) | refine awp_ret ?_))
          ((first | (refine nextB (k + 1) ?_ ?_ ?_) | (refine nextA (k + 1) ?_ ?_ ?_) | (refine nextE (k + 1) ?_ ?_ ?_)); rotate_left; (· (try dsimp only); (first | omega | (simp only [List.length_drop, List.length_cons, List.length_append]; omega) | (simp; done) | (simp; omega))); (· (refine emb [0, 1, 2] ?_ ?_ rfl ?_ ?_ ?_ ?_ <;> simp [okM, okO, lk, ren, renL, renNd, by_, hE, eK, ht, sameT, e1] <;> (try omega) <;> (try (intro i hi; first | (rcases (by omega : i = 0 ∨ i = 1 ∨ i = 2) with rfl | rfl | rfl <;> rfl) | (rcases (by omega : i = 0 ∨ i = 1) with rfl | rfl <;> rfl))))))
          omega
        · (repeat' (first | refine awp_seq ?_ | refine awp_block ?_ | refine awp_skip ?_ | refine awp_exit ?_ | ((first | refine rR (fun K kp hK hkp => ?_) | refine rD (id := 6) mixed 22 [0,1,2,3,4,5,6,7,8,9,10,11,12,13,14,15,16,17,18,19,20,21] (fun K kp hK hkp => ?_) | refine iG ?_ | refine iD ?_); simp (implicitDefEqProofs := false) (maxSteps := 2000000) (disch := omega) only [go_sem, hx', eK, e1]; (repeat' (first | (refine hK _ ?_; clear hK hkp kp K) | (with_reducible refine And.intro ?_ ?_) | omega))) | ((first | refine aG (fun h => ?_) (fun h => ?_) | refine aD (fun h => ?_) (fun h => ?_) | refine aX (fun h => ?_) (fun h => ?_)) <;> simp only [h]) | refine awp_cond_t rfl ?_ | refine awp_cond_f rfl ?_ | ((refine awp_cond rfl (fun h => ?_) (fun h => ?_) <;> try simp only [ifs] at h) <;> (try (exfalso; omega))) | refine awp_ret ?_))
          ((first | (refine nextB (k + 1) ?_ ?_ ?_) | (refine nextA (k + 1) ?_ ?_ ?_) | (refine nextE (k + 1) ?_ ?_ ?_)); rotate_left; (· (try dsimp only); (first | omega | (simp only [List.length_drop, List.length_cons, List.length_append]; omega) | (simp; done) | (simp; omega))); (· (refine emb [0, 1, 5] ?_ ?_ rfl ?_ ?_ ?_ ?_ <;> simp [okM, okO, lk, ren, renL, renNd, by_, hE, eK, eI, ht, sameT, e1, take_appm] <;> (try omega) <;> (try (intro i hi; first | (rcases (by omega : i = 0 ∨ i = 1 ∨ i = 2) with rfl | rfl | rfl <;> rfl) | (rcases (by omega : i = 0 ∨ i = 1) with rfl | rfl <;> rfl))))))
          omega
      · obtain rfl : k = i := by omega
        (repeat' (first | refine awp_seq ?_ | refine awp_block ?_ | refine awp_skip ?_ | refine awp_exit ?_ | ((first | refine rR (fun K kp hK hkp => ?_) | refine rD (id := 6) mixed 22 [0,1,2,3,4,5,6,7,8,9,10,11,12,13,14,15,16,17,18,19,20,21] (fun K kp hK hkp => ?_) | refine iG ?_ | refine iD ?_); simp (implicitDefEqProofs := false) (maxSteps := 2000000) (disch := omega) only [go_sem]; (repeat' (first | (refine hK _ ?_; clear hK hkp kp K) | (with_reducible refine And.intro ?_ ?_) | omega))) | ((first | refine aG (fun h => ?_) (fun h => ?_) | refine aD (fun h => ?_) (fun h => ?_) | refine aX (fun h => ?_) (fun h => ?_)) <;> simp only [h]) | refine awp_cond_t rfl ?_ | refine awp_cond_f rfl ?_ | ((refine awp_cond rfl (fun h => ?_) (fun h => ?_) <;> try simp only [ifs] at h) <;> (try (exfalso; omega))) | refine awp_ret ?_))
        (refine retA_is (by (simp (implicitDefEqProofs := false) (maxSteps := 2000000) (disch := omega) only [go_sem, Go.Proofs.Tryd.results56]); rfl) ?_; refine (embV [2] ?_ ?_ ?_ ?_ ?_ ?_).s <;> simp [oneA, okO, lk, ren, renL, renNd, by_, hE] <;> (try (intro i hi; first | (rcases (by omega : i = 0 ∨ i = 1 ∨ i = 2) with rfl | rfl | rfl <;> rfl) | (rcases (by omega : i = 0 ∨ i = 1) with rfl | rfl <;> rfl))))
end Go.AM
/- Locks: for whom what stands at a place of the queue waits: the reference's side. -/
namespace Go.AM
open Go Go.RowKit
open Go.Proofs.YteebiklebedneaaDoor (LK SlAt LksAt TabFits TabJoins fitB joinB modeB shapeM findM agK agR agM ahM wfM modeM firstM lockGood chkM isK sameT sameX fitsL joinsL fittingM)
attribute [local irreducible] AWP retA
set_option maxRecDepth 100000 in
set_option maxHeartbeats 4000000 in
theorem against_con (G : List (Nat × List Value)) (t : Bool) (l : List LK) (x : LK) (hl : l.length ≤ 1048576) : Con Go.Proofs.Tryd.prog G 86 [.ro t 3 (l.map eK), .agg (eK x)] [] 0 (Is (.s 0 0 (agM x l).length) [(0, .lst 3 1 ((agM x l).map eI))] 1) No := by
  refine con_of_awp Go.Proofs.Tryd.func86 rfl (by kernel_rfl) (of_decide_eq_true (by kernel_rfl)) ?_; intro E hG hE; subst hG; simp only [ent]
  (repeat' (first | refine awp_seq ?_ | refine awp_block ?_ | refine awp_skip ?_ | refine awp_exit ?_ | ((first | refine rR (fun K kp hK hkp => ?_) | refine rD (id := 5) mixed 29 [0,1,2,3,4,5,6,7,8,9,10,11,12,13,14,15,16,17,18,19,20,21,22,23,24,25,26,27,28] (fun K kp hK hkp => ?_) | refine iG ?_ | refine iD ?_); simp (implicitDefEqProofs := false) (maxSteps := 2000000) (disch := omega) only [go_sem, eK]; (repeat' (first | (refine hK _ ?_; clear hK hkp kp K) | (with_reducible refine And.intro ?_ ?_) | omega))) | ((first | refine aG (fun h => ?_) (fun h => ?_) | refine aD (fun h => ?_) (fun h => ?_) | refine aX (fun h => ?_) (fun h => ?_)) <;> simp only [h]) | refine awp_cond_t rfl ?_ | refine awp_cond_f rfl ?_ | ((refine awp_cond rfl (fun h => ?_) (fun h => ?_) <;> try simp only [ifs] at h) <;> (try (exfalso; omega))) | refine awp_ret ?_))
  (refine AWP.emb (emb_nil 5 3 1 ?_) ?_; (· rfl); dsimp only)
  refine awp_loop (fun k : Nat => ⟨[(6, .r (.int .i64 k)), (5, .s 1 0 (agM x (l.take k)).length), (0, .ro t 3 (l.map eK)), (3, .p 0 0 0)], [(0, .box 82 (eK x)), (1, .lst 3 1 ((agM x (l.take k)).map eI))], 2⟩) (fun k => k ≤ l.length) (fun k => l.length - k) 0 ?_ ?_ ?_
  · simp
  · (refine emb [0, 1] ?_ ?_ rfl ?_ ?_ ?_ ?_ <;> simp [okM, okO, lk, ren, renL, renNd, by_, hE, eK, agM] <;> (try omega) <;> (try (intro i hi; first | (rcases (by omega : i = 0 ∨ i = 1 ∨ i = 2) with rfl | rfl | rfl <;> rfl) | (rcases (by omega : i = 0 ∨ i = 1) with rfl | rfl <;> rfl))))
  intro k hk
  by_cases hk' : k < l.length
  · obtain ⟨y, hx⟩ : ∃ x, l[k]? = some x := ⟨l[k], by simp [hk']⟩
    have ht : agM x (l.take (k + 1)) = agM x (l.take k) ++ (if agR x y = true then [y.t] else []) := filt_succ hx
    have hle : (agM x (l.take k)).length ≤ 1048576 := by
      have := filt_len (p := agR x) (l.take k); have := List.length_take_le k l; simp only [agM] at this ⊢; omega
    cases h1 : (y.s.toList == x.s.toList)
    · (repeat' (first | refine awp_seq ?_ | refine awp_block ?_ | refine awp_skip ?_ | refine awp_exit ?_ | ((first | refine rR (fun K kp hK hkp => ?_) | refine rD (id := 5) mixed 29 [0,1,2,3,4,5,6,7,8,9,10,11,12,13,14,15,16,17,18,19,20,21,22,23,24,25,26,27,28] (fun K kp hK hkp => ?_) | refine iG ?_ | refine iD ?_); simp (implicitDefEqProofs := false) (maxSteps := 2000000) (disch := omega) only [go_sem, hx, eK, h1]; (repeat' (first | (refine hK _ ?_; clear hK hkp kp K) | (with_reducible refine And.intro ?_ ?_) | omega))) | ((first | refine aG (fun h => ?_) (fun h => ?_) | refine aD (fun h => ?_) (fun h => ?_) | refine aX (fun h => ?_) (fun h => ?_)) <;> simp only [h]) | refine awp_cond_t rfl ?_ | refine awp_cond_f rfl ?_ | ((refine awp_cond rfl (fun h => ?_) (fun h => ?_) <;> try simp only [ifs] at h) <;> (try (exfalso; omega))) | refine awp_ret ?_))
      ((first | (refine nextB (k + 1) ?_ ?_ ?_) | (refine nextA (k + 1) ?_ ?_ ?_) | (refine nextE (k + 1) ?_ ?_ ?_)); rotate_left; (· (try dsimp only); (first | omega | (simp only [List.length_drop, List.length_cons, List.length_append]; omega) | (simp; done) | (simp; omega))); (· (refine emb [0, 1] ?_ ?_ rfl ?_ ?_ ?_ ?_ <;> simp [okM, okO, lk, ren, renL, renNd, by_, hE, eK, ht, agR, h1] <;> (try omega) <;> (try (intro i hi; first | (rcases (by omega : i = 0 ∨ i = 1 ∨ i = 2) with rfl | rfl | rfl <;> rfl) | (rcases (by omega : i = 0 ∨ i = 1) with rfl | rfl <;> rfl))))))
      omega
    cases h2 : (y.t != x.t)
    · (repeat' (first | refine awp_seq ?_ | refine awp_block ?_ | refine awp_skip ?_ | refine awp_exit ?_ | ((first | refine rR (fun K kp hK hkp => ?_) | refine rD (id := 5) mixed 29 [0,1,2,3,4,5,6,7,8,9,10,11,12,13,14,15,16,17,18,19,20,21,22,23,24,25,26,27,28] (fun K kp hK hkp => ?_) | refine iG ?_ | refine iD ?_); simp (implicitDefEqProofs := false) (maxSteps := 2000000) (disch := omega) only [go_sem, hx, eK, h1, h2]; (repeat' (first | (refine hK _ ?_; clear hK hkp kp K) | (with_reducible refine And.intro ?_ ?_) | omega))) | ((first | refine aG (fun h => ?_) (fun h => ?_) | refine aD (fun h => ?_) (fun h => ?_) | refine aX (fun h => ?_) (fun h => ?_)) <;> simp only [h]) | refine awp_cond_t rfl ?_ | refine awp_cond_f rfl ?_ | ((refine awp_cond rfl (fun h => ?_) (fun h => ?_) <;> try simp only [ifs] at h) <;> (try (exfalso; omega))) | refine awp_ret ?_))
      ((first | (refine nextB (k + 1) ?_ ?_ ?_) | (refine nextA (k + 1) ?_ ?_ ?_) | (refine nextE (k + 1) ?_ ?_ ?_)); rotate_left; (· (try dsimp only); (first | omega | (simp only [List.length_drop, List.length_cons, List.length_append]; omega) | (simp; done) | (simp; omega))); (· (refine emb [0, 1] ?_ ?_ rfl ?_ ?_ ?_ ?_ <;> simp [okM, okO, lk, ren, renL, renNd, by_, hE, eK, ht, agR, h1, h2] <;> (try omega) <;> (try (intro i hi; first | (rcases (by omega : i = 0 ∨ i = 1 ∨ i = 2) with rfl | rfl | rfl <;> rfl) | (rcases (by omega : i = 0 ∨ i = 1) with rfl | rfl <;> rfl))))))
      omega
    · cases h3 : fittingM y.m x.m
      · have fc := fitting_con E.G y.m x.m
        rw [h3] at fc
        (repeat' (first | refine awp_seq ?_ | refine awp_block ?_ | refine awp_skip ?_ | refine awp_exit ?_ | ((first | refine rR (fun K kp hK hkp => ?_) | refine rD (id := 5) mixed 29 [0,1,2,3,4,5,6,7,8,9,10,11,12,13,14,15,16,17,18,19,20,21,22,23,24,25,26,27,28] (fun K kp hK hkp => ?_) | refine cR fc ?_ | refine cD fc ?_ | refine iG ?_ | refine iD ?_); simp (implicitDefEqProofs := false) (maxSteps := 2000000) (disch := omega) only [go_sem, hx, eK, h1, h2]; (repeat' (first | (refine hK _ ?_; clear hK hkp kp K) | (with_reducible refine And.intro ?_ ?_) | omega))) | ((first | refine aG (fun h => ?_) (fun h => ?_) | refine aD (fun h => ?_) (fun h => ?_) | refine aX (fun h => ?_) (fun h => ?_)) <;> simp only [h]) | refine awp_cond_t rfl ?_ | refine awp_cond_f rfl ?_ | ((refine awp_cond rfl (fun h => ?_) (fun h => ?_) <;> try simp only [ifs] at h) <;> (try (exfalso; omega))) | refine awp_ret ?_))
        ((first | (refine nextB (k + 1) ?_ ?_ ?_) | (refine nextA (k + 1) ?_ ?_ ?_) | (refine nextE (k + 1) ?_ ?_ ?_)); rotate_left; (· (try dsimp only); (first | omega | (simp only [List.length_drop, List.length_cons, List.length_append]; omega) | (simp; done) | (simp; omega))); (· (refine emb [0, 3] ?_ ?_ rfl ?_ ?_ ?_ ?_ <;> simp [okM, okO, lk, ren, renL, renNd, by_, hE, eK, eI, ht, agR, h1, h2, h3] <;> (try omega) <;> (try (intro i hi; first | (rcases (by omega : i = 0 ∨ i = 1 ∨ i = 2) with rfl | rfl | rfl <;> rfl) | (rcases (by omega : i = 0 ∨ i = 1) with rfl | rfl <;> rfl))))))
        omega
      · have fc := fitting_con E.G y.m x.m
        rw [h3] at fc
        (repeat' (first | refine awp_seq ?_ | refine awp_block ?_ | refine awp_skip ?_ | refine awp_exit ?_ | ((first | refine rR (fun K kp hK hkp => ?_) | refine rD (id := 5) mixed 29 [0,1,2,3,4,5,6,7,8,9,10,11,12,13,14,15,16,17,18,19,20,21,22,23,24,25,26,27,28] (fun K kp hK hkp => ?_) | refine cR fc ?_ | refine cD fc ?_ | refine iG ?_ | refine iD ?_); simp (implicitDefEqProofs := false) (maxSteps := 2000000) (disch := omega) only [go_sem, hx, eK, h1, h2]; (repeat' (first | (refine hK _ ?_; clear hK hkp kp K) | (with_reducible refine And.intro ?_ ?_) | omega))) | ((first | refine aG (fun h => ?_) (fun h => ?_) | refine aD (fun h => ?_) (fun h => ?_) | refine aX (fun h => ?_) (fun h => ?_)) <;> simp only [h]) | refine awp_cond_t rfl ?_ | refine awp_cond_f rfl ?_ | ((refine awp_cond rfl (fun h => ?_) (fun h => ?_) <;> try simp only [ifs] at h) <;> (try (exfalso; omega))) | refine awp_ret ?_))
        ((first | (refine nextB (k + 1) ?_ ?_ ?_) | (refine nextA (k + 1) ?_ ?_ ?_) | (refine nextE (k + 1) ?_ ?_ ?_)); rotate_left; (· (try dsimp only); (first | omega | (simp only [List.length_drop, List.length_cons, List.length_append]; omega) | (simp; done) | (simp; omega))); (· (refine emb [0, 1] ?_ ?_ rfl ?_ ?_ ?_ ?_ <;> simp [okM, okO, lk, ren, renL, renNd, by_, hE, eK, ht, agR, h1, h2, h3] <;> (try omega) <;> (try (intro i hi; first | (rcases (by omega : i = 0 ∨ i = 1 ∨ i = 2) with rfl | rfl | rfl <;> rfl) | (rcases (by omega : i = 0 ∨ i = 1) with rfl | rfl <;> rfl))))))
        omega
  · (repeat' (first | refine awp_seq ?_ | refine awp_block ?_ | refine awp_skip ?_ | refine awp_exit ?_ | ((first | refine rR (fun K kp hK hkp => ?_) | refine rD (id := 5) mixed 29 [0,1,2,3,4,5,6,7,8,9,10,11,12,13,14,15,16,17,18,19,20,21,22,23,24,25,26,27,28] (fun K kp hK hkp => ?_) | refine iG ?_ | refine iD ?_); simp (implicitDefEqProofs := false) (maxSteps := 2000000) (disch := omega) only [go_sem]; (repeat' (first | (refine hK _ ?_; clear hK hkp kp K) | (with_reducible refine And.intro ?_ ?_) | omega))) | ((first | refine aG (fun h => ?_) (fun h => ?_) | refine aD (fun h => ?_) (fun h => ?_) | refine aX (fun h => ?_) (fun h => ?_)) <;> simp only [h]) | refine awp_cond_t rfl ?_ | refine awp_cond_f rfl ?_ | ((refine awp_cond rfl (fun h => ?_) (fun h => ?_) <;> try simp only [ifs] at h) <;> (try (exfalso; omega))) | refine awp_ret ?_))
    rw [show l.take k = l from List.take_of_length_le (by omega)]
    (refine retA_is (by (simp (implicitDefEqProofs := false) (maxSteps := 2000000) (disch := omega) only [go_sem, Go.Proofs.Tryd.results86]); rfl) ?_; refine (embV [1] ?_ ?_ ?_ ?_ ?_ ?_).s <;> simp [oneA, okO, lk, ren, renL, renNd, by_, hE] <;> (try (intro i hi; first | (rcases (by omega : i = 0 ∨ i = 1 ∨ i = 2) with rfl | rfl | rfl <;> rfl) | (rcases (by omega : i = 0 ∨ i = 1) with rfl | rfl <;> rfl))))
set_option maxRecDepth 100000 in
set_option maxHeartbeats 4000000 in
theorem aheadOf_con (G : List (Nat × List Value)) (t1 t2 : Bool) (l1 l2 : List LK) (n2 : l2.length ≤ 1048576) (i : Nat) (q : LK) (hi : l2[i]? = some q) :
    Con Go.Proofs.Tryd.prog G 88 [.agg [.ro t1 3 (l1.map eK), .ro t2 3 (l2.map eK)], .r (.int .i64 i)] [] 0 (Is (.ro true 1 ((ahM q (l2.take i)).map eI)) [] 0) No := by
  have hil : i < l2.length := (List.getElem?_eq_some_iff.1 hi).1
  refine con_of_awp Go.Proofs.Tryd.func88 rfl (by kernel_rfl) (of_decide_eq_true (by kernel_rfl)) ?_; intro E hG hE; subst hG; simp only [ent]
  (repeat' (first | refine awp_seq ?_ | refine awp_block ?_ | refine awp_skip ?_ | refine awp_exit ?_ | ((first | refine rR (fun K kp hK hkp => ?_) | refine rD (id := 5) mixed 13 [0,1,2,3,4,5,6,7,8,9,10,11,12] (fun K kp hK hkp => ?_) | refine iG ?_ | refine iD ?_); simp (implicitDefEqProofs := false) (maxSteps := 2000000) (disch := omega) only [go_sem, eK]; (repeat' (first | (refine hK _ ?_; clear hK hkp kp K) | (with_reducible refine And.intro ?_ ?_) | omega))) | ((first | refine aG (fun h => ?_) (fun h => ?_) | refine aD (fun h => ?_) (fun h => ?_) | refine aX (fun h => ?_) (fun h => ?_)) <;> simp only [h]) | refine awp_cond_t rfl ?_ | refine awp_cond_f rfl ?_ | ((refine awp_cond rfl (fun h => ?_) (fun h => ?_) <;> try simp only [ifs] at h) <;> (try (exfalso; omega))) | refine awp_ret ?_))
  (refine AWP.emb (emb_nil 5 3 1 ?_) ?_; (· rfl); dsimp only)
  refine awp_loop (fun k : Nat => ⟨[(6, .r (.int .i64 k)), (5, .s 1 0 (ahM q (l2.take k)).length), (1, .r (.int .i64 i)), (2, .p 0 0 0)], [(0, .box 41 [.ro t1 3 (l1.map eK), .ro t2 3 (l2.map eK)]), (1, .lst 3 1 ((ahM q (l2.take k)).map eI))], 2⟩) (fun k => k ≤ i) (fun k => i - k) 0 ?_ ?_ ?_
  · simp
  · (refine emb [0, 1] ?_ ?_ rfl ?_ ?_ ?_ ?_ <;> simp [okM, okO, lk, ren, renL, renNd, by_, hE, eK, ahM] <;> (try omega) <;> (try (intro i hi; first | (rcases (by omega : i = 0 ∨ i = 1 ∨ i = 2) with rfl | rfl | rfl <;> rfl) | (rcases (by omega : i = 0 ∨ i = 1) with rfl | rfl <;> rfl))))
  intro k hk
  by_cases hk' : k < i
  · obtain ⟨y, hx⟩ : ∃ x, l2[k]? = some x := ⟨l2[k], by simp [show k < l2.length by omega]⟩
    have ht : ahM q (l2.take (k + 1)) = ahM q (l2.take k) ++ (if sameT q y = true then [y.t] else []) := filt_succ hx
    have hle : (ahM q (l2.take k)).length ≤ 1048576 := by
      have := filt_len (p := sameT q) (l2.take k); have := List.length_take_le k l2; simp only [ahM] at this ⊢; omega
    cases h1 : (y.s.toList == q.s.toList)
    · (repeat' (first | refine awp_seq ?_ | refine awp_block ?_ | refine awp_skip ?_ | refine awp_exit ?_ | ((first | refine rR (fun K kp hK hkp => ?_) | refine rD (id := 5) mixed 13 [0,1,2,3,4,5,6,7,8,9,10,11,12] (fun K kp hK hkp => ?_) | refine iG ?_ | refine iD ?_); simp (implicitDefEqProofs := false) (maxSteps := 2000000) (disch := omega) only [go_sem, hx, hi, eK, h1]; (repeat' (first | (refine hK _ ?_; clear hK hkp kp K) | (with_reducible refine And.intro ?_ ?_) | omega))) | ((first | refine aG (fun h => ?_) (fun h => ?_) | refine aD (fun h => ?_) (fun h => ?_) | refine aX (fun h => ?_) (fun h => ?_)) <;> simp only [h]) | refine awp_cond_t rfl ?_ | refine awp_cond_f rfl ?_ | ((refine awp_cond rfl (fun h => ?_) (fun h => ?_) <;> try simp only [ifs] at h) <;> (try (exfalso; omega))) | refine awp_ret ?_))
      ((first | (refine nextB (k + 1) ?_ ?_ ?_) | (refine nextA (k + 1) ?_ ?_ ?_) | (refine nextE (k + 1) ?_ ?_ ?_)); rotate_left; (· (try dsimp only); (first | omega | (simp only [List.length_drop, List.length_cons, List.length_append]; omega) | (simp; done) | (simp; omega))); (· (refine emb [0, 1] ?_ ?_ rfl ?_ ?_ ?_ ?_ <;> simp [okM, okO, lk, ren, renL, renNd, by_, hE, eK, ht, sameT, h1] <;> (try omega) <;> (try (intro i hi; first | (rcases (by omega : i = 0 ∨ i = 1 ∨ i = 2) with rfl | rfl | rfl <;> rfl) | (rcases (by omega : i = 0 ∨ i = 1) with rfl | rfl <;> rfl))))))
      omega
    · (repeat' (first | refine awp_seq ?_ | refine awp_block ?_ | refine awp_skip ?_ | refine awp_exit ?_ | ((first | refine rR (fun K kp hK hkp => ?_) | refine rD (id := 5) mixed 13 [0,1,2,3,4,5,6,7,8,9,10,11,12] (fun K kp hK hkp => ?_) | refine iG ?_ | refine iD ?_); simp (implicitDefEqProofs := false) (maxSteps := 2000000) (disch := omega) only [go_sem, hx, hi, eK, h1]; (repeat' (first | (refine hK _ ?_; clear hK hkp kp K) | (with_reducible refine And.intro ?_ ?_) | omega))) | ((first | refine aG (fun h => ?_) (fun h => ?_) | refine aD (fun h => ?_) (fun h => ?_) | refine aX (fun h => ?_) (fun h => ?_)) <;> simp only [h]) | refine awp_cond_t rfl ?_ | refine awp_cond_f rfl ?_ | ((refine awp_cond rfl (fun h => ?_) (fun h => ?_) <;> try simp only [ifs] at h) <;> (try (exfalso; omega))) | refine awp_ret ?_))
      ((first | (refine nextB (k + 1) ?_ ?_ ?_) | (refine nextA (k + 1) ?_ ?_ ?_) | (refine nextE (k + 1) ?_ ?_ ?_)); rotate_left; (· (try dsimp only); (first | omega | (simp only [List.length_drop, List.length_cons, List.length_append]; omega) | (simp; done) | (simp; omega))); (· (refine emb [0, 3] ?_ ?_ rfl ?_ ?_ ?_ ?_ <;> simp [okM, okO, lk, ren, renL, renNd, by_, hE, eK, eI, ht, sameT, h1] <;> (try omega) <;> (try (intro i hi; first | (rcases (by omega : i = 0 ∨ i = 1 ∨ i = 2) with rfl | rfl | rfl <;> rfl) | (rcases (by omega : i = 0 ∨ i = 1) with rfl | rfl <;> rfl))))))
      omega
  · (repeat' (first | refine awp_seq ?_ | refine awp_block ?_ | refine awp_skip ?_ | refine awp_exit ?_ | ((first | refine rR (fun K kp hK hkp => ?_) | refine rD (id := 5) mixed 13 [0,1,2,3,4,5,6,7,8,9,10,11,12] (fun K kp hK hkp => ?_) | refine iG ?_ | refine iD ?_); simp (implicitDefEqProofs := false) (maxSteps := 2000000) (disch := omega) only [go_sem]; (repeat' (first | (refine hK _ ?_; clear hK hkp kp K) | (with_reducible refine And.intro ?_ ?_) | omega))) | ((first | refine aG (fun h => ?_) (fun h => ?_) | refine aD (fun h => ?_) (fun h => ?_) | refine aX (fun h => ?_) (fun h => ?_)) <;> simp only [h]) | refine awp_cond_t rfl ?_ | refine awp_cond_f rfl ?_ | ((refine awp_cond rfl (fun h => ?_) (fun h => ?_) <;> try simp only [ifs] at h) <;> (try (exfalso; omega))) | refine awp_ret ?_))
    obtain rfl : k = i := by omega
    (refine retA_is (by (simp (implicitDefEqProofs := false) (maxSteps := 2000000) (disch := omega) only [go_sem, Go.Proofs.Tryd.results88]); rfl) ?_; refine embS_frz (by simp only [oneA]; simp (implicitDefEqProofs := false) (maxSteps := 2000000) (disch := omega) only [go_sem]; rfl) ?_; refine (embV_nil hE (by simp) ?_).s; simp [oneA, ren, renL])
set_option maxRecDepth 100000 in
set_option maxHeartbeats 4000000 in
theorem waitsFor_con (G : List (Nat × List Value)) (t1 t2 : Bool) (l1 l2 : List LK) (n1 : l1.length ≤ 1048576) (n2 : l2.length ≤ 1048576) (i : Nat) (q : LK) (hi : l2[i]? = some q) :
    Con Go.Proofs.Tryd.prog G 54 [.agg [.ro t1 3 (l1.map eK), .ro t2 3 (l2.map eK)], .r (.int .i64 i)] [] 0 (Is (.s 0 0 (wfM l1 l2 i q).length) [(0, .lst 3 1 ((wfM l1 l2 i q).map eI))] 1) No := by
  have hil : i < l2.length := (List.getElem?_eq_some_iff.1 hi).1
  have mc := modeOf_con G t1 l1 n1 q.t q.s
  have ac := against_con G t1 l1 q n1
  have hc := aheadOf_con G t1 t2 l1 l2 n2 i q hi
  have h1 : (agM q l1).length ≤ 1048576 := by have := filt_len (p := agR q) l1; simp only [agM] at this ⊢; omega
  have h2 : (ahM q (l2.take i)).length ≤ 1048576 := by
    have := filt_len (p := sameT q) (l2.take i); have := List.length_take_le' i l2; simp only [ahM] at this ⊢; omega
  by_cases hm : modeM q.t q.s l1 = 0
  · have hW : wfM l1 l2 i q = agM q l1 ++ ahM q (l2.take i) := by rw [wfM, if_pos hm]
    rw [hm] at mc
    rw [hW]
    refine con_of_awp Go.Proofs.Tryd.func54 rfl (by kernel_rfl) (of_decide_eq_true (by kernel_rfl)) ?_; intro E hG hE; subst hG; simp only [ent]
    (repeat' (first | refine awp_seq ?_ | refine awp_block ?_ | refine awp_skip ?_ | refine awp_exit ?_ | ((first | refine rR (fun K kp hK hkp => ?_) | refine cR mc ?_ | refine cR ac ?_ | refine cR hc ?_ | refine iG ?_); simp (implicitDefEqProofs := false) (maxSteps := 2000000) (disch := omega) only [go_sem, eK, hi, eI]; (repeat' (first | (refine hK _ ?_; clear hK hkp kp K) | (with_reducible refine And.intro ?_ ?_) | omega))) | ((first | refine aG (fun h => ?_) (fun h => ?_) | refine aD (fun h => ?_) (fun h => ?_) | refine aX (fun h => ?_) (fun h => ?_)) <;> simp only [h]) | refine awp_cond_t rfl ?_ | refine awp_cond_f rfl ?_ | ((refine awp_cond rfl (fun h => ?_) (fun h => ?_) <;> try simp only [ifs] at h) <;> (try (exfalso; omega))) | refine awp_ret ?_))
    (refine retA_is (by (simp (implicitDefEqProofs := false) (maxSteps := 2000000) (disch := omega) only [go_sem, Go.Proofs.Tryd.results54]); rfl) ?_; refine (embV [3] ?_ ?_ ?_ ?_ ?_ ?_).s <;> simp [oneA, okO, lk, ren, renL, renNd, by_, hE] <;> (try (intro i hi; first | (rcases (by omega : i = 0 ∨ i = 1 ∨ i = 2) with rfl | rfl | rfl <;> rfl) | (rcases (by omega : i = 0 ∨ i = 1) with rfl | rfl <;> rfl))))
  · have hW : wfM l1 l2 i q = agM q l1 := by rw [wfM, if_neg hm, List.append_nil]
    have b0 : (modeM q.t q.s l1 == 0) = false := by simpa using hm
    rw [hW]
    refine con_of_awp Go.Proofs.Tryd.func54 rfl (by kernel_rfl) (of_decide_eq_true (by kernel_rfl)) ?_; intro E hG hE; subst hG; simp only [ent]
    (repeat' (first | refine awp_seq ?_ | refine awp_block ?_ | refine awp_skip ?_ | refine awp_exit ?_ | ((first | refine rR (fun K kp hK hkp => ?_) | refine cR mc ?_ | refine cR ac ?_ | refine cR hc ?_ | refine iG ?_); simp (implicitDefEqProofs := false) (maxSteps := 2000000) (disch := omega) only [go_sem, eK, hi, eI, b0]; (repeat' (first | (refine hK _ ?_; clear hK hkp kp K) | (with_reducible refine And.intro ?_ ?_) | omega))) | ((first | refine aG (fun h => ?_) (fun h => ?_) | refine aD (fun h => ?_) (fun h => ?_) | refine aX (fun h => ?_) (fun h => ?_)) <;> simp only [h]) | refine awp_cond_t rfl ?_ | refine awp_cond_f rfl ?_ | ((refine awp_cond rfl (fun h => ?_) (fun h => ?_) <;> try simp only [ifs] at h) <;> (try (exfalso; omega))) | refine awp_ret ?_))
    (refine retA_is (by (simp (implicitDefEqProofs := false) (maxSteps := 2000000) (disch := omega) only [go_sem, Go.Proofs.Tryd.results54]); rfl) ?_; refine (embV [2] ?_ ?_ ?_ ?_ ?_ ?_).s <;> simp [oneA, okO, lk, ren, renL, renNd, by_, hE] <;> (try (intro i hi; first | (rcases (by omega : i = 0 ∨ i = 1 ∨ i = 2) with rfl | rfl | rfl <;> rfl) | (rcases (by omega : i = 0 ∨ i = 1) with rfl | rfl <;> rfl))))
end Go.AM
/- The abstract machine: calls of the library that rewrite one own row of plain cells. -/
namespace Go.AM
open Go Go.RowKit Go.Sort
/-- One own thing, rewritten in its place. -/
theorem mem_one {w w' : World} {own : Nat → Prop} {z : Zone} {G : List (Nat × List Value)} {L : NLoc} {nd nd' : Nd} (hm : Mem ⟨w, own, z, G, [L]⟩ [(0, nd)] 1 [L] z w) (ho : own L.b) (hp : L.ph = false) (hs : w.heap.size ≤ w'.heap.size)
    (hb : ∀ b, b < w.heap.size → b ≠ L.b → w'.heap[b]? = w.heap[b]?) (hy : Sys w w') (hn : NdAt w' z [L] L nd') (hu : nd'.isU = false := by rfl) : Mem ⟨w, own, z, G, [L]⟩ [(0, nd')] 1 [L] z w' := by
  obtain ⟨M, e1, _, e3⟩ := hm.nds 0 nd rfl
  obtain rfl : L = M := by simpa using e1
  obtain ⟨e4, e5, _⟩ := e3 hp
  refine ⟨rfl, fun i x hi => ?_, fun i j x y A B hi hj hA hB _ _ _ => ?_, fun t b hz => Nat.lt_of_lt_of_le (hm.zlt t b hz) hs, hs, fun b hb1 hb2 => hb b hb1 (fun e => hb2 (e ▸ ho)), fun t b h => h, fun b h => .inl h, fun b h => h, fun g cs hg => ?_, fun i M h => h, hy, uls_none (by simp [noUo, hu])⟩
  · simp only [lk] at hi
    by_cases h0 : 0 = i
    · subst h0; rw [if_pos rfl] at hi; cases hi
      exact ⟨L, rfl, hn, fun _ => ⟨Nat.lt_of_lt_of_le e4 hs, e5, .inl ho⟩⟩
    · rw [if_neg h0] at hi; cases hi
  · simp only [lk] at hi hj
    by_cases h0 : 0 = i
    · by_cases h1 : 0 = j
      · omega
      · rw [if_neg h1] at hj; cases hj
    · rw [if_neg h0] at hi; cases hi
  · obtain ⟨h1, h2⟩ := hm.globs g cs hg
    exact ⟨h1, fun j u hu => (cell_heap (hb g (hm.zlt _ _ h1) (fun e => e5 true (e ▸ h1))) j).trans (h2 j u hu)⟩
theorem reps_r {w : World} {z : Zone} {th : List NLoc} : ∀ {us vs : List Value}, Reps w z th (us.map .r) vs → vs = us
  | [], vs, h => h.of_nil
  | u :: r, vs, h => by
    obtain ⟨y, ys, rfl, h1, h2⟩ := h.head
    rw [h1.r_inv, reps_r h2]
theorem putRow_at {α : Type} [Inhabited α] {enc : α → Value} {w : World} {b off n : Nat} {d : Array α} {os : Array Obj} {cells : Array Value} {T : TypeId} {fr : Nat × Nat} (h : w.heap[b]? = some (.cells cells T fr)) :
    (grow (putRow enc (Go.Sort.ahead w n) b off d) os).heap[b]? = some (.cells (putCells enc off d cells) T fr) := by
  have hb : b < w.heap.size := (Array.getElem?_eq_some_iff.1 h).1
  simp only [grow]
  rw [Array.getElem?_append_left (by simpa [putRow, mapBlock] using hb)]
  simp [putRow, mapBlock, Array.getElem?_modify, h, onCells]
theorem putRow_else {α : Type} [Inhabited α] {enc : α → Value} {w : World} {b off n : Nat} {d : Array α} {os : Array Obj} {k : Nat} (hk : k < w.heap.size) (hn : k ≠ b) :
    (grow (putRow enc (Go.Sort.ahead w n) b off d) os).heap[k]? = w.heap[k]? := by
  simp only [grow]
  rw [Array.getElem?_append_left (by simpa [putRow, mapBlock] using hk)]
  simp [putRow, mapBlock, Array.getElem?_modify, Ne.symm hn]
theorem putRow_size {α : Type} [Inhabited α] {enc : α → Value} {w : World} {b off n : Nat} {d : Array α} {os : Array Obj} : w.heap.size ≤ (grow (putRow enc (Go.Sort.ahead w n) b off d) os).heap.size := by
  simp [grow, putRow, mapBlock]
def eEnc {α : Type} (enc : α → Value) (x : α) : List AV := [.r (enc x)]
/-- A call that rewrites an own row of plain cells in its place and gives back a head of it (or what else a function of the slice says). -/
theorem con_put {α : Type} [Inhabited α] {P : Program} {G : List (Nat × List Value)} {f : Nat} {T : TypeId} (hok : okFn P f = true) (enc : α → Value) (h1 : ∀ x, (enc x).oneCell' = true) (us : List Value) (l l' lr : List α) (hl : l'.length = l.length) (hlr : ∀ (i : Nat) y, lr[i]? = some y → l'[i]? = some y) (m : Nat) (hm : m ≤ l.length) (y : AV) (rv : Option Addr → Nat → Value) (hy : (y = .s 0 0 m ∧ rv = fun a c => .slice a m c) ∨ ∃ u, y = .r u ∧ rv = fun _ _ => u)
    (h0 : l = [] → ∀ w, Calls P f (.slice none 0 0 :: us).toArray w fun e w' => e = .returned (rv none 0) ∧ w' = w)
    (h : ∀ (w : World) (b off c : Nat), Holds enc w b off l.toArray → b < w.heap.size → l.length ≤ c → Calls P f (.slice (some ⟨b, off, none⟩) l.length c :: us).toArray w fun e w' => e = .returned (rv (some ⟨b, off, none⟩) c) ∧ ∃ n os, w' = grow (putRow enc (Go.Sort.ahead w n) b off l'.toArray) os) :
    Con P G f (.s 0 0 l.length :: us.map .r) [(0, .lst T 1 (l.map (eEnc enc)))] 1 (Is y [(0, .lst T 1 (lr.map (eEnc enc)))] 1) No := by
  refine ⟨hok, fun w th z own vs ho hmem hr => ?_⟩
  obtain ⟨v, r, rfl, g1, g2⟩ := hr.head
  obtain rfl := reps_r g2
  obtain ⟨L, rfl⟩ : ∃ L, th = [L] := List.length_eq_one_iff.1 hmem.len
  obtain ⟨M, e1, e2, e3⟩ := hmem.nds 0 _ rfl
  obtain rfl : L = M := by simpa using e1
  rcases e2 with ⟨hp, he⟩ | ⟨hp, cells, fr, hb, hf, hk, hsz, hle, hcl⟩
  · have hl0 : l = [] := by simpa using he
    subst hl0
    obtain rfl : l' = [] := List.length_eq_zero_iff.1 (by simpa using hl)
    obtain rfl : m = 0 := by simpa using hm
    obtain rfl : lr = [] := by
      cases lr with
      | nil => rfl
      | cons a r => have := hlr 0 a rfl; simp at this
    have hv : v = .slice none 0 0 := by
      cases g1 with
      | s _ _ _ _ c x M hL hp' => obtain rfl : L = M := by simpa using hL
                                  rw [hp] at hp'; cases hp'
      | sn => rfl
    subst hv
    refine (h0 rfl w).mono ?_
    rintro e w' ⟨rfl, rfl⟩
    refine ⟨_, y, _, 1, [L], z, .inl ⟨rfl, rfl, rfl, rfl⟩, by simpa using hmem, ?_⟩
    rcases hy with ⟨rfl, rfl⟩ | ⟨u, rfl, rfl⟩
    · exact .sn _ 0 0 L rfl hp
    · exact .r _ _
  · have hown : own L.b := ho _ ⟨0, _, L, rfl, rfl, hp, rfl⟩
    have hlt := (e3 hp).1
    obtain ⟨c, x, rfl, hc1, hc2, hx⟩ : ∃ c x, v = .slice (some ⟨L.b, x, none⟩) l.length c ∧ l.length ≤ c ∧ c ≤ L.cap ∧ (0 < c → x = L.o) := by
      generalize hq : l.length = q at g1
      cases g1 with
      | s _ _ _ _ c x M hL hp' h3 h4 h5 =>
        obtain rfl : L = M := by simpa using hL
        exact ⟨c, x, rfl, h3, by omega, fun hc => by simpa using h5 hc⟩
      | sn _ _ _ M hL hp' => obtain rfl : L = M := by simpa using hL
                             rw [hp] at hp'; cases hp'
    have hx' : 0 < l.length → x = L.o := fun hh => hx (by omega)
    have H : Holds enc w L.b x l.toArray := by
      intro j hj
      have hj : j < l.length := by simpa using hj
      obtain rfl := hx' (by omega)
      obtain ⟨_, q2⟩ := hcl j (eEnc enc l[j]) (by rw [List.getElem?_map, List.getElem?_eq_getElem hj]; rfl)
      obtain ⟨y, q3, q4, _⟩ := q2 0 _ rfl
      rw [hk] at q3
      obtain rfl := q4.r_inv
      have q5 : cells[L.o + j]? = some (enc l[j]) := by simpa using q3
      have q6 : L.o + j < cells.size := (Array.getElem?_eq_some_iff.1 q5).1
      refine ⟨?_, ?_⟩
      · simp only [World.cell?, hb]
        simpa [hj] using q5
      · simp only [World.frozen?, hb]
        have := hf (L.o + j) q6
        simpa using this
    refine (h w L.b x c H hlt hc1).mono ?_
    rintro e w' ⟨rfl, n, os, rfl⟩
    have hcell : ∀ j, j < l.length → (putCells enc x l'.toArray cells)[L.o + j]? = (l'[j]?).map enc := by
      intro j hj
      obtain rfl := hx' (by omega)
      have hsz' : L.o + j < cells.size := by rw [hk] at hsz; have : l.length ≤ L.cap := by omega
                                             omega
      simp only [putCells, Array.getElem?_mapIdx, Array.getElem?_eq_getElem hsz', Option.map_some]
      have hj' : j < l'.length := by omega
      rw [if_pos (by simp; omega)]
      simp [show L.o + j - L.o = j by omega, hj']
    have hN : NdAt (grow (putRow enc (Go.Sort.ahead w n) L.b x l'.toArray) os) z [L] L (.lst T 1 (lr.map (eEnc enc))) := by
      have hlen : lr.length ≤ l'.length := by
        rcases Nat.lt_or_ge l'.length lr.length with hh | hh
        · have h1 := hlr l'.length lr[l'.length] (by simp [hh])
          simp at h1
        · exact hh
      refine .inr ⟨hp, _, fr, putRow_at hb, ?_, hk, ?_, ?_, ?_⟩
      · intro i hi; exact hf i (by simpa [putCells] using hi)
      · simpa [putCells] using hsz
      · simp only [List.length_map] at hle ⊢; omega
      · intro i e he
        rw [List.getElem?_map] at he
        obtain ⟨y, hy, rfl⟩ := Option.map_eq_some_iff.1 he
        have hy := hlr i y hy
        refine ⟨by simp [eEnc, hk], fun j a ha => ?_⟩
        have hi : i < l'.length := (List.getElem?_eq_some_iff.1 hy).1
        have hj0 : j = 0 := by
          have := (List.getElem?_eq_some_iff.1 ha).1
          simp [eEnc] at this; omega
        subst hj0
        simp [eEnc] at ha
        subst ha
        refine ⟨enc y, ?_, .r _ _, h1 y⟩
        have := hcell i (by omega)
        rw [hk]
        simpa [hy] using this
    refine ⟨_, y, _, 1, [L], z, .inl ⟨rfl, rfl, rfl, rfl⟩, mem_one hmem hown hp putRow_size (fun b hb1 hb2 => putRow_else hb1 hb2) ⟨rfl, rfl, rfl⟩ hN, ?_⟩
    rcases hy with ⟨rfl, rfl⟩ | ⟨u, rfl, rfl⟩
    · exact .s _ 0 0 m c x L rfl hp (by omega) (by omega) (fun hc => by simpa using hx hc)
    · exact .r _ _
end Go.AM
/-
  DERIVED: THE SHELF's CONTRACTS AT THIS DUMP, IN PLAIN WORDS (tools/lay-plain.mjs out of 'TrydSsShelf.lean', which tools/lay-shelf.mjs wrote): THE SAME DECLARATIONS UNDER THE SAME NAMES: 'import', 'namespace', 'open', 'def', 'theorem' AND NOTHING ELSE: no command of the shelf's: FOR A HAND-IN. Each laying: the table of numbers ('.._ren') and one theorem, a field a fact of the dump's own or the kernel's comparison; each contract: ONE APPLICATION.
-/
namespace Go.Proofs.YteebiklebedneaaDoor
open Go.Shelf
def Sh.lays189_ren : Go.Shelf.Ren := ⟨fun | 189 => 57 | 125 => 90 | 257 => 89 | 128 => 115 | 129 => 116 | 294 => 106 | 295 => 107 | 296 => 108 | 297 => 109 | 298 => 110 | 299 => 111 | 216 => 112 | 300 => 113 | 301 => 114 | 328 => 132 | 329 => 133 | 330 => 134 | 331 => 135 | 332 => 136 | 215 => 137 | 343 => 150 | n => n, fun | 28 => 43 | 3 => 3 | 46 => 120 | 0 => 0 | 51 => 141 | 53 => 59 | 4 => 4 | 183 => 134 | 182 => 133 | 131 => 138 | 5 => 5 | 9 => 9 | 218 => 156 | 222 => 160 | 228 => 175 | 229 => 176 | n => n, fun | n => n⟩
theorem Sh.lays189 : Go.Proofs.Lays.n189 Tryd.prog Sh.lays189_ren := {
  mixed := by kernel_rfl
  f125 := Tryd.func90.trans (congrArg some (by kernel_rfl))
  f128 := Tryd.func115.trans (congrArg some (by kernel_rfl))
  f129 := Tryd.func116.trans (congrArg some (by kernel_rfl))
  f189 := Tryd.func57.trans (congrArg some (by kernel_rfl))
  f215 := Tryd.func137.trans (congrArg some (by kernel_rfl))
  f216 := Tryd.func112.trans (congrArg some (by kernel_rfl))
  f257 := Tryd.func89.trans (congrArg some (by kernel_rfl))
  f294 := Tryd.func106.trans (congrArg some (by kernel_rfl))
  f295 := Tryd.func107.trans (congrArg some (by kernel_rfl))
  f296 := Tryd.func108.trans (congrArg some (by kernel_rfl))
  f297 := Tryd.func109.trans (congrArg some (by kernel_rfl))
  f298 := Tryd.func110.trans (congrArg some (by kernel_rfl))
  f299 := Tryd.func111.trans (congrArg some (by kernel_rfl))
  f300 := Tryd.func113.trans (congrArg some (by kernel_rfl))
  f301 := Tryd.func114.trans (congrArg some (by kernel_rfl))
  f328 := Tryd.func132.trans (congrArg some (by kernel_rfl))
  f329 := Tryd.func133.trans (congrArg some (by kernel_rfl))
  f330 := Tryd.func134.trans (congrArg some (by kernel_rfl))
  f331 := Tryd.func135.trans (congrArg some (by kernel_rfl))
  f332 := Tryd.func136.trans (congrArg some (by kernel_rfl))
  f343 := Tryd.func150.trans (congrArg some (by kernel_rfl))
  t0 := Tryd.underlying0
  a0 := Tryd.isAgg0
  z0 := Tryd.sizeOf0
  v0 := Tryd.zeroValue0
  t3 := Tryd.underlying3
  a3 := Tryd.isAgg3
  z3 := Tryd.sizeOf3
  v3 := Tryd.zeroValue3
  t4 := Tryd.underlying4
  a4 := Tryd.isAgg4
  z4 := Tryd.sizeOf4
  v4 := Tryd.zeroValue4
  t5 := Tryd.underlying5
  a5 := Tryd.isAgg5
  z5 := Tryd.sizeOf5
  v5 := Tryd.zeroValue5
  t9 := Tryd.underlying9
  a9 := Tryd.isAgg9
  z9 := Tryd.sizeOf9
  v9 := Tryd.zeroValue9
  t28 := Tryd.underlying43
  a28 := Tryd.isAgg43
  z28 := Tryd.sizeOf43
  v28 := Tryd.zeroValue43
  t46 := Tryd.underlying120
  a46 := Tryd.isAgg120
  z46 := Tryd.sizeOf120
  v46 := Tryd.zeroValue120
  t51 := Tryd.underlying141
  a51 := Tryd.isAgg141
  z51 := Tryd.sizeOf141
  v51 := Tryd.zeroValue141
  t53 := Tryd.underlying59
  a53 := Tryd.isAgg59
  z53 := Tryd.sizeOf59
  v53 := Tryd.zeroValue59
  t131 := Tryd.underlying138
  a131 := Tryd.isAgg138
  z131 := Tryd.sizeOf138
  v131 := Tryd.zeroValue138
  t182 := Tryd.underlying133
  a182 := Tryd.isAgg133
  z182 := Tryd.sizeOf133
  v182 := Tryd.zeroValue133
  t183 := Tryd.underlying134
  a183 := Tryd.isAgg134
  z183 := Tryd.sizeOf134
  v183 := Tryd.zeroValue134
  t218 := Tryd.underlying156
  a218 := Tryd.isAgg156
  z218 := Tryd.sizeOf156
  v218 := Tryd.zeroValue156
  t222 := Tryd.underlying160
  a222 := Tryd.isAgg160
  z222 := Tryd.sizeOf160
  v222 := Tryd.zeroValue160
  t228 := Tryd.underlying175
  a228 := Tryd.isAgg175
  z228 := Tryd.sizeOf175
  v228 := Tryd.zeroValue175
  t229 := Tryd.underlying176
  a229 := Tryd.isAgg176
  z229 := Tryd.sizeOf176
  v229 := Tryd.zeroValue176 }
open Go.Sort Go.RowKit in
theorem Sh.slices_Sort_int (blk off cap : Nat) (zs : List Int) (w : World) (hH : Holds (Value.int .i64) w blk off zs.toArray) (hblk : blk < w.heap.size) (hsz : zs.length < 4611686018427387904) :
    Calls Tryd.prog 57 #[.slice (some ⟨blk, off, none⟩) zs.length cap] w fun e w' =>
      e = .returned (.tuple #[]) ∧ ∃ n os, w' = grow (putRow (Value.int .i64) (Sort.ahead w n) blk off (zs.mergeSort fun x y => decide (x ≤ y)).toArray) os := Any.slices_Sort_int Sh.lays189 blk off cap zs w hH hblk hsz
def Sh.laysNm220_ren : Go.Shelf.Ren := ⟨fun | 20 => 58 | n => n, fun | 22 => 43 | 3 => 3 | 4 => 4 | 0 => 0 | n => n, fun | n => n⟩
theorem Sh.laysNm220 : Go.Proofs.Lays2.n20 Tryd.prog Sh.laysNm220_ren := {
  mixed := by kernel_rfl
  f20 := Tryd.func58.trans (congrArg some (by kernel_rfl))
  t0 := Tryd.underlying0
  a0 := Tryd.isAgg0
  z0 := Tryd.sizeOf0
  v0 := Tryd.zeroValue0
  t3 := Tryd.underlying3
  a3 := Tryd.isAgg3
  z3 := Tryd.sizeOf3
  v3 := Tryd.zeroValue3
  t4 := Tryd.underlying4
  a4 := Tryd.isAgg4
  z4 := Tryd.sizeOf4
  v4 := Tryd.zeroValue4
  t22 := Tryd.underlying43
  a22 := Tryd.isAgg43
  z22 := Tryd.sizeOf43
  v22 := Tryd.zeroValue43
  i3 := by kernel_rfl }
open Go.RowKit Go.Lib Go.Sort in
/-- slices.Compact at []int: "Compact replaces consecutive runs of equal elements with a single copy. This is like the uniq command found on Unix. Compact modifies the contents of the slice s and returns the modified slice, which may have a smaller length. Compact zeroes the elements between the new length and the original length. The result preserves the nilness of s.": IT RETURNS THE SLICE CUT TO 'Lib.compact zs'; ITS CELLS HOLD 'Lib.compact zs', THEN ZERO VALUES up to the old length; all else is as it was, but for the count of draws. IN THE WORDS OF slices.Sort's CONTRACT ('Holds', 'putRow'): so the everyday 'slices.Sort(xs); xs = slices.Compact(xs)' goes from the one contract to the other. It asks 'zs.length ≤ cap' (every slice's: the reslicing 's[:k]' looks at it). Length 0, nil: '.._empty'. (LAID: no walk: one application.) -/
theorem Sh.slices_Compact_int (blk off cap : Nat) (zs : List Int) (w : World) (hH : Holds (Value.int .i64) w blk off zs.toArray) (hsz : zs.length ≤ 9223372036854775807) (hcap : zs.length ≤ cap) :
    Calls Tryd.prog 58 #[.slice (some ⟨blk, off, none⟩) zs.length cap] w fun e w' => e = .returned (.slice (some ⟨blk, off, none⟩) (Lib.compact zs).length cap) ∧ ∃ q, w' = putRow (Value.int .i64) (Sort.ahead w q) blk off (Lib.compact zs ++ List.replicate (zs.length - (Lib.compact zs).length) 0).toArray := Any.slices_Compact_int Sh.laysNm220 blk off cap zs w hH hsz hcap
open Go.RowKit Go.Lib Go.Sort in
/-- The same at a slice of length 0, a nil one too: it comes back as it is. (LAID: no walk: one application.) -/
theorem Sh.slices_Compact_int_empty (a : Option Addr) (cap : Nat) (w : World) :
    Calls Tryd.prog 58 #[.slice a 0 cap] w fun e w' => e = .returned (.slice a 0 cap) ∧ w' = w := Any.slices_Compact_int_empty Sh.laysNm220 a cap w
open Go.RowKit Go.Sort in
/-- .. and plain. (LAID: no walk: one application.) -/
theorem Sh.slices_Sort_int_none (p : Option Addr) (cap : Nat) (w : World) :
    Calls Tryd.prog 57 #[.slice p 0 cap] w fun e w' => e = .returned (.tuple #[]) ∧ w' = w := Any.slices_Sort_int_none Sh.lays189 p cap w
end Go.Proofs.YteebiklebedneaaDoor
/- The plain law of waits: a sorted list without doubles is one. -/
namespace Go.Proofs.YteebiklebedneaaDoor
open Go.Lib
theorem strict_ext : ∀ {a b : List Int}, a.Pairwise (· < ·) → b.Pairwise (· < ·) → (∀ x, x ∈ a ↔ x ∈ b) → a = b
  | [], [], _, _, _ => rfl
  | [], y :: s, _, _, h => absurd ((h y).2 (by simp)) (by simp)
  | x :: r, [], _, _, h => absurd ((h x).1 (by simp)) (by simp)
  | x :: r, y :: s, ha, hb, h => by
    rw [List.pairwise_cons] at ha hb
    have hxy : x = y := by
      have h1 := (h x).1 (by simp)
      have h2 := (h y).2 (by simp)
      rw [List.mem_cons] at h1 h2
      rcases h1 with h1 | h1
      · exact h1
      · rcases h2 with h2 | h2
        · exact h2.symm
        · have := ha.1 y h2; have := hb.1 x h1; omega
    subst hxy
    congr 1
    refine strict_ext ha.2 hb.2 fun z => ?_
    have := h z
    rw [List.mem_cons, List.mem_cons] at this
    constructor
    · intro hz
      rcases this.1 (.inr hz) with rfl | h3
      · have := ha.1 z hz; omega
      · exact h3
    · intro hz
      rcases this.2 (.inr hz) with rfl | h3
      · have := hb.1 z hz; omega
      · exact h3
theorem compact_upto (d : Array Int) (n : Nat) (hs : ∀ i j, i ≤ j → j < n → d[i]! ≤ d[j]!) : ∀ m, m ≤ n → (compactUpTo d m).Pairwise (· < ·) ∧ ∀ x, x ∈ compactUpTo d m ↔ ∃ j, j < m ∧ d[j]! = x
  | 0, _ => ⟨by simp [compactUpTo], fun x => by simp [compactUpTo]⟩
  | m + 1, hm => by
    obtain ⟨h1, h2⟩ := compact_upto d n hs m (by omega)
    rw [compactUpTo_succ]
    by_cases hk : keeps d m = true
    · rw [if_pos hk]
      simp only [keeps, decide_eq_true_eq] at hk
      refine ⟨?_, fun x => ?_⟩
      · rw [List.pairwise_append]
        refine ⟨h1, by simp, fun a ha b hb => ?_⟩
        obtain ⟨j, hj, rfl⟩ := (h2 a).1 ha
        obtain rfl : b = d[m]! := by simpa using hb
        rcases hk with h0 | hk
        · omega
        · have q1 := hs j (m - 1) (by omega) (by omega)
          have q2 := hs (m - 1) m (by omega) (by omega)
          omega
      · rw [List.mem_append, h2]
        constructor
        · rintro (⟨j, hj, rfl⟩ | hx)
          · exact ⟨j, by omega, rfl⟩
          · exact ⟨m, by omega, (List.mem_singleton.1 hx).symm⟩
        · rintro ⟨j, hj, rfl⟩
          rcases Nat.lt_or_eq_of_le (Nat.le_of_lt_succ hj) with h | rfl
          · exact .inl ⟨j, h, rfl⟩
          · exact .inr (by simp)
    · rw [if_neg hk, List.append_nil]
      simp only [keeps, decide_eq_true_eq, not_or] at hk
      refine ⟨h1, fun x => ?_⟩
      rw [h2]
      constructor
      · rintro ⟨j, hj, rfl⟩; exact ⟨j, by omega, rfl⟩
      · rintro ⟨j, hj, rfl⟩
        rcases Nat.lt_or_eq_of_le (Nat.le_of_lt_succ hj) with h | rfl
        · exact ⟨j, h, rfl⟩
        · exact ⟨j - 1, by omega, by have := hk.2; simp only [ne_eq, Decidable.not_not] at this; exact this.symm⟩
/-- Sorted, each once. -/
def uniqS (ws : List Int) : List Int := compact (ws.mergeSort fun x y => decide (x ≤ y))
theorem uniq_spec (ws : List Int) : (uniqS ws).Pairwise (· < ·) ∧ ∀ x, x ∈ uniqS ws ↔ x ∈ ws := by
  unfold uniqS compact
  have hs := List.pairwise_mergeSort (le := fun (x y : Int) => decide (x ≤ y)) (fun a b c h1 h2 => by simp at h1 h2 ⊢; omega) (fun a b => by simp; omega) ws
  generalize hz : ws.mergeSort (fun x y => decide (x ≤ y)) = zs at hs
  have hm : ∀ x, x ∈ zs ↔ x ∈ ws := fun x => by rw [← hz]; exact List.mem_mergeSort
  have hget : ∀ i, i < zs.length → zs.toArray[i]! = zs.getD i 0 := fun i hi => by
    rw [getElem!_pos zs.toArray i (by simpa using hi), List.getD, List.getElem?_eq_getElem hi]; simp
  obtain ⟨h1, h2⟩ := compact_upto zs.toArray zs.length (fun i j hij hj => by
    rw [hget i (by omega), hget j hj]
    rcases Nat.lt_or_eq_of_le hij with h | rfl
    · have := List.pairwise_iff_getElem.1 hs i j (by omega) hj h
      simp only [List.getD, List.getElem?_eq_getElem (show i < zs.length by omega), List.getElem?_eq_getElem hj, Option.getD_some]
      simpa using this
    · exact Int.le_refl _) zs.length (Nat.le_refl _)
  refine ⟨h1, fun x => ?_⟩
  rw [h2, ← hm]
  constructor
  · rintro ⟨j, hj, rfl⟩
    rw [hget j hj, List.getD, List.getElem?_eq_getElem hj]
    exact List.getElem_mem hj
  · intro hx
    obtain ⟨j, hj, rfl⟩ := List.mem_iff_getElem.1 hx
    exact ⟨j, hj, by rw [hget j hj, List.getD, List.getElem?_eq_getElem hj]; rfl⟩
theorem uniq_of {r ws : List Int} (h1 : r.Pairwise (· < ·)) (h2 : ∀ x, x ∈ r ↔ x ∈ ws) : r = uniqS ws :=
  strict_ext h1 (uniq_spec ws).1 fun x => (h2 x).trans ((uniq_spec ws).2 x).symm
end Go.Proofs.YteebiklebedneaaDoor
/- Rows of numbers: sorted, each once; the program's Waits. -/
namespace Go.AM
open Go Go.RowKit
open Go.Proofs.YteebiklebedneaaDoor (LK SlAt LksAt TabFits TabJoins fitB joinB modeB shapeM findM agK agR agM ahM wfM modeM firstM lockGood chkM isK sameT sameX fitsL joinsL fittingM uniqS uniq_spec uniq_of)
attribute [local irreducible] AWP retA
theorem sortI_con (G : List (Nat × List Value)) (l : List Int) (hl : l.length ≤ 4194304) : Con Go.Proofs.Tryd.prog G 57 [.s 0 0 l.length] [(0, .lst 3 1 (l.map eI))] 1 (Is (.r (.tuple #[])) [(0, .lst 3 1 ((l.mergeSort fun x y => decide (x ≤ y)).map eI))] 1) No :=
  con_put (P := Go.Proofs.Tryd.prog) (by kernel_rfl) (Value.int .i64) (fun _ => rfl) [] l (l.mergeSort fun x y => decide (x ≤ y)) _ (by simp) (fun _ _ h => h) 0 (Nat.zero_le _) (.r (.tuple #[])) (fun _ _ => .tuple #[]) (.inr ⟨_, rfl, rfl⟩)
    (fun _ w => Go.Proofs.YteebiklebedneaaDoor.Sh.slices_Sort_int_none none 0 w)
    (fun w b off c H hb hc => Go.Proofs.YteebiklebedneaaDoor.Sh.slices_Sort_int b off c l w H hb (by omega))
theorem compactUpTo_le (d : Array Int) : ∀ m, (Lib.compactUpTo d m).length ≤ m
  | 0 => by simp [Lib.compactUpTo]
  | m + 1 => by
    have := compactUpTo_le d m
    rw [Lib.compactUpTo_succ]
    split <;> simp <;> omega
theorem compact_le (zs : List Int) : (Lib.compact zs).length ≤ zs.length := by
  have := compactUpTo_le zs.toArray zs.toArray.size
  simpa [Lib.compact] using this
theorem compactI_con (G : List (Nat × List Value)) (l : List Int) (hl : l.length ≤ 4194304) : Con Go.Proofs.Tryd.prog G 58 [.s 0 0 l.length] [(0, .lst 3 1 (l.map eI))] 1 (Is (.s 0 0 (Lib.compact l).length) [(0, .lst 3 1 ((Lib.compact l).map eI))] 1) No :=
  con_put (P := Go.Proofs.Tryd.prog) (by kernel_rfl) (Value.int .i64) (fun _ => rfl) [] l (Lib.compact l ++ List.replicate (l.length - (Lib.compact l).length) 0) _ (by have := compact_le l; simp; omega)
    (fun i y h => by rw [List.getElem?_append_left (List.getElem?_eq_some_iff.1 h).1]; exact h) _ (compact_le l) _ (fun a c => .slice a (Lib.compact l).length c) (.inl ⟨rfl, rfl⟩)
    (fun h w => by subst h; exact Go.Proofs.YteebiklebedneaaDoor.Sh.slices_Compact_int_empty none 0 w)
    (fun w b off c H hb hc => (Go.Proofs.YteebiklebedneaaDoor.Sh.slices_Compact_int b off c l w H (by omega) hc).mono (fun e w' ⟨h1, q, h2⟩ => ⟨h1, q, #[], by rw [h2, Go.Sort.grow_empty]⟩))
/-- For whom each waits, by the queue. -/
def rowM (l1 l2 : List LK) (i : Nat) : List Int := match l2[i]? with
  | some q => uniqS (wfM l1 l2 i q)
  | none => []
def rowsM (l1 l2 : List LK) (k : Nat) : List (List Int) := (List.range k).map (rowM l1 l2)
theorem rowM_at {l1 l2 : List LK} {i : Nat} {q : LK} (h : l2[i]? = some q) : rowM l1 l2 i = uniqS (wfM l1 l2 i q) := by simp only [rowM, h]
theorem rowsM_succ (l1 l2 : List LK) (k : Nat) : rowsM l1 l2 (k + 1) = rowsM l1 l2 k ++ [rowM l1 l2 k] := by simp [rowsM, List.range_succ]
theorem rowsM_len (l1 l2 : List LK) (k : Nat) : (rowsM l1 l2 k).length = k := by simp [rowsM]
theorem wfM_len (l1 l2 : List LK) (i : Nat) (q : LK) : (wfM l1 l2 i q).length ≤ l1.length + l2.length := by
  have h1 := filt_len (p := agR q) l1
  have h2 := filt_len (p := sameT q) (l2.take i)
  have h3 := List.length_take_le' i l2
  unfold wfM
  rw [List.length_append]
  simp only [agM, ahM] at h1 h2 ⊢
  split
  · omega
  · simp only [List.length_nil]; omega
theorem uniq_len (l : List Int) : (uniqS l).length ≤ l.length := by
  unfold uniqS
  have := compact_le (l.mergeSort fun x y => decide (x ≤ y))
  simpa using this
theorem rowM_len (l1 l2 : List LK) (i : Nat) : (rowM l1 l2 i).length ≤ l1.length + l2.length := by
  unfold rowM
  split
  · exact Nat.le_trans (uniq_len _) (wfM_len _ _ _ _)
  · simp
theorem good_modes {l1 l2 : List LK} (h : lockGood l1 l2) : (∀ y ∈ l1, modeB y.m = true) ∧ ∀ (i : Nat) q, l2[i]? = some q → modeB q.m = true :=
  ⟨fun y hy => (Go.Proofs.YteebiklebedneaaDoor.shape_mode (h.2.1 y hy)).1, fun i q hi => (Go.Proofs.YteebiklebedneaaDoor.shape_mode (h.2.2.2 i q hi).1).1⟩
set_option maxRecDepth 100000 in
set_option maxHeartbeats 8000000 in
theorem Waits_good {G : List (Nat × List Value)} (T : TabsL G) (t1 t2 : Bool) (l1 l2 : List LK) (o1 : okKs l1) (o2 : okKs l2) (hg : lockGood l1 l2) :
    Con Go.Proofs.Tryd.prog G 24 [.agg [.ro t1 3 (l1.map eK), .ro t2 3 (l2.map eK)]] [] 0 (Is (.tup [.ro true 1 ((rowsM l1 l2 l2.length).map eIs), .r (.int .i64 0)]) [] 0) No := by
  have cc := check_con T t1 t2 l1 l2 o1 o2
  rw [Go.Proofs.YteebiklebedneaaDoor.chk_yes hg] at cc
  obtain ⟨m1, m2⟩ := good_modes hg
  refine con_of_awp Go.Proofs.Tryd.func24 rfl (by kernel_rfl) (of_decide_eq_true (by kernel_rfl)) ?_; intro E hG hE; subst hG; simp only [ent]
  (repeat' (first | refine awp_seq ?_ | refine awp_block ?_ | refine awp_skip ?_ | refine awp_exit ?_ | ((first | refine rR (fun K kp hK hkp => ?_) | refine cR cc ?_ | refine iG ?_); simp (implicitDefEqProofs := false) (maxSteps := 2000000) (disch := omega) only [go_sem, eK]; (repeat' (first | (refine hK _ ?_; clear hK hkp kp K) | (with_reducible refine And.intro ?_ ?_) | omega))) | ((first | refine aG (fun h => ?_) (fun h => ?_) | refine aD (fun h => ?_) (fun h => ?_) | refine aX (fun h => ?_) (fun h => ?_)) <;> simp only [h]) | refine awp_cond_t rfl ?_ | refine awp_cond_f rfl ?_ | ((refine awp_cond rfl (fun h => ?_) (fun h => ?_) <;> try simp only [ifs] at h) <;> (try (exfalso; omega))) | refine awp_ret ?_))
  (refine AWP.emb (emb_nil 5 43 1 ?_) ?_; (· rfl); dsimp only)
  refine awp_loop (fun k : Nat => ⟨[(16, .r (.int .i64 k)), (15, .r (.int .i64 l2.length)), (5, .s 1 0 k), (1, .p 0 0 0)], [(0, .box 41 [.ro t1 3 (l1.map eK), .ro t2 3 (l2.map eK)]), (1, .lst 43 1 ((rowsM l1 l2 k).map eIs))], 2⟩) (fun k => k ≤ l2.length) (fun k => l2.length - k) 0 ?_ ?_ ?_
  · simp
  · (refine emb [0, 1] ?_ ?_ rfl ?_ ?_ ?_ ?_ <;> simp [okM, okO, lk, ren, renL, renNd, by_, hE, rowsM] <;> (try omega) <;> (try (intro i hi; first | (rcases (by omega : i = 0 ∨ i = 1 ∨ i = 2) with rfl | rfl | rfl <;> rfl) | (rcases (by omega : i = 0 ∨ i = 1) with rfl | rfl <;> rfl))))
  intro k hk
  have hR := rowsM_len l1 l2 k
  have htk : ((rowsM l1 l2 k).map eIs).take k = (rowsM l1 l2 k).map eIs := List.take_of_length_le (by simp [hR])
  by_cases hlt : k < l2.length
  · obtain ⟨q, hx⟩ : ∃ x, l2[k]? = some x := ⟨l2[k], by simp [hlt]⟩
    have hS := rowsM_succ l1 l2 k
    have wc := waits_con T t1 t2 l1 l2 o1.1 o2.1 k q hx (m2 k q hx) m1
    have hw := wfM_len l1 l2 k q
    have hw1 := o1.1
    have hw2 := o2.1
    have sc := sortI_con E.G (wfM l1 l2 k q) (by omega)
    have kc := compactI_con E.G ((wfM l1 l2 k q).mergeSort fun x y => decide (x ≤ y)) (by simp; omega)
    rw [show ((wfM l1 l2 k q).mergeSort fun x y => decide (x ≤ y)).length = (wfM l1 l2 k q).length by simp] at kc
    rw [rowM_at hx] at hS
    rw [show Lib.compact ((wfM l1 l2 k q).mergeSort fun x y => decide (x ≤ y)) = uniqS (wfM l1 l2 k q) from rfl] at kc
    (repeat' (first | refine awp_seq ?_ | refine awp_block ?_ | refine awp_skip ?_ | refine awp_exit ?_ | ((first | refine rR (fun K kp hK hkp => ?_) | refine cR wc ?_ | refine iG ?_); simp (implicitDefEqProofs := false) (maxSteps := 2000000) (disch := omega) only [go_sem, eK]; (repeat' (first | (refine hK _ ?_; clear hK hkp kp K) | (with_reducible refine And.intro ?_ ?_) | omega))) | ((first | refine aG (fun h => ?_) (fun h => ?_) | refine aD (fun h => ?_) (fun h => ?_) | refine aX (fun h => ?_) (fun h => ?_)) <;> simp only [h]) | refine awp_cond_t rfl ?_ | refine awp_cond_f rfl ?_ | ((refine awp_cond rfl (fun h => ?_) (fun h => ?_) <;> try simp only [ifs] at h) <;> (try (exfalso; omega))) | refine awp_ret ?_))
    (refine callR_own [2] (sc) ?_ ?_ ?_ ?_ ?_ ?_ ?_ ?_ rfl rfl ?_; (· simp [pasL, pas, idx, bor, borL, borC, lk]); (· simp [okO, lk, renNd, renL, ren, by_]); (· (intro i hi; simp only [List.length_cons, List.length_nil] at hi; repeat' (first | omega | exact ⟨_, rfl⟩ | (rcases i with _ | i)))); (· simp); (· simp); (· simp); (· simp); (· simp); simp only [mapO, fw, rmL, rm, List.map_cons, List.map_nil, List.foldl_cons, List.foldl_nil, List.getElem?_cons_zero, List.getElem?_cons_succ, List.getElem?_nil, List.length_cons, List.length_nil, Nat.zero_add, Nat.sub_self, Nat.add_zero, ↓reduceIte, Nat.reduceEqDiff, reduceCtorEq, Nat.reduceAdd, Nat.reduceSub, List.cons_append, List.nil_append, ren, renL, renNd]; simp (implicitDefEqProofs := false) (maxSteps := 2000000) (disch := omega) only [go_sem]; (repeat' (first | (refine hK _ ?_; clear hK hkp kp K) | (with_reducible refine And.intro ?_ ?_) | omega)))
    (repeat' (first | refine awp_seq ?_ | refine awp_block ?_ | refine awp_skip ?_ | refine awp_exit ?_ | ((first | refine rR (fun K kp hK hkp => ?_) | refine iG ?_); simp (implicitDefEqProofs := false) (maxSteps := 2000000) (disch := omega) only [go_sem, eK]; (repeat' (first | (refine hK _ ?_; clear hK hkp kp K) | (with_reducible refine And.intro ?_ ?_) | omega))) | ((first | refine aG (fun h => ?_) (fun h => ?_) | refine aD (fun h => ?_) (fun h => ?_) | refine aX (fun h => ?_) (fun h => ?_)) <;> simp only [h]) | refine awp_cond_t rfl ?_ | refine awp_cond_f rfl ?_ | ((refine awp_cond rfl (fun h => ?_) (fun h => ?_) <;> try simp only [ifs] at h) <;> (try (exfalso; omega))) | refine awp_ret ?_))
    (refine callR_own [2] (kc) ?_ ?_ ?_ ?_ ?_ ?_ ?_ ?_ rfl rfl ?_; (· simp [pasL, pas, idx, bor, borL, borC, lk]); (· simp [okO, lk, renNd, renL, ren, by_]); (· (intro i hi; simp only [List.length_cons, List.length_nil] at hi; repeat' (first | omega | exact ⟨_, rfl⟩ | (rcases i with _ | i)))); (· simp); (· simp); (· simp); (· simp); (· simp); simp only [mapO, fw, rmL, rm, List.map_cons, List.map_nil, List.foldl_cons, List.foldl_nil, List.getElem?_cons_zero, List.getElem?_cons_succ, List.getElem?_nil, List.length_cons, List.length_nil, Nat.zero_add, Nat.sub_self, Nat.add_zero, ↓reduceIte, Nat.reduceEqDiff, reduceCtorEq, Nat.reduceAdd, Nat.reduceSub, List.cons_append, List.nil_append, ren, renL, renNd]; simp (implicitDefEqProofs := false) (maxSteps := 2000000) (disch := omega) only [go_sem]; (repeat' (first | (refine hK _ ?_; clear hK hkp kp K) | (with_reducible refine And.intro ?_ ?_) | omega)))
    (repeat' (first | refine awp_seq ?_ | refine awp_block ?_ | refine awp_skip ?_ | refine awp_exit ?_ | ((first | refine rR (fun K kp hK hkp => ?_) | refine iG ?_); simp (implicitDefEqProofs := false) (maxSteps := 2000000) (disch := omega) only [go_sem, eK]; (repeat' (first | (refine hK _ ?_; clear hK hkp kp K) | (with_reducible refine And.intro ?_ ?_) | omega))) | ((first | refine aG (fun h => ?_) (fun h => ?_) | refine aD (fun h => ?_) (fun h => ?_) | refine aX (fun h => ?_) (fun h => ?_)) <;> simp only [h]) | refine awp_cond_t rfl ?_ | refine awp_cond_f rfl ?_ | ((refine awp_cond rfl (fun h => ?_) (fun h => ?_) <;> try simp only [ifs] at h) <;> (try (exfalso; omega))) | refine awp_ret ?_))
    ((first | (refine nextB (k + 1) ?_ ?_ ?_) | (refine nextA (k + 1) ?_ ?_ ?_) | (refine nextE (k + 1) ?_ ?_ ?_)); rotate_left; (· (try dsimp only); (first | omega | (simp only [List.length_drop, List.length_cons, List.length_append]; omega) | (simp; done) | (simp; omega))); (· (refine emb [0, 4] ?_ ?_ rfl ?_ ?_ ?_ ?_ <;> simp [okM, okO, lk, ren, renL, renNd, by_, hE, hS, htk, eIs] <;> (try omega) <;> (try (intro i hi; first | (rcases (by omega : i = 0 ∨ i = 1 ∨ i = 2) with rfl | rfl | rfl <;> rfl) | (rcases (by omega : i = 0 ∨ i = 1) with rfl | rfl <;> rfl))))))
    omega
  · obtain rfl : k = l2.length := by omega
    (repeat' (first | refine awp_seq ?_ | refine awp_block ?_ | refine awp_skip ?_ | refine awp_exit ?_ | ((first | refine rR (fun K kp hK hkp => ?_) | refine iG ?_); simp (implicitDefEqProofs := false) (maxSteps := 2000000) (disch := omega) only [go_sem]; (repeat' (first | (refine hK _ ?_; clear hK hkp kp K) | (with_reducible refine And.intro ?_ ?_) | omega))) | ((first | refine aG (fun h => ?_) (fun h => ?_) | refine aD (fun h => ?_) (fun h => ?_) | refine aX (fun h => ?_) (fun h => ?_)) <;> simp only [h]) | refine awp_cond_t rfl ?_ | refine awp_cond_f rfl ?_ | ((refine awp_cond rfl (fun h => ?_) (fun h => ?_) <;> try simp only [ifs] at h) <;> (try (exfalso; omega))) | refine awp_ret ?_))
    (refine retA_is (by (simp (implicitDefEqProofs := false) (maxSteps := 2000000) (disch := omega) only [go_sem, Go.Proofs.Tryd.results24, htk]); rfl) ?_; refine embS_frz (by simp only [oneA]; simp (implicitDefEqProofs := false) (maxSteps := 2000000) (disch := omega) only [go_sem, htk]; rfl) ?_; refine (embV_nil hE (by simp) ?_).s; simp [oneA, ren, renL, htk])
end Go.AM
/- Locks: the reference's WaitsOf. -/
namespace Go.AM
open Go Go.RowKit
open Go.Proofs.YteebiklebedneaaDoor (LK SlAt LksAt TabFits TabJoins fitB joinB modeB shapeM findM agK agR agM ahM wfM modeM firstM lockGood chkM isK sameT sameX fitsL joinsL fittingM uniqS uniq_spec uniq_of)
attribute [local irreducible] AWP retA
/-- The least above one, as the reference finds it. -/
def stepL (last acc x : Int) : Int := if x > last ∧ (acc = 0 ∨ x < acc) then x else acc
def leastF (last : Int) : Int → List Int → Int
  | acc, [] => acc
  | acc, x :: r => leastF last (stepL last acc x) r
/-- What the accumulator is, all numbers being above nought. -/
def okAcc (last acc : Int) (seen : List Int) : Prop := (acc = 0 ∧ ∀ x ∈ seen, x ≤ last) ∨ (acc ∈ seen ∧ last < acc ∧ ∀ x ∈ seen, last < x → acc ≤ x)
theorem okAcc_step {last acc x : Int} {seen : List Int} (h0 : 0 ≤ last) (h : okAcc last acc seen) : okAcc last (stepL last acc x) (seen ++ [x]) := by
  unfold stepL
  rcases h with ⟨rfl, h⟩ | ⟨h1, h2, h3⟩
  · by_cases hx : x > last
    · rw [if_pos ⟨hx, .inl rfl⟩]
      refine .inr ⟨by simp, hx, fun y hy hl => ?_⟩
      rcases List.mem_append.1 hy with hy | hy
      · have := h y hy; omega
      · simp at hy; omega
    · rw [if_neg (fun n => hx n.1)]
      refine .inl ⟨rfl, fun y hy => ?_⟩
      rcases List.mem_append.1 hy with hy | hy
      · exact h y hy
      · simp at hy; omega
  · by_cases hx : x > last ∧ (acc = 0 ∨ x < acc)
    · rw [if_pos hx]
      refine .inr ⟨by simp, hx.1, fun y hy hl => ?_⟩
      rcases List.mem_append.1 hy with hy | hy
      · have := h3 y hy hl; rcases hx.2 with h4 | h4 <;> omega
      · simp at hy; omega
    · rw [if_neg hx]
      refine .inr ⟨by simp [h1], h2, fun y hy hl => ?_⟩
      rcases List.mem_append.1 hy with hy | hy
      · exact h3 y hy hl
      · simp at hy; subst hy
        rcases Int.lt_or_le y acc with h | h
        · exact absurd ⟨hl, .inr h⟩ hx
        · exact h
/-- How far the reference is with a row. -/
structure RowAt (ws row : List Int) (last : Int) : Prop where
  up : row.Pairwise (· < ·)
  lo : 0 ≤ last
  mem : ∀ x, x ∈ row ↔ x ∈ ws ∧ x ≤ last
theorem rowAt_nil {ws : List Int} (h : ∀ x ∈ ws, 1 ≤ x) : RowAt ws [] 0 := ⟨by simp, Int.le_refl _, fun x => by
  constructor
  · intro h; cases h
  · rintro ⟨h1, h2⟩; have := h x h1; omega⟩
theorem rowAt_more {ws row : List Int} {last a : Int} (h : RowAt ws row last) (ha : okAcc last a ws) (h0 : a ≠ 0) : RowAt ws (row ++ [a]) a := by
  rcases ha with ⟨h1, _⟩ | ⟨h1, h2, h3⟩
  · exact absurd h1 h0
  · refine ⟨?_, by have := h.lo; omega, fun x => ?_⟩
    · rw [List.pairwise_append]
      refine ⟨h.up, by simp, fun x hx b hb => ?_⟩
      simp at hb; subst hb
      have := ((h.mem x).1 hx).2; omega
    · rw [List.mem_append, h.mem]
      constructor
      · rintro (⟨q1, q2⟩ | hx)
        · exact ⟨q1, by omega⟩
        · simp at hx; subst hx; exact ⟨h1, Int.le_refl _⟩
      · rintro ⟨q1, q2⟩
        by_cases hl : x ≤ last
        · exact .inl ⟨q1, hl⟩
        · have := h3 x q1 (by omega)
          exact .inr (by simp; omega)
theorem rowAt_end {ws row : List Int} {last : Int} (h : RowAt ws row last) (ha : okAcc last 0 ws) (hp : ∀ x ∈ ws, 1 ≤ x) : row = uniqS ws := by
  refine uniq_of h.up fun x => ?_
  rw [h.mem]
  refine ⟨fun h => h.1, fun hx => ⟨hx, ?_⟩⟩
  rcases ha with ⟨_, h1⟩ | ⟨h1, _, _⟩
  · exact h1 x hx
  · have := hp 0 h1; omega
def above (ws : List Int) (last : Int) : Nat := (ws.filter fun x => decide (last < x)).length
theorem above_less {ws : List Int} {last a : Int} (h1 : a ∈ ws) (h2 : last < a) : above ws a < above ws last := by
  unfold above
  induction ws with
  | nil => cases h1
  | cons x r ih =>
    have hle : ∀ r : List Int, (r.filter fun x => decide (a < x)).length ≤ (r.filter fun x => decide (last < x)).length := by
      intro r
      induction r with
      | nil => simp
      | cons y s ih => simp only [List.filter_cons, decide_eq_true_eq]; split <;> split <;> (try simp only [List.length_cons]) <;> omega
    rcases List.mem_cons.1 h1 with rfl | h
    · have := hle r
      simp only [List.filter_cons, decide_eq_true_eq]
      rw [if_neg (by omega), if_pos h2]
      simp; omega
    · have := ih h
      simp only [List.filter_cons, decide_eq_true_eq]
      split <;> split <;> (try simp only [List.length_cons]) <;> omega
theorem wf_pos {l1 l2 : List LK} (hg : lockGood l1 l2) {i : Nat} {q : LK} : ∀ x ∈ wfM l1 l2 i q, 1 ≤ x := by
  have h1 : ∀ y ∈ l1, 1 ≤ y.t := fun y hy => (Go.Proofs.YteebiklebedneaaDoor.shape_mode (hg.2.1 y hy)).2.1
  have h2 : ∀ y ∈ l2, 1 ≤ y.t := fun y hy => by
    obtain ⟨k, hk⟩ := List.mem_iff_getElem?.1 hy
    exact (Go.Proofs.YteebiklebedneaaDoor.shape_mode (hg.2.2.2 k y hk).1).2.1
  intro x hx
  unfold wfM at hx
  rcases List.mem_append.1 hx with hx | hx
  · obtain ⟨y, hy, rfl⟩ := List.mem_map.1 hx
    exact h1 y (List.mem_filter.1 hy).1
  · split at hx
    · obtain ⟨y, hy, rfl⟩ := List.mem_map.1 hx
      exact h2 y (List.mem_of_mem_take (List.mem_filter.1 hy).1)
    · cases hx
set_option maxRecDepth 100000 in
set_option maxHeartbeats 16000000 in
theorem WaitsOf_good (G : List (Nat × List Value)) (t1 t2 : Bool) (l1 l2 : List LK) (o1 : okKs l1) (o2 : okKs l2) (hg : lockGood l1 l2) :
    Con Go.Proofs.Tryd.prog G 25 [.agg [.ro t1 3 (l1.map eK), .ro t2 3 (l2.map eK)]] [] 0 (Is (.tup [.ro true 1 ((rowsM l1 l2 l2.length).map eIs), .r (.int .i64 0)]) [] 0) No := by
  have cc := locksFault_con G t1 t2 l1 l2 o1 o2
  rw [Go.Proofs.YteebiklebedneaaDoor.chk_yes hg] at cc
  refine con_of_awp Go.Proofs.Tryd.func25 rfl (by kernel_rfl) (of_decide_eq_true (by kernel_rfl)) ?_; intro E hG hE; subst hG; simp only [ent]
  (repeat' (first | refine awp_seq ?_ | refine awp_block ?_ | refine awp_skip ?_ | refine awp_exit ?_ | ((first | refine rR (fun K kp hK hkp => ?_) | refine cR cc ?_ | refine iG ?_); simp (implicitDefEqProofs := false) (maxSteps := 2000000) (disch := omega) only [go_sem, eK]; (repeat' (first | (refine hK _ ?_; clear hK hkp kp K) | (with_reducible refine And.intro ?_ ?_) | omega))) | ((first | refine aG (fun h => ?_) (fun h => ?_) | refine aD (fun h => ?_) (fun h => ?_) | refine aX (fun h => ?_) (fun h => ?_)) <;> simp only [h]) | refine awp_cond_t rfl ?_ | refine awp_cond_f rfl ?_ | ((refine awp_cond rfl (fun h => ?_) (fun h => ?_) <;> try simp only [ifs] at h) <;> (try (exfalso; omega))) | refine awp_ret ?_))
  (refine AWP.emb (emb_nil 5 43 1 ?_) ?_; (· rfl); dsimp only)
  refine awp_loop (fun k : Nat => ⟨[(6, .r (.int .i64 k)), (5, .s 1 0 k), (1, .p 0 0 0)], [(0, .box 41 [.ro t1 3 (l1.map eK), .ro t2 3 (l2.map eK)]), (1, .lst 43 1 ((rowsM l1 l2 k).map eIs))], 2⟩) (fun k => k ≤ l2.length) (fun k => l2.length - k) 0 ?_ ?_ ?_
  · simp
  · (refine emb [0, 1] ?_ ?_ rfl ?_ ?_ ?_ ?_ <;> simp [okM, okO, lk, ren, renL, renNd, by_, hE, rowsM] <;> (try omega) <;> (try (intro i hi; first | (rcases (by omega : i = 0 ∨ i = 1 ∨ i = 2) with rfl | rfl | rfl <;> rfl) | (rcases (by omega : i = 0 ∨ i = 1) with rfl | rfl <;> rfl))))
  intro k hk
  have hR := rowsM_len l1 l2 k
  have htk : ((rowsM l1 l2 k).map eIs).take k = (rowsM l1 l2 k).map eIs := List.take_of_length_le (by simp [hR])
  by_cases hlt : k < l2.length
  · obtain ⟨q, hx⟩ : ∃ x, l2[k]? = some x := ⟨l2[k], by simp [hlt]⟩
    have hS := rowsM_succ l1 l2 k
    rw [rowM_at hx] at hS
    have wc := waitsFor_con E.G t1 t2 l1 l2 o1.1 o2.1 k q hx
    have hw := wfM_len l1 l2 k q
    have hw1 := o1.1
    have hw2 := o2.1
    have hp := wf_pos hg (i := k) (q := q)
    obtain ⟨ws, hws⟩ : ∃ ws, wfM l1 l2 k q = ws := ⟨_, rfl⟩
    rw [hws] at wc hw hS hp
    (repeat' (first | refine awp_seq ?_ | refine awp_block ?_ | refine awp_skip ?_ | refine awp_exit ?_ | ((first | refine rR (fun K kp hK hkp => ?_) | refine cR wc ?_ | refine iG ?_); simp (implicitDefEqProofs := false) (maxSteps := 2000000) (disch := omega) only [go_sem, eK]; (repeat' (first | (refine hK _ ?_; clear hK hkp kp K) | (with_reducible refine And.intro ?_ ?_) | omega))) | ((first | refine aG (fun h => ?_) (fun h => ?_) | refine aD (fun h => ?_) (fun h => ?_) | refine aX (fun h => ?_) (fun h => ?_)) <;> simp only [h]) | refine awp_cond_t rfl ?_ | refine awp_cond_f rfl ?_ | ((refine awp_cond rfl (fun h => ?_) (fun h => ?_) <;> try simp only [ifs] at h) <;> (try (exfalso; omega))) | refine awp_ret ?_))
    (refine AWP.emb (emb_nil 8 3 1 ?_) ?_; (· rfl); dsimp only)
    refine awp_loop (fun d : List Int × Int => ⟨[(9, .r (.int .i64 d.2)), (8, .s 3 0 d.1.length), (7, .s 2 0 ws.length), (6, .r (.int .i64 k)), (5, .s 1 0 k), (1, .p 0 0 0)], [(0, .box 41 [.ro t1 3 (l1.map eK), .ro t2 3 (l2.map eK)]), (1, .lst 43 1 ((rowsM l1 l2 k).map eIs)), (2, .lst 3 1 (ws.map eI)), (3, .lst 3 1 (d.1.map eI))], 4⟩) (fun d => RowAt ws d.1 d.2 ∧ d.1.length + above ws d.2 ≤ ws.length) (fun d => above ws d.2) ([], 0) ?_ ?_ ?_
    · exact ⟨rowAt_nil hp, by simp only [List.length_nil, Nat.zero_add, above]; exact List.length_filter_le _ _⟩
    · (refine emb [0, 1, 2, 3] ?_ ?_ rfl ?_ ?_ ?_ ?_ <;> simp [okM, okO, lk, ren, renL, renNd, by_, hE] <;> (try omega) <;> (try (intro i hi; first | (rcases (by omega : i = 0 ∨ i = 1 ∨ i = 2) with rfl | rfl | rfl <;> rfl) | (rcases (by omega : i = 0 ∨ i = 1) with rfl | rfl <;> rfl))))
    rintro ⟨row, last⟩ ⟨hrow, hlen⟩
    simp only at hrow hlen ⊢
    (repeat' (first | refine awp_seq ?_ | refine awp_block ?_ | refine awp_skip ?_ | refine awp_exit ?_ | ((first | refine rR (fun K kp hK hkp => ?_) | refine iG ?_); simp (implicitDefEqProofs := false) (maxSteps := 2000000) (disch := omega) only [go_sem]; (repeat' (first | (refine hK _ ?_; clear hK hkp kp K) | (with_reducible refine And.intro ?_ ?_) | omega))) | ((first | refine aG (fun h => ?_) (fun h => ?_) | refine aD (fun h => ?_) (fun h => ?_) | refine aX (fun h => ?_) (fun h => ?_)) <;> simp only [h]) | refine awp_cond_t rfl ?_ | refine awp_cond_f rfl ?_ | ((refine awp_cond rfl (fun h => ?_) (fun h => ?_) <;> try simp only [ifs] at h) <;> (try (exfalso; omega))) | refine awp_ret ?_))
    refine awp_loop (fun d : Nat × Int => ⟨[(11, .r (.int .i64 d.1)), (10, .r (.int .i64 d.2)), (9, .r (.int .i64 last)), (8, .s 3 0 row.length), (7, .s 2 0 ws.length), (6, .r (.int .i64 k)), (5, .s 1 0 k), (1, .p 0 0 0)], [(0, .box 41 [.ro t1 3 (l1.map eK), .ro t2 3 (l2.map eK)]), (1, .lst 43 1 ((rowsM l1 l2 k).map eIs)), (2, .lst 3 1 (ws.map eI)), (3, .lst 3 1 (row.map eI))], 4⟩) (fun d => d.1 ≤ ws.length ∧ okAcc last d.2 (ws.take d.1)) (fun d => ws.length - d.1) (0, 0) ?_ ?_ ?_
    · exact ⟨Nat.zero_le _, .inl ⟨rfl, by simp⟩⟩
    · (refine emb [0, 1, 2, 3] ?_ ?_ rfl ?_ ?_ ?_ ?_ <;> simp [okM, okO, lk, ren, renL, renNd, by_, hE] <;> (try omega) <;> (try (intro i hi; first | (rcases (by omega : i = 0 ∨ i = 1 ∨ i = 2) with rfl | rfl | rfl <;> rfl) | (rcases (by omega : i = 0 ∨ i = 1) with rfl | rfl <;> rfl))))
    rintro ⟨i, acc⟩ ⟨hi, hacc⟩
    simp only at hi hacc ⊢
    by_cases hil : i < ws.length
    · obtain ⟨x, hxi⟩ : ∃ x, ws[i]? = some x := ⟨ws[i], by simp [hil]⟩
      have hok := okAcc_step (x := x) hrow.lo hacc
      rw [show ws.take i ++ [x] = ws.take (i + 1) by rw [List.take_add_one, hxi]; rfl] at hok
      have d5 : ((i : Int) < (ws.length : Int)) = True := eq_true (by omega)
      cases e1 : decide (x > last)
      · have hst : stepL last acc x = acc := by rw [stepL, if_neg (fun n => by simp at e1; omega)]
        (repeat' (first | refine awp_seq ?_ | refine awp_block ?_ | refine awp_skip ?_ | refine awp_exit ?_ | ((first | refine rR (fun K kp hK hkp => ?_) | refine iG ?_); simp (implicitDefEqProofs := false) (maxSteps := 2000000) (disch := omega) only [go_sem, hxi, eI, d5, e1]; (repeat' (first | (refine hK _ ?_; clear hK hkp kp K) | (with_reducible refine And.intro ?_ ?_) | omega))) | ((first | refine aG (fun h => ?_) (fun h => ?_) | refine aD (fun h => ?_) (fun h => ?_) | refine aX (fun h => ?_) (fun h => ?_)) <;> simp only [h]) | refine awp_cond_t rfl ?_ | refine awp_cond_f rfl ?_ | ((refine awp_cond rfl (fun h => ?_) (fun h => ?_) <;> try simp only [ifs] at h) <;> (try (exfalso; omega))) | refine awp_ret ?_))
        ((first | (refine nextB ((i + 1, acc)) ?_ ?_ ?_) | (refine nextA ((i + 1, acc)) ?_ ?_ ?_) | (refine nextE ((i + 1, acc)) ?_ ?_ ?_)); rotate_left; (· (try dsimp only); (first | omega | (simp only [List.length_drop, List.length_cons, List.length_append]; omega) | (simp; done) | (simp; omega))); (· (refine emb [0, 1, 2, 3] ?_ ?_ rfl ?_ ?_ ?_ ?_ <;> simp [okM, okO, lk, ren, renL, renNd, by_, hE] <;> (try omega) <;> (try (intro i hi; first | (rcases (by omega : i = 0 ∨ i = 1 ∨ i = 2) with rfl | rfl | rfl <;> rfl) | (rcases (by omega : i = 0 ∨ i = 1) with rfl | rfl <;> rfl))))))
        exact ⟨by omega, hst ▸ hok⟩
      have f1 : x > last := by simpa using e1
      cases e2 : (acc == 0)
      · cases e3 : decide (x < acc)
        · have hst : stepL last acc x = acc := by
            rw [stepL, if_neg]; rintro ⟨_, h | h⟩
            · simp [h] at e2
            · simp at e3; omega
          (repeat' (first | refine awp_seq ?_ | refine awp_block ?_ | refine awp_skip ?_ | refine awp_exit ?_ | ((first | refine rR (fun K kp hK hkp => ?_) | refine iG ?_); simp (implicitDefEqProofs := false) (maxSteps := 2000000) (disch := omega) only [go_sem, hxi, eI, d5, e1, e2, e3]; (repeat' (first | (refine hK _ ?_; clear hK hkp kp K) | (with_reducible refine And.intro ?_ ?_) | omega))) | ((first | refine aG (fun h => ?_) (fun h => ?_) | refine aD (fun h => ?_) (fun h => ?_) | refine aX (fun h => ?_) (fun h => ?_)) <;> simp only [h]) | refine awp_cond_t rfl ?_ | refine awp_cond_f rfl ?_ | ((refine awp_cond rfl (fun h => ?_) (fun h => ?_) <;> try simp only [ifs] at h) <;> (try (exfalso; omega))) | refine awp_ret ?_))
          ((first | (refine nextB ((i + 1, acc)) ?_ ?_ ?_) | (refine nextA ((i + 1, acc)) ?_ ?_ ?_) | (refine nextE ((i + 1, acc)) ?_ ?_ ?_)); rotate_left; (· (try dsimp only); (first | omega | (simp only [List.length_drop, List.length_cons, List.length_append]; omega) | (simp; done) | (simp; omega))); (· (refine emb [0, 1, 2, 3] ?_ ?_ rfl ?_ ?_ ?_ ?_ <;> simp [okM, okO, lk, ren, renL, renNd, by_, hE] <;> (try omega) <;> (try (intro i hi; first | (rcases (by omega : i = 0 ∨ i = 1 ∨ i = 2) with rfl | rfl | rfl <;> rfl) | (rcases (by omega : i = 0 ∨ i = 1) with rfl | rfl <;> rfl))))))
          exact ⟨by omega, hst ▸ hok⟩
        · have hst : stepL last acc x = x := by rw [stepL, if_pos ⟨f1, .inr (by simpa using e3)⟩]
          (repeat' (first | refine awp_seq ?_ | refine awp_block ?_ | refine awp_skip ?_ | refine awp_exit ?_ | ((first | refine rR (fun K kp hK hkp => ?_) | refine iG ?_); simp (implicitDefEqProofs := false) (maxSteps := 2000000) (disch := omega) only [go_sem, hxi, eI, d5, e1, e2, e3]; (repeat' (first | (refine hK _ ?_; clear hK hkp kp K) | (with_reducible refine And.intro ?_ ?_) | omega))) | ((first | refine aG (fun h => ?_) (fun h => ?_) | refine aD (fun h => ?_) (fun h => ?_) | refine aX (fun h => ?_) (fun h => ?_)) <;> simp only [h]) | refine awp_cond_t rfl ?_ | refine awp_cond_f rfl ?_ | ((refine awp_cond rfl (fun h => ?_) (fun h => ?_) <;> try simp only [ifs] at h) <;> (try (exfalso; omega))) | refine awp_ret ?_))
          ((first | (refine nextB ((i + 1, x)) ?_ ?_ ?_) | (refine nextA ((i + 1, x)) ?_ ?_ ?_) | (refine nextE ((i + 1, x)) ?_ ?_ ?_)); rotate_left; (· (try dsimp only); (first | omega | (simp only [List.length_drop, List.length_cons, List.length_append]; omega) | (simp; done) | (simp; omega))); (· (refine emb [0, 1, 2, 3] ?_ ?_ rfl ?_ ?_ ?_ ?_ <;> simp [okM, okO, lk, ren, renL, renNd, by_, hE] <;> (try omega) <;> (try (intro i hi; first | (rcases (by omega : i = 0 ∨ i = 1 ∨ i = 2) with rfl | rfl | rfl <;> rfl) | (rcases (by omega : i = 0 ∨ i = 1) with rfl | rfl <;> rfl))))))
          exact ⟨by omega, hst ▸ hok⟩
      · have hst : stepL last acc x = x := by rw [stepL, if_pos ⟨f1, .inl (by simpa using e2)⟩]
        (repeat' (first | refine awp_seq ?_ | refine awp_block ?_ | refine awp_skip ?_ | refine awp_exit ?_ | ((first | refine rR (fun K kp hK hkp => ?_) | refine iG ?_); simp (implicitDefEqProofs := false) (maxSteps := 2000000) (disch := omega) only [go_sem, hxi, eI, d5, e1, e2]; (repeat' (first | (refine hK _ ?_; clear hK hkp kp K) | (with_reducible refine And.intro ?_ ?_) | omega))) | ((first | refine aG (fun h => ?_) (fun h => ?_) | refine aD (fun h => ?_) (fun h => ?_) | refine aX (fun h => ?_) (fun h => ?_)) <;> simp only [h]) | refine awp_cond_t rfl ?_ | refine awp_cond_f rfl ?_ | ((refine awp_cond rfl (fun h => ?_) (fun h => ?_) <;> try simp only [ifs] at h) <;> (try (exfalso; omega))) | refine awp_ret ?_))
        ((first | (refine nextB ((i + 1, x)) ?_ ?_ ?_) | (refine nextA ((i + 1, x)) ?_ ?_ ?_) | (refine nextE ((i + 1, x)) ?_ ?_ ?_)); rotate_left; (· (try dsimp only); (first | omega | (simp only [List.length_drop, List.length_cons, List.length_append]; omega) | (simp; done) | (simp; omega))); (· (refine emb [0, 1, 2, 3] ?_ ?_ rfl ?_ ?_ ?_ ?_ <;> simp [okM, okO, lk, ren, renL, renNd, by_, hE] <;> (try omega) <;> (try (intro i hi; first | (rcases (by omega : i = 0 ∨ i = 1 ∨ i = 2) with rfl | rfl | rfl <;> rfl) | (rcases (by omega : i = 0 ∨ i = 1) with rfl | rfl <;> rfl))))))
        exact ⟨by omega, hst ▸ hok⟩
    · rw [List.take_of_length_le (by omega)] at hacc
      cases e4 : (acc == 0)
      · have hne : acc ≠ 0 := by simpa using e4
        have hmore := rowAt_more hrow hacc hne
        have hless : above ws acc < above ws last := by
          rcases hacc with ⟨h, _⟩ | ⟨h1, h2, _⟩
          · exact absurd h hne
          · exact above_less h1 h2
        (repeat' (first | refine awp_seq ?_ | refine awp_block ?_ | refine awp_skip ?_ | refine awp_exit ?_ | ((first | refine rR (fun K kp hK hkp => ?_) | refine iG ?_); simp (implicitDefEqProofs := false) (maxSteps := 2000000) (disch := omega) only [go_sem, e4]; (repeat' (first | (refine hK _ ?_; clear hK hkp kp K) | (with_reducible refine And.intro ?_ ?_) | omega))) | ((first | refine aG (fun h => ?_) (fun h => ?_) | refine aD (fun h => ?_) (fun h => ?_) | refine aX (fun h => ?_) (fun h => ?_)) <;> simp only [h]) | refine awp_cond_t rfl ?_ | refine awp_cond_f rfl ?_ | ((refine awp_cond rfl (fun h => ?_) (fun h => ?_) <;> try simp only [ifs] at h) <;> (try (exfalso; omega))) | refine awp_ret ?_))
        ((first | (refine nextB ((row ++ [acc], acc)) ?_ ?_ ?_) | (refine nextA ((row ++ [acc], acc)) ?_ ?_ ?_) | (refine nextE ((row ++ [acc], acc)) ?_ ?_ ?_)); rotate_left; (· (try dsimp only); (first | omega | (simp only [List.length_drop, List.length_cons, List.length_append]; omega) | (simp; done) | (simp; omega))); (· (refine emb [0, 1, 2, 5] ?_ ?_ rfl ?_ ?_ ?_ ?_ <;> simp [okM, okO, lk, ren, renL, renNd, by_, hE, eI] <;> (try omega) <;> (try (intro i hi; first | (rcases (by omega : i = 0 ∨ i = 1 ∨ i = 2) with rfl | rfl | rfl <;> rfl) | (rcases (by omega : i = 0 ∨ i = 1) with rfl | rfl <;> rfl))))))
        exact ⟨hmore, by simp only [List.length_append, List.length_singleton]; omega⟩
      · obtain rfl : acc = 0 := by simpa using e4
        have hend := rowAt_end hrow hacc hp
        (repeat' (first | refine awp_seq ?_ | refine awp_block ?_ | refine awp_skip ?_ | refine awp_exit ?_ | ((first | refine rR (fun K kp hK hkp => ?_) | refine iG ?_); simp (implicitDefEqProofs := false) (maxSteps := 2000000) (disch := omega) only [go_sem, e4, eI]; (repeat' (first | (refine hK _ ?_; clear hK hkp kp K) | (with_reducible refine And.intro ?_ ?_) | omega))) | ((first | refine aG (fun h => ?_) (fun h => ?_) | refine aD (fun h => ?_) (fun h => ?_) | refine aX (fun h => ?_) (fun h => ?_)) <;> simp only [h]) | refine awp_cond_t rfl ?_ | refine awp_cond_f rfl ?_ | ((refine awp_cond rfl (fun h => ?_) (fun h => ?_) <;> try simp only [ifs] at h) <;> (try (exfalso; omega))) | refine awp_ret ?_))
        rw [hend]
        ((first | (refine nextB (k + 1) ?_ ?_ ?_) | (refine nextA (k + 1) ?_ ?_ ?_) | (refine nextE (k + 1) ?_ ?_ ?_)); rotate_left; (· (try dsimp only); (first | omega | (simp only [List.length_drop, List.length_cons, List.length_append]; omega) | (simp; done) | (simp; omega))); (· (refine emb [0, 5] ?_ ?_ rfl ?_ ?_ ?_ ?_ <;> simp [okM, okO, lk, ren, renL, renNd, by_, hE, hS, htk, eIs] <;> (try omega) <;> (try (intro i hi; first | (rcases (by omega : i = 0 ∨ i = 1 ∨ i = 2) with rfl | rfl | rfl <;> rfl) | (rcases (by omega : i = 0 ∨ i = 1) with rfl | rfl <;> rfl))))))
        omega
  · obtain rfl : k = l2.length := by omega
    (repeat' (first | refine awp_seq ?_ | refine awp_block ?_ | refine awp_skip ?_ | refine awp_exit ?_ | ((first | refine rR (fun K kp hK hkp => ?_) | refine iG ?_); simp (implicitDefEqProofs := false) (maxSteps := 2000000) (disch := omega) only [go_sem]; (repeat' (first | (refine hK _ ?_; clear hK hkp kp K) | (with_reducible refine And.intro ?_ ?_) | omega))) | ((first | refine aG (fun h => ?_) (fun h => ?_) | refine aD (fun h => ?_) (fun h => ?_) | refine aX (fun h => ?_) (fun h => ?_)) <;> simp only [h]) | refine awp_cond_t rfl ?_ | refine awp_cond_f rfl ?_ | ((refine awp_cond rfl (fun h => ?_) (fun h => ?_) <;> try simp only [ifs] at h) <;> (try (exfalso; omega))) | refine awp_ret ?_))
    (refine retA_is (by (simp (implicitDefEqProofs := false) (maxSteps := 2000000) (disch := omega) only [go_sem, Go.Proofs.Tryd.results25, htk]); rfl) ?_; refine embS_frz (by simp only [oneA]; simp (implicitDefEqProofs := false) (maxSteps := 2000000) (disch := omega) only [go_sem, htk]; rfl) ?_; refine (embV_nil hE (by simp) ?_).s; simp [oneA, ren, renL, htk])
end Go.AM
/- The abstract machine, 26: the same thing under another description: a nil slice in a box as an own list. -/
namespace Go.AM
open Go
section
variable {P : Program} {E : Env} {N : Nat} {st : AS} {th : List NLoc} {z : Zone} {a : Act} {w : World}
theorem Reps.set_at {c : List AV} {ys : List Value} (h : Reps w z th c ys) {j : Nat} {x : AV} (hx : ∀ y, ys[j]? = some y → Rep w z th x y) : Reps w z th (c.set j x) ys := by
  refine ⟨by simp [h.1], fun i u y h1 h2 => ?_⟩
  rw [List.getElem?_set] at h1
  split at h1
  · rename_i e; subst e
    split at h1
    · cases h1; exact hx y h2
    · cases h1
  · exact h.2 i u y h1 h2
/-- A nil slice in a box as an own list without elements. -/
theorem emb_nilB (n j : Nat) (T : TypeId) (k : Nat) {T' : TypeId} {c : List AV} (h : lk st.o n = some (.box T' c)) (hj : c[j]? = some (.r (.slice none 0 0))) (hne : n < st.n) :
    Emb E N st { m := st.m, o := (n, .box T' (c.set j (.s st.n 0 0))) :: (st.n, .lst T k []) :: st.o, n := st.n + 1 } := by
  intro th z a w hs
  have hk := hs.know ⟨0, 0, 0, 0, true⟩ (.lst T k []) (fun hp => by cases hp) (fun _ _ _ _ _ _ hp => by cases hp) (.inl ⟨rfl, rfl⟩) (.inl rfl)
  have hl : lk (putNd st (.lst T k [])).o n = some (.box T' c) := by simp only [putNd, lk]; rw [if_neg (by omega)]; exact h
  refine ⟨_, z, hk.say hl (fun L hL hn => ?_)⟩
  obtain ⟨hp, cells, fr, h1, h2, h3, h4⟩ := hn
  refine ⟨hp, cells, fr, h1, h2, h3, h4.set_at fun y hy => ?_⟩
  obtain ⟨y', hy', hr⟩ := h4.get hj
  rw [hy] at hy'; cases hy'
  rw [show y = .slice none 0 0 from hr.r_inv]
  exact .sn _ _ 0 _ (hs.get_new _) rfl
end
section
variable {E : Env} {N : Nat} {st : AS}
/-- The round's end by a way out of the round's block. -/
theorem nextE {ι : Type} {I : ι → AS} {ok : ι → Prop} {μ : ι → Nat} {i : ι} {AQ : AExit → AS → Prop} {id : Nat} {K : AS → Prop} (i' : ι) (h1 : ok i') (h2 : μ i' < μ i) (h3 : Emb E N st (I i')) : thenA K (blockA id (loopA E N I ok μ i AQ)) (.exit id) st := by
  show blockA id (loopA E N I ok μ i AQ) (.exit id) st
  have e : blockA id (loopA E N I ok μ i AQ) (.exit id) st = loopA E N I ok μ i AQ .normal st := by
    have hb : Nat.beq id id = true := Nat.beq_refl id
    simp only [blockA, hb]
  rw [e]
  exact ⟨i', h1, h2, h3⟩
end
end Go.AM
/- Locks copied. -/
namespace Go.AM
open Go Go.RowKit
open Go.Proofs.YteebiklebedneaaDoor (LK)
attribute [local irreducible] AWP retA
def nilV : AV := .r (.slice none 0 0)
set_option maxRecDepth 100000 in
set_option maxHeartbeats 8000000 in
theorem locksCopy_con (G : List (Nat × List Value)) (t1 t2 : Bool) (l1 l2 : List LK) (n1 : l1.length ≤ 1048576) (n2 : l2.length ≤ 1048576) : Con Go.Proofs.Tryd.prog G 19 [.agg [.ro t1 3 (l1.map eK), .ro t2 3 (l2.map eK)]] [] 0 (Is (.agg [.ro true 3 (l1.map eK), .ro true 3 (l2.map eK)]) [] 0) No := by
  refine con_of_awp Go.Proofs.Tryd.func19 rfl (by kernel_rfl) (of_decide_eq_true (by kernel_rfl)) ?_; intro E hG hE; subst hG; simp only [ent]
  (repeat' (first | refine awp_seq ?_ | refine awp_block ?_ | refine awp_skip ?_ | refine awp_exit ?_ | ((first | refine rR (fun K kp hK hkp => ?_) | refine rD (id := 5) mixed 8 [0,1,2,3,4,5,6,7] (fun K kp hK hkp => ?_) | refine rD (id := 9) mixed 8 [0,1,2,3,4,5,6,7] (fun K kp hK hkp => ?_) | refine iG ?_ | refine iD ?_); simp (implicitDefEqProofs := false) (maxSteps := 2000000) (disch := omega) only [go_sem, eK]; (repeat' (first | (refine hK _ ?_; clear hK hkp kp K) | (with_reducible refine And.intro ?_ ?_) | omega))) | ((first | refine aG (fun h => ?_) (fun h => ?_) | refine aD (fun h => ?_) (fun h => ?_) | refine aX (fun h => ?_) (fun h => ?_)) <;> simp only [h]) | refine awp_cond_t rfl ?_ | refine awp_cond_f rfl ?_ | ((refine awp_cond rfl (fun h => ?_) (fun h => ?_) <;> try simp only [ifs] at h) <;> (try (exfalso; omega))) | refine awp_ret ?_))
  (refine AWP.emb (emb_nilB 2 0 82 3 rfl rfl (by simp)) ?_; simp only [List.set_cons_zero, List.set_cons_succ, lk, ↓reduceIte, Nat.reduceAdd])
  refine awp_loop (fun k : Nat => ⟨[(4, .r (.int .i64 k)), (3, .p 2 0 0), (2, .p 1 0 0), (1, .p 0 0 0)], [(0, .box 41 [.ro t1 3 (l1.map eK), .ro t2 3 (l2.map eK)]), (1, .box 41 [.r (.slice none 0 0), .r (.slice none 0 0)]), (2, .box 41 [.s 3 0 k, .r (.slice none 0 0)]), (3, .lst 82 3 ((l1.take k).map eK))], 4⟩) (fun k => k ≤ l1.length) (fun k => l1.length - k) 0 ?_ ?_ ?_
  · simp
  · (refine emb [0, 1, 2, 3] ?_ ?_ rfl ?_ ?_ ?_ ?_ <;> simp [okM, okO, lk, ren, renL, renNd, by_, hE] <;> (try omega) <;> (try (intro i hi; first | (rcases (by omega : i = 0 ∨ i = 1 ∨ i = 2) with rfl | rfl | rfl <;> rfl) | (rcases (by omega : i = 0 ∨ i = 1) with rfl | rfl <;> rfl))))
  intro k hk
  by_cases hlt : k < l1.length
  · obtain ⟨y, hx⟩ : ∃ x, l1[k]? = some x := ⟨l1[k], by simp [hlt]⟩
    have ht : l1.take (k + 1) = l1.take k ++ [y] := by rw [List.take_add_one, hx]; rfl
    have hl : (l1.take k).length = k := by rw [List.length_take]; omega
    have htk : List.take k (List.take k (l1.map eK)) = List.take k (l1.map eK) := by rw [List.take_take, Nat.min_self]
    (repeat' (first | refine awp_seq ?_ | refine awp_block ?_ | refine awp_skip ?_ | refine awp_exit ?_ | ((first | refine rR (fun K kp hK hkp => ?_) | refine rD (id := 5) mixed 8 [0,1,2,3,4,5,6,7] (fun K kp hK hkp => ?_) | refine rD (id := 9) mixed 8 [0,1,2,3,4,5,6,7] (fun K kp hK hkp => ?_) | refine iG ?_ | refine iD ?_); simp (implicitDefEqProofs := false) (maxSteps := 2000000) (disch := omega) only [go_sem, hx, eK]; (repeat' (first | (refine hK _ ?_; clear hK hkp kp K) | (with_reducible refine And.intro ?_ ?_) | omega))) | ((first | refine aG (fun h => ?_) (fun h => ?_) | refine aD (fun h => ?_) (fun h => ?_) | refine aX (fun h => ?_) (fun h => ?_)) <;> simp only [h]) | refine awp_cond_t rfl ?_ | refine awp_cond_f rfl ?_ | ((refine awp_cond rfl (fun h => ?_) (fun h => ?_) <;> try simp only [ifs] at h) <;> (try (exfalso; omega))) | refine awp_ret ?_))
    ((first | (refine nextB (k + 1) ?_ ?_ ?_) | (refine nextA (k + 1) ?_ ?_ ?_) | (refine nextE (k + 1) ?_ ?_ ?_)); rotate_left; (· (try dsimp only); (first | omega | (simp only [List.length_drop, List.length_cons, List.length_append]; omega) | (simp; done) | (simp; omega))); (· (refine emb [0, 1, 2, 5] ?_ ?_ rfl ?_ ?_ ?_ ?_ <;> simp [okM, okO, lk, ren, renL, renNd, by_, hE, ht, htk, eK] <;> (try omega) <;> (try (intro i hi; first | (rcases (by omega : i = 0 ∨ i = 1 ∨ i = 2) with rfl | rfl | rfl <;> rfl) | (rcases (by omega : i = 0 ∨ i = 1) with rfl | rfl <;> rfl))))))
    omega
  · obtain rfl : k = l1.length := by omega
    rw [List.take_length]
    (repeat' (first | refine awp_seq ?_ | refine awp_block ?_ | refine awp_skip ?_ | refine awp_exit ?_ | ((first | refine rR (fun K kp hK hkp => ?_) | refine rD (id := 5) mixed 8 [0,1,2,3,4,5,6,7] (fun K kp hK hkp => ?_) | refine rD (id := 9) mixed 8 [0,1,2,3,4,5,6,7] (fun K kp hK hkp => ?_) | refine iG ?_ | refine iD ?_); simp (implicitDefEqProofs := false) (maxSteps := 2000000) (disch := omega) only [go_sem]; (repeat' (first | (refine hK _ ?_; clear hK hkp kp K) | (with_reducible refine And.intro ?_ ?_) | omega))) | ((first | refine aG (fun h => ?_) (fun h => ?_) | refine aD (fun h => ?_) (fun h => ?_) | refine aX (fun h => ?_) (fun h => ?_)) <;> simp only [h]) | refine awp_cond_t rfl ?_ | refine awp_cond_f rfl ?_ | ((refine awp_cond rfl (fun h => ?_) (fun h => ?_) <;> try simp only [ifs] at h) <;> (try (exfalso; omega))) | refine awp_ret ?_))
    (refine AWP.emb (emb_nilB 2 1 82 3 rfl rfl (by simp)) ?_; simp only [List.set_cons_zero, List.set_cons_succ, lk, ↓reduceIte, Nat.reduceAdd])
    refine awp_loop (fun k : Nat => ⟨[(5, .r (.int .i64 k)), (3, .p 2 0 0), (2, .p 1 0 0), (1, .p 0 0 0)], [(0, .box 41 [.ro t1 3 (l1.map eK), .ro t2 3 (l2.map eK)]), (1, .box 41 [.r (.slice none 0 0), .r (.slice none 0 0)]), (2, .box 41 [.s 3 0 l1.length, .s 4 0 k]), (3, .lst 82 3 (l1.map eK)), (4, .lst 82 3 ((l2.take k).map eK))], 5⟩) (fun k => k ≤ l2.length) (fun k => l2.length - k) 0 ?_ ?_ ?_
    · simp
    · (refine emb [0, 1, 2, 3, 4] ?_ ?_ rfl ?_ ?_ ?_ ?_ <;> simp [okM, okO, lk, ren, renL, renNd, by_, hE] <;> (try omega) <;> (try (intro i hi; first | (rcases (by omega : i = 0 ∨ i = 1 ∨ i = 2) with rfl | rfl | rfl <;> rfl) | (rcases (by omega : i = 0 ∨ i = 1) with rfl | rfl <;> rfl))))
    intro k hk
    by_cases hlt : k < l2.length
    · obtain ⟨y, hx⟩ : ∃ x, l2[k]? = some x := ⟨l2[k], by simp [hlt]⟩
      have ht : l2.take (k + 1) = l2.take k ++ [y] := by rw [List.take_add_one, hx]; rfl
      have hl : (l2.take k).length = k := by rw [List.length_take]; omega
      have htk : List.take k (List.take k (l2.map eK)) = List.take k (l2.map eK) := by rw [List.take_take, Nat.min_self]
      (repeat' (first | refine awp_seq ?_ | refine awp_block ?_ | refine awp_skip ?_ | refine awp_exit ?_ | ((first | refine rR (fun K kp hK hkp => ?_) | refine rD (id := 5) mixed 8 [0,1,2,3,4,5,6,7] (fun K kp hK hkp => ?_) | refine rD (id := 9) mixed 8 [0,1,2,3,4,5,6,7] (fun K kp hK hkp => ?_) | refine iG ?_ | refine iD ?_); simp (implicitDefEqProofs := false) (maxSteps := 2000000) (disch := omega) only [go_sem, hx, eK]; (repeat' (first | (refine hK _ ?_; clear hK hkp kp K) | (with_reducible refine And.intro ?_ ?_) | omega))) | ((first | refine aG (fun h => ?_) (fun h => ?_) | refine aD (fun h => ?_) (fun h => ?_) | refine aX (fun h => ?_) (fun h => ?_)) <;> simp only [h]) | refine awp_cond_t rfl ?_ | refine awp_cond_f rfl ?_ | ((refine awp_cond rfl (fun h => ?_) (fun h => ?_) <;> try simp only [ifs] at h) <;> (try (exfalso; omega))) | refine awp_ret ?_))
      ((first | (refine nextB (k + 1) ?_ ?_ ?_) | (refine nextA (k + 1) ?_ ?_ ?_) | (refine nextE (k + 1) ?_ ?_ ?_)); rotate_left; (· (try dsimp only); (first | omega | (simp only [List.length_drop, List.length_cons, List.length_append]; omega) | (simp; done) | (simp; omega))); (· (refine emb [0, 1, 2, 3, 6] ?_ ?_ rfl ?_ ?_ ?_ ?_ <;> simp [okM, okO, lk, ren, renL, renNd, by_, hE, ht, htk, eK] <;> (try omega) <;> (try (intro i hi; first | (rcases (by omega : i = 0 ∨ i = 1 ∨ i = 2) with rfl | rfl | rfl <;> rfl) | (rcases (by omega : i = 0 ∨ i = 1) with rfl | rfl <;> rfl))))))
      omega
    · obtain rfl : k = l2.length := by omega
      rw [List.take_length]
      (repeat' (first | refine awp_seq ?_ | refine awp_block ?_ | refine awp_skip ?_ | refine awp_exit ?_ | ((first | refine rR (fun K kp hK hkp => ?_) | refine rD (id := 5) mixed 8 [0,1,2,3,4,5,6,7] (fun K kp hK hkp => ?_) | refine rD (id := 9) mixed 8 [0,1,2,3,4,5,6,7] (fun K kp hK hkp => ?_) | refine iG ?_ | refine iD ?_); simp (implicitDefEqProofs := false) (maxSteps := 2000000) (disch := omega) only [go_sem]; (repeat' (first | (refine hK _ ?_; clear hK hkp kp K) | (with_reducible refine And.intro ?_ ?_) | omega))) | ((first | refine aG (fun h => ?_) (fun h => ?_) | refine aD (fun h => ?_) (fun h => ?_) | refine aX (fun h => ?_) (fun h => ?_)) <;> simp only [h]) | refine awp_cond_t rfl ?_ | refine awp_cond_f rfl ?_ | ((refine awp_cond rfl (fun h => ?_) (fun h => ?_) <;> try simp only [ifs] at h) <;> (try (exfalso; omega))) | refine awp_ret ?_))
      (refine retA_is (by (simp (implicitDefEqProofs := false) (maxSteps := 2000000) (disch := omega) only [go_sem, Go.Proofs.Tryd.results19]); rfl) ?_; refine embS_frz (by simp only [oneA]; simp (implicitDefEqProofs := false) (maxSteps := 2000000) (disch := omega) only [go_sem]; rfl) ?_; refine (embV_nil hE (by simp) ?_).s; simp [oneA, ren, renL])
end Go.AM
/- The law LockWaits. -/
namespace Go.AM
open Go Go.RowKit
open Go.Proofs.YteebiklebedneaaDoor (LK lockGood chkM)
attribute [local irreducible] AWP retA
theorem Waits_bad {G : List (Nat × List Value)} (T : TabsL G) (t1 t2 : Bool) (l1 l2 : List LK) (o1 : okKs l1) (o2 : okKs l2) (hg : ¬ lockGood l1 l2) :
    Con Go.Proofs.Tryd.prog G 24 [.agg [.ro t1 3 (l1.map eK), .ro t2 3 (l2.map eK)]] [] 0 (Is (.tup [.r (.slice none 0 0), .r (.int .i64 11)]) [] 0) No := by
  have cc := check_con T t1 t2 l1 l2 o1 o2
  rw [Go.Proofs.YteebiklebedneaaDoor.chk_no hg] at cc
  refine con_of_awp Go.Proofs.Tryd.func24 rfl (by kernel_rfl) (of_decide_eq_true (by kernel_rfl)) ?_; intro E hG hE; subst hG; simp only [ent]
  (repeat' (first | refine awp_seq ?_ | refine awp_block ?_ | refine awp_skip ?_ | refine awp_exit ?_ | ((first | refine rR (fun K kp hK hkp => ?_) | refine cR cc ?_ | refine iG ?_); simp (implicitDefEqProofs := false) (maxSteps := 2000000) (disch := omega) only [go_sem, eK]; (repeat' (first | (refine hK _ ?_; clear hK hkp kp K) | (with_reducible refine And.intro ?_ ?_) | omega))) | ((first | refine aG (fun h => ?_) (fun h => ?_) | refine aD (fun h => ?_) (fun h => ?_) | refine aX (fun h => ?_) (fun h => ?_)) <;> simp only [h]) | refine awp_cond_t rfl ?_ | refine awp_cond_f rfl ?_ | ((refine awp_cond rfl (fun h => ?_) (fun h => ?_) <;> try simp only [ifs] at h) <;> (try (exfalso; omega))) | refine awp_ret ?_))
  (refine retA_is (by (simp (implicitDefEqProofs := false) (maxSteps := 2000000) (disch := omega) only [go_sem, Go.Proofs.Tryd.results24]); rfl) ?_; refine eN hE ?_; simp [oneA, ren, renL])
theorem WaitsOf_bad (G : List (Nat × List Value)) (t1 t2 : Bool) (l1 l2 : List LK) (o1 : okKs l1) (o2 : okKs l2) (hg : ¬ lockGood l1 l2) :
    Con Go.Proofs.Tryd.prog G 25 [.agg [.ro t1 3 (l1.map eK), .ro t2 3 (l2.map eK)]] [] 0 (Is (.tup [.r (.slice none 0 0), .r (.int .i64 11)]) [] 0) No := by
  have cc := locksFault_con G t1 t2 l1 l2 o1 o2
  rw [Go.Proofs.YteebiklebedneaaDoor.chk_no hg] at cc
  refine con_of_awp Go.Proofs.Tryd.func25 rfl (by kernel_rfl) (of_decide_eq_true (by kernel_rfl)) ?_; intro E hG hE; subst hG; simp only [ent]
  (repeat' (first | refine awp_seq ?_ | refine awp_block ?_ | refine awp_skip ?_ | refine awp_exit ?_ | ((first | refine rR (fun K kp hK hkp => ?_) | refine cR cc ?_ | refine iG ?_); simp (implicitDefEqProofs := false) (maxSteps := 2000000) (disch := omega) only [go_sem, eK]; (repeat' (first | (refine hK _ ?_; clear hK hkp kp K) | (with_reducible refine And.intro ?_ ?_) | omega))) | ((first | refine aG (fun h => ?_) (fun h => ?_) | refine aD (fun h => ?_) (fun h => ?_) | refine aX (fun h => ?_) (fun h => ?_)) <;> simp only [h]) | refine awp_cond_t rfl ?_ | refine awp_cond_f rfl ?_ | ((refine awp_cond rfl (fun h => ?_) (fun h => ?_) <;> try simp only [ifs] at h) <;> (try (exfalso; omega))) | refine awp_ret ?_))
  (refine retA_is (by (simp (implicitDefEqProofs := false) (maxSteps := 2000000) (disch := omega) only [go_sem, Go.Proofs.Tryd.results25]); rfl) ?_; refine eN hE ?_; simp [oneA, ren, renL])
set_option maxRecDepth 100000 in
set_option maxHeartbeats 4000000 in
theorem lawWaits_con {G : List (Nat × List Value)} (T : TabsL G) (l1 l2 : List LK) (o1 : okKs l1) (o2 : okKs l2) :
    Con Go.Proofs.Tryd.prog G 7 [.agg [.ro true 3 (l1.map eK), .ro true 3 (l2.map eK)]] [] 0 (Is (.r (.bool true)) [] 0) No := by
  have yc := locksCopy_con G true true l1 l2 o1.1 o2.1
  have q1 := o1.1
  have q2 := o2.1
  by_cases hg : lockGood l1 l2
  · have pc := Waits_good T true true l1 l2 o1 o2 hg
    have rc := WaitsOf_good G true true l1 l2 o1 o2 hg
    have sc := sameLs_con G true true (rowsM l1 l2 l2.length) (by rw [rowsM_len]; omega) (fun x hx => by
      obtain ⟨i, _, rfl⟩ := List.mem_map.1 hx
      have := rowM_len l1 l2 i
      have := hg.1
      omega)
    refine con_of_awp Go.Proofs.Tryd.func7 rfl (by kernel_rfl) (of_decide_eq_true (by kernel_rfl)) ?_; intro E hG hE; subst hG; simp only [ent]
    (repeat' (first | refine awp_seq ?_ | refine awp_block ?_ | refine awp_skip ?_ | refine awp_exit ?_ | ((first | refine rR (fun K kp hK hkp => ?_) | refine cR yc ?_ | refine cR pc ?_ | refine cR rc ?_ | refine cR sc ?_ | refine iG ?_); simp (implicitDefEqProofs := false) (maxSteps := 2000000) (disch := omega) only [go_sem, beq_self_eq_true]; (repeat' (first | (refine hK _ ?_; clear hK hkp kp K) | (with_reducible refine And.intro ?_ ?_) | omega))) | ((first | refine aG (fun h => ?_) (fun h => ?_) | refine aD (fun h => ?_) (fun h => ?_) | refine aX (fun h => ?_) (fun h => ?_)) <;> simp only [h]) | refine awp_cond_t rfl ?_ | refine awp_cond_f rfl ?_ | ((refine awp_cond rfl (fun h => ?_) (fun h => ?_) <;> try simp only [ifs] at h) <;> (try (exfalso; omega))) | refine awp_ret ?_))
    (refine retA_is (by (simp (implicitDefEqProofs := false) (maxSteps := 2000000) (disch := omega) only [go_sem, Go.Proofs.Tryd.results7]); rfl) ?_; refine eN hE ?_; simp [oneA, ren, renL])
  · have pc := Waits_bad T true true l1 l2 o1 o2 hg
    have rc := WaitsOf_bad G true true l1 l2 o1 o2 hg
    have sc := (sameLs_con G true true [] (by simp) (by simp)).weak (xs := [.r (.slice none 0 0), .r (.slice none 0 0)]) (by simp [wkL, wk])
    refine con_of_awp Go.Proofs.Tryd.func7 rfl (by kernel_rfl) (of_decide_eq_true (by kernel_rfl)) ?_; intro E hG hE; subst hG; simp only [ent]
    (repeat' (first | refine awp_seq ?_ | refine awp_block ?_ | refine awp_skip ?_ | refine awp_exit ?_ | ((first | refine rR (fun K kp hK hkp => ?_) | refine cR yc ?_ | refine cR pc ?_ | refine cR rc ?_ | refine cR sc ?_ | refine iG ?_); simp (implicitDefEqProofs := false) (maxSteps := 2000000) (disch := omega) only [go_sem, beq_self_eq_true]; (repeat' (first | (refine hK _ ?_; clear hK hkp kp K) | (with_reducible refine And.intro ?_ ?_) | omega))) | ((first | refine aG (fun h => ?_) (fun h => ?_) | refine aD (fun h => ?_) (fun h => ?_) | refine aX (fun h => ?_) (fun h => ?_)) <;> simp only [h]) | refine awp_cond_t rfl ?_ | refine awp_cond_f rfl ?_ | ((refine awp_cond rfl (fun h => ?_) (fun h => ?_) <;> try simp only [ifs] at h) <;> (try (exfalso; omega))) | refine awp_ret ?_))
    (refine retA_is (by (simp (implicitDefEqProofs := false) (maxSteps := 2000000) (disch := omega) only [go_sem, Go.Proofs.Tryd.results7]); rfl) ?_; refine eN hE ?_; simp [oneA, ren, renL])
end Go.AM
/- Who waits for themselves in the end: plain law. -/
namespace Go.AM
/-- Whom the one at a place waits for, in the end. -/
inductive Rch (ts : List Int) (rs : List (List Int)) (i : Nat) : Int → Prop
  | base (r : List Int) (u : Int) (h : rs[i]? = some r) (hu : u ∈ r) : Rch ts rs i u
  | step (t u : Int) (k : Nat) (r : List Int) (h : Rch ts rs i t) (hk : ts[k]? = some t) (hr : rs[k]? = some r) (hu : u ∈ r) : Rch ts rs i u
/-- How far the walk is: what has been seen, what is still to be looked at. -/
structure DfsAt (ts : List Int) (rs : List (List Int)) (i : Nat) (seen todo : List Int) : Prop where
  s : ∀ t ∈ seen, Rch ts rs i t
  d : ∀ t ∈ todo, Rch ts rs i t
  b : ∀ r, rs[i]? = some r → ∀ u ∈ r, u ∈ seen ∨ u ∈ todo
  c : ∀ t ∈ seen, ∀ (k : Nat) r, ts[k]? = some t → rs[k]? = some r → ∀ u ∈ r, u ∈ seen ∨ u ∈ todo
  n : seen.Nodup
theorem dfs_start {ts : List Int} {rs : List (List Int)} {i : Nat} {r : List Int} (h : rs[i]? = some r) : DfsAt ts rs i [] r :=
  ⟨fun _ h => by (cases h), fun t ht => .base r t h ht, fun r' hr u hu => .inr (by rw [h] at hr; cases hr; exact hu), fun _ h => by (cases h), List.nodup_nil⟩
theorem dfs_old {ts : List Int} {rs : List (List Int)} {i : Nat} {seen todo : List Int} {t : Int} (h : DfsAt ts rs i seen (todo ++ [t])) (ht : t ∈ seen) : DfsAt ts rs i seen todo := by
  have key : ∀ u, u ∈ seen ∨ u ∈ todo ++ [t] → u ∈ seen ∨ u ∈ todo := by
    intro u hu
    rcases hu with hu | hu
    · exact .inl hu
    · rcases List.mem_append.1 hu with hu | hu
      · exact .inr hu
      · rw [List.mem_singleton.1 hu]; exact .inl ht
  exact ⟨h.s, fun u hu => h.d u (by simp [hu]), fun r hr u hu => key u (h.b r hr u hu), fun t' ht' k r hk hr u hu => key u (h.c t' ht' k r hk hr u hu), h.n⟩
theorem dfs_new {ts : List Int} {rs : List (List Int)} {i : Nat} {seen todo more : List Int} {t : Int} (h : DfsAt ts rs i seen (todo ++ [t])) (ht : t ∉ seen) (hm : ∀ (k : Nat) r, ts[k]? = some t → rs[k]? = some r → more = r) (hm2 : more = [] ∨ ∃ k : Nat, ts[k]? = some t ∧ rs[k]? = some more) : DfsAt ts rs i (seen ++ [t]) (todo ++ more) := by
  have hR : Rch ts rs i t := h.d t (by simp)
  have key : ∀ u, u ∈ seen ∨ u ∈ todo ++ [t] → u ∈ seen ++ [t] ∨ u ∈ todo ++ more := by
    intro u hu
    rcases hu with hu | hu
    · exact .inl (by simp [hu])
    · rcases List.mem_append.1 hu with hu | hu
      · exact .inr (by simp [hu])
      · rw [List.mem_singleton.1 hu]; exact .inl (by simp)
  refine ⟨fun u hu => ?_, fun u hu => ?_, fun r hr u hu => key u (h.b r hr u hu), fun t' ht' k r hk hr u hu => ?_, ?_⟩
  · rcases List.mem_append.1 hu with hu | hu
    · exact h.s u hu
    · rw [List.mem_singleton.1 hu]; exact hR
  · rcases List.mem_append.1 hu with hu | hu
    · exact h.d u (by simp [hu])
    · rcases hm2 with rfl | ⟨k, hk, hr⟩
      · cases hu
      · exact .step t u k more hR hk hr hu
  · rcases List.mem_append.1 ht' with ht' | ht'
    · exact key u (h.c t' ht' k r hk hr u hu)
    · rw [List.mem_singleton.1 ht'] at hk
      rw [← hm k r hk hr] at hu
      exact .inr (by simp [hu])
  · rw [List.nodup_append]
    refine ⟨h.n, by simp, fun a ha b hb => ?_⟩
    rw [List.mem_singleton.1 hb]
    exact fun e => ht (e ▸ ha)
theorem dfs_end {ts : List Int} {rs : List (List Int)} {i : Nat} {seen : List Int} (h : DfsAt ts rs i seen []) (t : Int) : t ∈ seen ↔ Rch ts rs i t := by
  refine ⟨h.s t, fun hr => ?_⟩
  induction hr with
  | base r u hr hu => exact (h.b r hr u hu).resolve_right (by simp)
  | step t u k r _ hk hr hu ih => exact (h.c t ih k r hk hr u hu).resolve_right (by simp)
theorem rch_in {ts : List Int} {rs : List (List Int)} {i : Nat} {t : Int} (h : Rch ts rs i t) : t ∈ rs.flatten := by
  cases h with
  | base r u h hu => exact List.mem_flatten.2 ⟨r, List.mem_of_getElem? h, hu⟩
  | step t u k r _ hk hr hu => exact List.mem_flatten.2 ⟨r, List.mem_of_getElem? hr, hu⟩
theorem nodup_le {α : Type} [DecidableEq α] : ∀ {l l' : List α}, l.Nodup → (∀ x ∈ l, x ∈ l') → l.length ≤ l'.length
  | [], _, _, _ => Nat.zero_le _
  | x :: r, l', hn, hs => by
    rw [List.nodup_cons] at hn
    have hx := hs x (by simp)
    have := nodup_le (l := r) (l' := l'.erase x) hn.2 (fun y hy => (List.mem_erase_of_ne (by rintro rfl; exact hn.1 hy)).2 (hs y (by simp [hy])))
    rw [List.length_erase_of_mem hx] at this
    have : 0 < l'.length := List.length_pos_of_mem hx
    simp only [List.length_cons]; omega
/-- The measure of the walk. -/
theorem dfs_seen {ts : List Int} {rs : List (List Int)} {i : Nat} {seen todo : List Int} (h : DfsAt ts rs i seen todo) : seen.length ≤ rs.flatten.length := nodup_le h.n fun x hx => rch_in (h.s x hx)
def dfsMu (V B : Nat) (seen todo : List Int) : Nat := (V - seen.length) * (B + 1) + todo.length
theorem dfsMu_new {V B : Nat} {seen todo more : List Int} {t : Int} (h : (seen ++ [t]).length ≤ V) (hm : more.length ≤ B) : dfsMu V B (seen ++ [t]) (todo ++ more) < dfsMu V B seen (todo ++ [t]) := by
  unfold dfsMu
  simp only [List.length_append, List.length_singleton] at h ⊢
  obtain ⟨d, hd⟩ : ∃ d, V = seen.length + 1 + d := ⟨V - (seen.length + 1), by omega⟩
  subst hd
  rw [show seen.length + 1 + d - (seen.length + 1) = d by omega, show seen.length + 1 + d - seen.length = d + 1 by omega, Nat.add_mul d 1]
  omega
/-- An edge; what is reached over places below one. -/
def edgeB (ts : List Int) (rs : List (List Int)) (i k : Nat) : Bool := (rs.getD i []).contains (ts.getD k 0)
def wM (ts : List Int) (rs : List (List Int)) : Nat → Nat → Nat → Bool
  | 0, i, j => edgeB ts rs i j
  | k + 1, i, j => wM ts rs k i j || (wM ts rs k i k && wM ts rs k k j)
inductive PathI (E : Nat → Nat → Bool) (n i : Nat) : Nat → Prop
  | one (j : Nat) (h : E i j = true) (hj : j < n) : PathI E n i j
  | more (m j : Nat) (h : PathI E n i m) (h2 : E m j = true) (hj : j < n) : PathI E n i j
theorem PathI.lt {E : Nat → Nat → Bool} {n i j : Nat} (h : PathI E n i j) : j < n := by cases h <;> assumption
theorem PathI.trans {E : Nat → Nat → Bool} {n i m j : Nat} (h : PathI E n i m) (h' : PathI E n m j) : PathI E n i j := by
  induction h' with
  | one j h1 hj => exact .more m j h h1 hj
  | more b j _ h2 hj ih => exact .more b j ih h2 hj
theorem wM_mono (ts : List Int) (rs : List (List Int)) {i j : Nat} (h : edgeB ts rs i j = true) : ∀ k, wM ts rs k i j = true
  | 0 => h
  | k + 1 => by simp [wM, wM_mono ts rs h k]
theorem wM_ext (ts : List Int) (rs : List (List Int)) : ∀ (k i m j : Nat), wM ts rs k i m = true → m < k → edgeB ts rs m j = true → wM ts rs k i j = true
  | 0, i, m, j, _, h, _ => by omega
  | k + 1, i, m, j, h1, h2, h3 => by
    simp only [wM, Bool.or_eq_true, Bool.and_eq_true] at h1 ⊢
    by_cases hm : m = k
    · subst hm
      have hk := wM_mono ts rs h3 m
      rcases h1 with h1 | ⟨h1, _⟩
      · exact .inr ⟨h1, hk⟩
      · exact .inr ⟨h1, hk⟩
    · have hm : m < k := by omega
      rcases h1 with h1 | ⟨h1, h4⟩
      · exact .inl (wM_ext ts rs k i m j h1 hm h3)
      · exact .inr ⟨h1, wM_ext ts rs k k m j h4 hm h3⟩
theorem wM_of_path (ts : List Int) (rs : List (List Int)) {n i j : Nat} (h : PathI (edgeB ts rs) n i j) : wM ts rs n i j = true := by
  induction h with
  | one j h hj => exact wM_mono ts rs h n
  | more m j h h2 hj ih => exact wM_ext ts rs n i m j ih h.lt h2
theorem path_of_wM (ts : List Int) (rs : List (List Int)) {n : Nat} : ∀ (k i j : Nat), k ≤ n → j < n → wM ts rs k i j = true → PathI (edgeB ts rs) n i j
  | 0, i, j, _, hj, h => .one j h hj
  | k + 1, i, j, hk, hj, h => by
    simp only [wM, Bool.or_eq_true, Bool.and_eq_true] at h
    rcases h with h | ⟨h1, h2⟩
    · exact path_of_wM ts rs k i j (by omega) hj h
    · exact (path_of_wM ts rs k i k (by omega) (by omega) h1).trans (path_of_wM ts rs k k j (by omega) hj h2)
theorem edge_iff {ts : List Int} {rs : List (List Int)} {i k : Nat} {t : Int} (hk : ts[k]? = some t) : edgeB ts rs i k = true ↔ ∃ r, rs[i]? = some r ∧ t ∈ r := by
  unfold edgeB
  rw [List.getD_eq_getElem?_getD, List.getD_eq_getElem?_getD, hk]
  cases h : rs[i]? with
  | none => simp
  | some r => simp
theorem rch_path {ts : List Int} {rs : List (List Int)} {i : Nat} {u : Int} (h : Rch ts rs i u) : ∀ j, ts[j]? = some u → PathI (edgeB ts rs) ts.length i j := by
  induction h with
  | base r u hr hu => exact fun j hj => .one j ((edge_iff hj).2 ⟨r, hr, hu⟩) (List.getElem?_eq_some_iff.1 hj).1
  | step t u k r _ hk hr hu ih => exact fun j hj => .more k j (ih k hk) ((edge_iff hj).2 ⟨r, hr, hu⟩) (List.getElem?_eq_some_iff.1 hj).1
theorem path_rch {ts : List Int} {rs : List (List Int)} {i j : Nat} (h : PathI (edgeB ts rs) ts.length i j) : ∀ t, ts[j]? = some t → Rch ts rs i t := by
  induction h with
  | one j h hj =>
    intro t ht
    obtain ⟨r, hr, hu⟩ := (edge_iff ht).1 h
    exact .base r t hr hu
  | more m j h h2 hj ih =>
    intro t ht
    obtain ⟨r, hr, hu⟩ := (edge_iff ht).1 h2
    have hm := h.lt
    have hm' : ts[m]? = some ts[m] := by simp [hm]
    exact .step ts[m] t m r (ih _ hm') hm' hr hu
/-- Does one wait for itself? -/
def selfB (ts : List Int) (rs : List (List Int)) (i : Nat) : Bool := wM ts rs ts.length i i
theorem self_iff {ts : List Int} {rs : List (List Int)} {i : Nat} {t : Int} (h : ts[i]? = some t) : selfB ts rs i = true ↔ Rch ts rs i t := by
  have hi := (List.getElem?_eq_some_iff.1 h).1
  exact ⟨fun hs => path_rch (path_of_wM ts rs _ i i (Nat.le_refl _) hi hs) t h, fun hr => wM_of_path ts rs (rch_path hr i h)⟩
/-- The youngest of those. -/
def vicF (ts : List Int) (rs : List (List Int)) : Nat → Int
  | 0 => 0
  | k + 1 => if selfB ts rs k = true ∧ ts.getD k 0 > vicF ts rs k then ts.getD k 0 else vicF ts rs k
theorem wM_row {ts : List Int} {rs : List (List Int)} (k b : Nat) : wM ts rs (k + 1) k b = wM ts rs k k b := by
  simp only [wM]
  cases wM ts rs k k b <;> simp
theorem wM_col {ts : List Int} {rs : List (List Int)} (k a : Nat) : wM ts rs (k + 1) a k = wM ts rs k a k := by
  simp only [wM]
  cases wM ts rs k a k <;> simp
end Go.AM
/- The abstract machine, 27: regions that draw their order: moves that may come late are taken first. -/
namespace Go.AM
open Go
section
variable {P : Program} {ops : Array Oper} {Q : Exit → Act → World → Prop} {n : Nat} {L : Array Bool → Act → World → Prop}
theorem getD_set_self (s : Array Bool) (i : Nat) : (s.setIfInBounds i true).getD i true = true := by
  rcases Nat.lt_or_ge i s.size with h | h
  · simp [Array.getD_eq_getD_getElem?, h]
  · rw [Array.getD_eq_getD_getElem?, Array.getElem?_eq_none (by simpa using h)]; rfl
/-- These have come up. -/
def Did (fs : List Nat) (s : Array Bool) : Prop := ∀ f ∈ fs, s.getD f true = true
theorem Did.set {fs : List Nat} {s : Array Bool} (h : Did fs s) (i : Nat) : Did fs (s.setIfInBounds i true) := by
  intro f hf
  by_cases e : i = f
  · subst e; exact getD_set_self _ _
  · rw [getD_set_ne true e]; exact h f hf
theorem anyE_firstF {fs : List Nat} {i : Nat} {oi : Oper} {v : Value} (hi : ops[i]? = some oi) (hsel : ∀ (j : Nat) (o : Oper) cs b, ops[j]? = some o → o.op ≠ .select cs b)
    (hQ : ∀ c a w, Q (.panic c) (a.put oi.dst v) w → Q (.panic c) a w) (hlt : ∀ s, HeadInv .any ops n s → Did fs s → ∀ i, i < n → s.getD i true = false → ∀ j ∈ Region.ready .any ops s, j < n) (hin : i < n)
    (hdone : ∀ s a w, L s a w → ∀ j ∈ Region.ready .any ops s, n ≤ j) : ∀ (f : Nat) (s : Array Bool) (a : Act) (w : World), HeadInv .any ops n s → Did fs s →
      (∀ j oj, ops[j]? = some oj → j ≠ i → s.getD j true = false → (∀ e ∈ oj.after, Region.binds .any e = true → e.on ≠ i) → oi.apart ops oj = true) →
      i ∈ Region.ready .any ops s → YieldsIf P ops (Ext w) oi v a → anyE P ops Q n L f (s.setIfInBounds i true) (a.put oi.dst v) w → anyE P ops Q n L (f + 1) s a w := by
  intro f
  induction f with
  | zero =>
    intro s a w inv did _ hr hy H
    refine ⟨fun h => (by rw [h] at hr; cases hr), fun j hj => ?_⟩
    have hjn : j < n := hlt s inv did i hin (mem_ready.1 hr).1 j hj
    by_cases hji : j = i
    · subst hji; exact ⟨hjn, hy.wpOp hi (Ext.refl w) ⟨Ext.refl w, H⟩⟩
    · have := hdone _ _ _ H j (ready_mono hj hji)
      omega
  | succ f ih =>
    intro s a w inv did hfree hr hy H
    refine ⟨fun h => (by rw [h] at hr; cases hr), fun j hj => ?_⟩
    have hjn : j < n := hlt s inv did i hin (mem_ready.1 hr).1 j hj
    refine ⟨hjn, ?_⟩
    by_cases hji : j = i
    · subst hji; exact hy.wpOp hi (Ext.refl w) ⟨Ext.refl w, H⟩
    · have h1 := (H.2 j (ready_mono hj hji)).2
      obtain ⟨hjun, oj, hoj, hall⟩ := mem_ready.1 hj
      have hiun := (mem_ready.1 hr).1
      have hnot : ∀ e ∈ oj.after, Region.binds .any e = true → e.on ≠ i := fun e he hb heq => by
        have h2 := hall e he hb
        rw [heq, getD_both hiun] at h2
        cases h2
      have h2 := wpOp_putIf hoj (hfree j oj hoj hji hjun hnot) (fun cs b => hsel i oi cs b hi) (fun cs b => hsel j oj cs b hoj) hQ hy h1
      refine wpOp_mono (fun a' w' h3 => ⟨h3.2.1, ih _ a' w' (inv.set hj hjn) (did.set j) (fun k ok hk hki hun hno => hfree k ok hk hki ?_ hno) (ready_mono hr (Ne.symm hji)) (yields_ext h3.1 h3.2.1) ?_⟩) h2
      · by_cases hjk : j = k
        · subst hjk; exact hjun
        · rwa [getD_set_ne true hjk] at hun
      · rw [Array.setIfInBounds_comm _ _ hji]
        exact h3.2.2
end
section
variable {P : Program} {E : Env} {N : Nat} {st : AS} {th : List NLoc} {z : Zone} {a : Act} {w : World} {AQ : AExit → AS → Prop}
theorem execD_soundF {ops : Array Oper} {kp : AV → AS → Prop} {Q : Exit → Act → World → Prop} {K : AS → Prop} {n : Nat} {fs : List Nat} (hQ : ∀ c a d v w, Q (.panic c) (a.put d v) w → Q (.panic c) a w)
    (hp : ∀ x v st' th' z' a' w', kp x st' → Sim E N st' th' z' a' w' → Rep w' z' th' x v → Q (.panic [{ v := v, recovered := false }]) a' w')
    (hK : ∀ st' th' z' a' w', K st' → Sim E N st' th' z' a' w' → Q .normal a' w') (hd : ∀ o ∈ ops.toList, ∀ i, o.dst = some i → i < N)
    (h1 : Region.noSelect ops = true) (h2 : ∀ s, HeadInv .any ops n s → Did fs s → ∀ i, i < n → s.getD i true = false → ∀ j ∈ Region.ready .any ops s, j < n) :
    ∀ (ord : List Nat) {s : Array Bool} {st : AS} {th : List NLoc} {z : Zone} {a : Act} {w : World}, HeadInv .any ops n s → Did fs s → okOrd ops n ord s = true → Sim E N st th z a w → execD P E N (dsOf ops) kp (ops.toList.drop n) (ordOf ops ord) st K → anyE P ops Q n (tailE P ops Q n) ord.length s a w
  | [], s, st, th, z, a, w, inv, did, ho, h, hx => ⟨ho, exec_sound hp hK _ (fun o ho => hd o (List.mem_of_mem_drop ho)) h hx⟩
  | i :: rest, s, st, th, z, a, w, inv, did, ho, h, hx => by
    simp only [okOrd, Bool.and_eq_true, decide_eq_true_eq] at ho
    obtain ⟨⟨hin, ho1⟩, ho2⟩ := ho
    cases hi : ops[i]? with
    | none => rw [hi] at ho1; simp at ho1
    | some o =>
      simp only [ordOf, List.filterMap_cons, hi] at hx
      unfold execD at hx
      change branch _ (stepG P E N st o.op (fun v st' => execD P E N (dsOf ops) kp (ops.toList.drop n) (ordOf ops rest) (st'.put o.dst v) K) kp) (execD P E N (dsOf ops) kp (ops.toList.drop n) (ordOf ops rest) (st.put o.dst (.r (.tuple #[]))) K) at hx
      have hmem : o ∈ ops.toList := Array.mem_toList_iff.2 (Array.mem_of_getElem? hi)
      have hdo := hd o hmem
      simp only [hi] at ho1
      have ih : ∀ {s : Array Bool} {st : AS} {th : List NLoc} {z : Zone} {a : Act} {w : World}, HeadInv .any ops n s → Did fs s → okOrd ops n rest s = true → Sim E N st th z a w → execD P E N (dsOf ops) kp (ops.toList.drop n) (ordOf ops rest) st K → anyE P ops Q n (tailE P ops Q n) rest.length s a w :=
        execD_soundF hQ hp hK hd h1 h2 rest
      have guard := guard_sound h hx
      split at ho1
      · rename_i hq
        simp only [Bool.and_eq_true] at ho1
        obtain ⟨hr, hf⟩ := ho1
        have hr' : i ∈ Region.ready .any ops s := by simpa using hr
        rcases guard with ⟨hw, hs⟩ | ⟨hw, hs⟩
        · obtain ⟨x, hqv, hs⟩ := stepG_quiet hq hs
          obtain ⟨v, hrep, hrun⟩ := qv_sound h o hqv
          exact anyE_firstF hi (Region.noSelect_spec h1) (fun c a w => hQ c a _ _ w) h2 hin (fun s a w hL => seqB_ready hL.1) _ s a w inv did (Region.free_spec hi hf) hr' (.inl ⟨hw, fun w' e => hrun w' (e.sameK h)⟩)
            (ih (inv.set hr' hin) (did.set i) ho2 (h.put hrep o.dst hdo) hs)
        · exact anyE_firstF hi (Region.noSelect_spec h1) (fun c a w => hQ c a _ _ w) h2 hin (fun s a w hL => seqB_ready hL.1) _ s a w inv did (Region.free_spec hi hf) hr' (.inr ⟨hw, rfl⟩)
            (ih (inv.set hr' hin) (did.set i) ho2 (h.put (.r th undef) o.dst hdo) hs)
      · simp only [decide_eq_true_eq] at ho1
        have hr' : i ∈ Region.ready .any ops s := by rw [ho1]; simp
        refine ⟨fun h0 => (by rw [h0] at hr'; cases hr'), fun j hj => ?_⟩
        rw [ho1] at hj
        obtain rfl : j = i := by simpa using hj
        refine ⟨hin, ?_⟩
        unfold wpOp
        simp only [hi]
        rcases guard with ⟨hw, hs⟩ | ⟨hw, hs⟩
        · rw [if_pos hw]
          exact .inl (stepG_sound h o hs hdo (fun x st' th' z' a' w' g1 g2 g3 => ⟨g3, ih (inv.set hr' hin) (did.set j) ho2 g2 g1⟩) (fun x v st' th' z' w' g1 g2 g3 => hp x v st' th' z' a w' g1 g2 g3))
        · rw [if_neg (by rw [hw]; exact Bool.false_ne_true)]
          exact ⟨Ext.refl w, ih (inv.set hr' hin) (did.set j) ho2 (h.put (.r th undef) o.dst hdo) hs⟩
/-- Moves, one behind the other. -/
def movF (G : List (Nat × List Value)) : List Oper → AS → Option AS
  | [], st => some st
  | ⟨d, .move x, _, _, _, none⟩ :: r, st => match ev st G x with
    | some v => movF G r (st.put d v)
    | none => none
  | _ :: _, _ => none
def okF (ops : Array Oper) (n : Nat) : List Nat → Array Bool → Bool
  | [], _ => true
  | i :: r, s => decide (i < n) && (ops[i]?).isSome && (Region.ready .any ops s).contains i && Region.free .any ops s i && okF ops n r (s.setIfInBounds i true)
def allF (fs : List Nat) (s : Array Bool) : Array Bool := fs.foldl (fun s i => s.setIfInBounds i true) s
def okDrawF (ops : Array Oper) (n : Nat) (fs ord : List Nat) : Bool :=
  Region.noSelect ops && sinkZ ops n fs && Region.chainB .any ops n && decide (n < ops.size) && decide (fs.length + ord.length = n) && okF ops n fs (Array.replicate ops.size false) && okOrd ops n ord (allF fs (Array.replicate ops.size false))
theorem allF_did {fs : List Nat} : ∀ {gs : List Nat} {s : Array Bool}, (∀ f ∈ fs, f ∈ gs ∨ s.getD f true = true) → Did fs (allF gs s)
  | [], s, h => fun f hf => (h f hf).elim (fun h => by cases h) id
  | i :: r, s, h => by
    show Did fs (allF r (s.setIfInBounds i true))
    refine allF_did fun f hf => ?_
    rcases h f hf with h1 | h1
    · rcases List.mem_cons.1 h1 with rfl | h1
      · exact .inr (getD_set_self _ _)
      · exact .inl h1
    · refine .inr ?_
      by_cases e : i = f
      · subst e; exact getD_set_self _ _
      · rw [getD_set_ne true e]; exact h1
theorem take_F {ops : Array Oper} {Q : Exit → Act → World → Prop} {n g : Nat} (hQ : ∀ c a d v w, Q (.panic c) (a.put d v) w → Q (.panic c) a w) (hsel : Region.noSelect ops = true) (hd : ∀ o ∈ ops.toList, ∀ i, o.dst = some i → i < N) :
    ∀ (fs : List Nat) {s : Array Bool} {st st1 : AS} {a : Act}, okF ops n fs s = true → HeadInv .any ops n s → Sim E N st th z a w → movF E.G (ordOf ops fs) st = some st1 →
      (∀ a', HeadInv .any ops n (allF fs s) → Sim E N st1 th z a' w → wpAny P .any ops Q g (allF fs s) a' w) → wpAny P .any ops Q (fs.length + g) s a w
  | [], s, st, st1, a, _, inv, h, hm, hk => by
    simp only [ordOf, List.filterMap_nil, movF, Option.some.injEq] at hm
    subst hm
    have h0 := hk a inv h
    rw [List.length_nil, Nat.zero_add]
    exact h0
  | i :: r, s, st, st1, a, ho, inv, h, hm, hk => by
    simp only [okF, Bool.and_eq_true, decide_eq_true_eq] at ho
    obtain ⟨⟨⟨⟨hin, hsome⟩, hr⟩, hf⟩, ho2⟩ := ho
    obtain ⟨o, hi⟩ := Option.isSome_iff_exists.1 hsome
    have hr' : i ∈ Region.ready .any ops s := by simpa using hr
    have hmem : o ∈ ops.toList := Array.mem_toList_iff.2 (Array.mem_of_getElem? hi)
    simp only [ordOf, List.filterMap_cons, hi] at hm
    obtain ⟨d, op, ty, pos, aft, gd⟩ := o
    unfold movF at hm
    split at hm
    · rename_i hq; cases hq
    · rename_i x d' x' t' p' af' r' e1
      simp only [List.cons.injEq, Oper.mk.injEq] at e1
      obtain ⟨⟨rfl, rfl, rfl, rfl, rfl, rfl⟩, rfl⟩ := e1
      split at hm
      · rename_i v hv
        rw [show (i :: r).length + g = (r.length + g) + 1 by simp; omega]
        refine wpAny_take (v := a.eval x') hi hsel hf hr (fun c a w => hQ c a _ _ w) (.inl ⟨by simp [Region.wanted], fun w' => by simp [execOp]⟩) ?_
        exact take_F hQ hsel hd r ho2 (inv.set hr' hin) (h.put (ev_sound h hv) _ (hd _ hmem)) hm hk
      · cases hm
    · cases hm
theorem awp_df {id : Nat} {ops : Array Oper} {ds : List (Option Nat)} {l l' lf : List Oper} {st1 : AS} (hm : P.follows .mixedOrders = true) (n : Nat) (fs ord : List Nat) (hB : okDrawF ops n fs ord = true) (hd : dstOK N ops = true)
    (hds : dsOf ops = ds) (ht : ops.toList.drop n = l') (hh : ordOf ops ord = l) (hf : ordOf ops fs = lf) (hv : movF E.G lf st = some st1) (h : execD P E N ds (fun x st => AQ (.pan x) st) l' l st1 (AQ .normal)) : AWP P E N (.region id ops true) st AQ := by
  subst hds ht hh hf
  intro Q hQ th z a w hs
  simp only [okDrawF, Bool.and_eq_true, decide_eq_true_eq] at hB
  obtain ⟨⟨⟨⟨⟨⟨b1, b2⟩, b3⟩, b4⟩, b5⟩, b6⟩, b7⟩ := hB
  have hlt : ∀ s, HeadInv .any ops n s → Did fs s → ∀ i, i < n → s.getD i true = false → ∀ j ∈ Region.ready .any ops s, j < n := by
    intro s inv did i hi hs j hj
    by_cases h : j < n
    · exact h
    · have hz : i ∉ fs := fun hz => by rw [did i hz] at hs; cases hs
      exact absurd hj (tail_waitsZ b2 b3 b4 inv _ i rfl hi hz hs j (by omega))
  let Q' : Exit → Act → World → Prop := fun e a w => match e with
    | .panic c => ∀ a' : Act, a'.defers = a.defers → Q (.panic c) a' w
    | e => Q e a w
  refine wp_mono (Q := Q') ?_ (fun e a w hq => by
    cases e
    case panic c => exact hq a rfl
    all_goals exact hq)
  have hQ' : ∀ c a d v w, Q' (.panic c) (a.put d v) w → Q' (.panic c) a w := fun c a d v w hq a' ha => hq a' (by rw [ha]; cases d <;> rfl)
  have inv0 : HeadInv .any ops n (Array.replicate ops.size false) :=
    ⟨by simp, fun j oj _ hl => (by rw [getD_replicate_false] at hl; cases hl), fun t _ ht => getD_in (by simpa using ht) (getD_replicate_false _ _)⟩
  refine wp_region_any hm ?_
  rw [show ops.size = fs.length + (ord.length + (ops.size - n)) by omega]
  refine take_F (P := P) (n := n) (E := E) (N := N) (th := th) (z := z) (g := ord.length + (ops.size - n)) hQ' b1 (dstOK_spec hd) fs (st1 := st1) (by rw [show fs.length + (ord.length + (ops.size - n)) = ops.size by omega]; exact b6) (by rw [show fs.length + (ord.length + (ops.size - n)) = ops.size by omega]; exact inv0) (hs.ext (ext_drew w)) hv (fun a' inv hsim => ?_)
  have did : Did fs (allF fs (Array.replicate ops.size false)) := allF_did fun f hf => .inl hf
  rw [show fs.length + (ord.length + (ops.size - n)) = ops.size by omega] at inv ⊢
  have key := execD_soundF (Q := Q') (K := AQ .normal) (kp := fun x st => AQ (.pan x) st) (P := P) (fs := fs) hQ' (fun x v st' th' z' a' w' g1 g2 g3 a2 ha => hQ.2.2.2 x v st' th' z' w' g1 g2.mem g3 a2 (ha.trans g2.dfs))
    (fun st' th' z' a' w' g1 g2 => hQ.1 st' th' z' a' w' g1 g2) (dstOK_spec hd) b1 hlt ord inv did b7 hsim h
  exact anyE_out (g := ops.size - n) (fun s a w hL => by
    have := wpAny_of_seq (md := .any) (Q' := Q') (ops.toList.drop n) n s a w (fun j => by simp [List.getElem?_drop]) (by simpa using hL.1) hL.2
    simpa using this) _ _ _ _ key
end
section
variable {P : Program} {E : Env} {N : Nat} {st : AS} {AQ : AExit → AS → Prop}
attribute [go_sem] movF
theorem rF {id : Nat} {ops : Array Oper} {ds : List (Option Nat)} {l l' lf : List Oper} {st1 : AS} (hm : P.follows .mixedOrders = true) (n : Nat) (fs ord : List Nat)
    (h : ∀ (K : AS → Prop) (kp : AV → AS → Prop), (∀ st', AQ .normal st' → K st') → (∀ x st', AQ (.pan x) st' → kp x st') → exD P E N ds kp l' l st1 K)
    (hB : okDrawF ops n fs ord = true := by kernel_rfl) (hd : dstOK N ops = true := by kernel_rfl) (hg : ((ordOf ops ord).all fun o => isG o.op) = true := by kernel_rfl)
    (hds : dsOf ops = ds := by simp only [go_sem]; rfl) (ht : ops.toList.drop n = l' := by simp only [go_sem]; rfl) (hh : ordOf ops ord = l := by simp only [go_sem]; rfl) (hf : ordOf ops fs = lf := by simp only [go_sem]; rfl)
    (hv : movF E.G lf st = some st1 := by simp only [go_sem]; rfl) : AWP P E N (.region id ops true) st AQ :=
  awp_df hm n fs ord hB hd hds ht hh hf hv (execD_of (by rw [← hh]; exact hg) (h _ _ (fun _ h => h) (fun _ _ h => h)))
end
end Go.AM
/- The abstract machine: lists of lists: opened, shut, read alone from now on. -/
namespace Go.AM
open Go
section
variable {P : Program} {E : Env} {N : Nat} {st : AS} {th : List NLoc} {z : Zone} {a : Act} {w : World} {o : List (Nat × Nd)} {n : Nat}
theorem lk_set {n : Nat} {nd : Nd} {o : List (Nat × Nd)} {j : Nat} {x : Nd} (h : lk ((n, nd) :: o) j = some x) : (n = j ∧ x = nd) ∨ (n ≠ j ∧ lk o j = some x) := by
  simp only [lk] at h
  split at h
  · rename_i e; cases h; exact .inl ⟨e, rfl⟩
  · rename_i e; exact .inr ⟨e, h⟩
/-- A list as a list of lists. -/
theorem emb_toU (n : Nat) {T k : Nat} {els : List (List AV)} (h : lk st.o n = some (.lst T k els)) : Emb E N st (setNd st n (.ul T k els [])) := by
  intro th z a w hs
  obtain ⟨U, hU⟩ := hs.mem.uls
  obtain ⟨L, h1, h2, h3⟩ := hs.mem.nds n _ h
  refine ⟨th, z, hs.mem.sayU h rfl (fun e he => ?_) ⟨U, hU.say0 h (fun M hM => ?_)⟩, hs.size, hs.dfs, hs.slots⟩
  · obtain ⟨i, hi⟩ := List.mem_iff_getElem?.1 he
    rcases h2 with ⟨_, h0⟩ | ⟨_, cells, fr, g1, g2, g3, g4, g5, g6⟩
    · subst h0; simp at hi
    · rw [← g3]; exact (g6 i e hi).1
  · rw [h1] at hM; cases hM
    refine ⟨fun _ _ _ => False, fun _ _ _ h => h, fun _ _ _ _ _ h => h.elim, fun i e he j x hx => ?_⟩
    rcases h2 with ⟨_, h0⟩ | ⟨_, cells, fr, g1, g2, g3, g4, g5, g6⟩
    · subst h0; simp at he
    · obtain ⟨y, hy, hr, ho⟩ := (g6 i e he).2 j x hx
      exact ⟨y, by rw [cell_of g1]; exact hy, ho, .r _ _ _ hr⟩
/-- Of a list less is told. -/
theorem emb_cut (n m : Nat) {T k : Nat} {els : List (List AV)} (h : lk st.o n = some (.lst T k els)) : Emb E N st (setNd st n (.lst T k (els.take m))) := by
  intro th z a w hs
  refine ⟨th, z, hs.say h (fun L hL hn => ?_)⟩
  rcases hn with ⟨h1, h2⟩ | ⟨hp, cells, fr, h1, h2, h3, h4, h5, h6⟩
  · exact .inl ⟨h1, by rw [h2]; simp⟩
  · refine .inr ⟨hp, cells, fr, h1, h2, h3, h4, by have := List.length_take_le' m els; omega, fun i e he => h6 i e ?_⟩
    rw [List.getElem?_take] at he
    split at he
    · exact he
    · cases he
/-- What the elements bear is read alone from now on. -/
theorem emb_toL (n : Nat) {T k : Nat} {els : List (List AV)} (h : lk st.o n = some (.ul T k els [])) : Emb E N st (setNd st n (.lst T k (dfzR true els))) := by
  intro th z a w hs
  obtain ⟨U, hU⟩ := hs.mem.uls
  have m := hs.mem
  obtain ⟨L, h1, h2, h3⟩ := m.nds n _ h
  let z' : Zone := fun t b => z t b ∨ (t = true ∧ U n b)
  have le : Le w z w z' := ⟨fun _ _ h => .inl h, fun _ _ _ => rfl⟩
  have key : ∀ j x, lk ((n, Nd.lst T k (dfzR true els)) :: st.o) j = some x → ∃ y, lk st.o j = some y := by
    intro j x hj
    rcases lk_set hj with ⟨rfl, _⟩ | ⟨_, hj⟩
    · exact ⟨_, h⟩
    · exact ⟨_, hj⟩
  have hnz : ∀ j nd M, lk st.o j = some nd → th[j]? = some M → M.ph = false → ∀ t, ¬ z' t M.b := by
    intro j nd M hj hM hp t hz
    obtain ⟨M', k1, _, k3⟩ := m.nds j nd hj
    rw [hM] at k1; cases k1
    rcases hz with hz | ⟨_, hz⟩
    · exact (k3 hp).2.1 t hz
    · exact hU.kn j nd M n hj hM hp hz
  refine ⟨th, z', ⟨m.len, fun j x hj => ?_, fun i j x y A B hi hj => ?_, fun t b hz => ?_, m.grow, m.frame, fun t b hb => .inl (m.zin t b hb), fun b hz => ?_, fun b hz => ?_, fun g cs hg => ⟨.inl (m.globs g cs hg).1, (m.globs g cs hg).2⟩, m.pre, m.sys, fun i b => i ≠ n ∧ U i b, fun i T' k' els' op' M hi hM => ?_, fun i b hb => hU.lt i b hb.2, fun i b hb t hz => ?_, fun i b hb => hU.ow i b hb.2, fun i j b hb hb' => hU.inj i j b hb.2 hb'.2, fun i nd M j hi hM hp hb => ?_⟩, hs.size, hs.dfs, fun i x hi => ?_⟩
  · rcases lk_set hj with ⟨rfl, rfl⟩ | ⟨hne, hj⟩
    · refine ⟨L, h1, ?_, fun hp => ⟨(h3 hp).1, hnz n _ L h h1 hp, (h3 hp).2.2⟩⟩
      rcases h2 with ⟨hp, h0⟩ | ⟨hp, cells, fr, g1, g2, g3, g4, g5, g6⟩
      · subst h0; exact .inl ⟨hp, by simp [dfzR]⟩
      · obtain ⟨F, f1, _, f3⟩ := hU.at_ n _ _ _ _ L h h1
        refine .inr ⟨hp, cells, fr, g1, g2, g3, g4, by rw [dfzR_len]; exact g5, fun i e he => ?_⟩
        rw [dfzR_get, Option.map_eq_some_iff] at he
        obtain ⟨e0, he0, rfl⟩ := he
        refine ⟨by rw [dfzC_len]; exact g6 i e0 he0, fun j x hx => ?_⟩
        rw [dfzC_get, Option.map_eq_some_iff] at hx
        obtain ⟨x0, hx0, rfl⟩ := hx
        obtain ⟨y, hy, ho, hcu⟩ := f3 i e0 he0 j x0 hx0
        exact ⟨y, by rw [← cell_of g1]; exact hy, UC.seen (show UC w z (F i j) x0 y from hcu) (fun _ _ h => .inl h) (fun b hb => .inr ⟨rfl, f1 _ _ _ hb⟩), ho⟩
    · obtain ⟨M, k1, k2, k3⟩ := m.nds j x hj
      exact ⟨M, k1, by simpa using k2.on le (fun _ => rfl) [], fun hp => ⟨(k3 hp).1, hnz j x M hj k1 hp, (k3 hp).2.2⟩⟩
  · obtain ⟨x', hx'⟩ := key i x hi
    obtain ⟨y', hy'⟩ := key j y hj
    exact m.inj i j x' y' A B hx' hy'
  · rcases hz with hz | ⟨_, hz⟩
    · exact m.zlt t b hz
    · exact hU.lt n b hz
  · rcases hz with hz | ⟨_, hz⟩
    · exact m.zout b hz
    · exact .inr (hU.ow n b hz)
  · rcases hz with hz | ⟨hf, _⟩
    · exact m.zb b hz
    · cases hf
  · rcases lk_set hi with ⟨_, he⟩ | ⟨hne, hi⟩
    · cases he
    · obtain ⟨F, f1, f2, f3⟩ := (hU.at_ i T' k' els' op' M hi hM).on le (fun _ _ => rfl) (.inr rfl) []
      rw [List.append_nil] at f3
      exact ⟨F, fun a b c hc => ⟨Ne.symm hne, f1 a b c hc⟩, f2, f3⟩
  · rcases hz with hz | ⟨_, hz⟩
    · exact hU.nz i b hb.2 t hz
    · exact hb.1 (hU.inj i n b hb.2 hz)
  · obtain ⟨x', hx'⟩ := key i nd hi
    exact hU.kn i x' M j hx' hM hp hb.2
  · obtain ⟨y, hy, hr⟩ := hs.slots i x hi
    exact ⟨y, hy, hr.on' le⟩
/-- What was opened is shut. -/
theorem emb_close (n i j : Nat) {T k T' k' m lo len : Nat} {els els' : List (List AV)} {op : List (Nat × Nat × AV)} {e : List AV} (h : lk st.o n = some (.ul T k els op)) (hop : lk2 op i j = some (.s m lo len)) (hm : lk st.o m = some (.ul T' k' els' [])) (hne : m ≠ n) (hle : lo + len ≤ els'.length) (he : els[i]? = some e) (hj : j < e.length) :
    Emb E N st { st with o := (n, .ul T k (els.set i (e.set j (.u T' k' ((els'.drop lo).take len)))) (rm2 op i j 1)) :: rm st.o m } := by
  intro th z a w hs
  obtain ⟨U, hU⟩ := hs.mem.uls
  have mm := hs.mem
  obtain ⟨L, h1, h2, h3⟩ := mm.nds n _ h
  obtain ⟨M, m1, m2, m3⟩ := mm.nds m _ hm
  obtain ⟨F, f1, f2, f3⟩ := hU.at_ n _ _ _ _ L h h1
  obtain ⟨G, q1, q2, q3⟩ := hU.at_ m _ _ _ _ M hm m1
  have hi : i < els.length := (List.getElem?_eq_some_iff.1 he).1
  have key : ∀ q x, lk ((n, Nd.ul T k (els.set i (e.set j (.u T' k' ((els'.drop lo).take len)))) (rm2 op i j 1)) :: rm st.o m) q = some x → q ≠ m ∧ ∃ y, lk st.o q = some y := by
    intro q x hq
    rcases lk_set hq with ⟨rfl, _⟩ | ⟨_, hq⟩
    · exact ⟨Ne.symm hne, _, h⟩
    · rw [lk_rm] at hq
      split at hq
      · cases hq
      · rename_i hqm; exact ⟨Ne.symm hqm, _, hq⟩
  let V : Nat → Prop := fun b => U m b ∨ (M.ph = false ∧ b = M.b)
  have hVn : ∀ b, V b → ¬ U n b := by
    rintro b (hb | ⟨hp, rfl⟩) hn
    · exact hne (hU.inj m n b hb hn)
    · exact hU.kn m _ M n hm m1 hp hn
  have hVq : ∀ q b, q ≠ m → V b → ¬ U q b := by
    rintro q b hq (hb | ⟨hp, rfl⟩) hn
    · exact hq (hU.inj q m b hn hb)
    · exact hU.kn m _ M q hm m1 hp hn
  have hold : ∀ q nd, lk (rm st.o m) q = some nd → q ≠ m ∧ lk st.o q = some nd := by
    intro q nd hq
    rw [lk_rm] at hq
    split at hq
    · cases hq
    · rename_i hqm; exact ⟨Ne.symm hqm, hq⟩
  refine ⟨th, z, ⟨mm.len, fun q x hq => ?_, fun p q x y A B hp hq => ?_, mm.zlt, mm.grow, mm.frame, mm.zin, mm.zout, mm.zb, mm.globs, mm.pre, mm.sys, fun q b => if q = n then U n b ∨ V b else q ≠ m ∧ U q b, fun q T2 k2 els2 op2 A hq hA => ?_, fun q b hb => ?_, fun q b hb => ?_, fun q b hb => ?_, fun p q b hb hb' => ?_, fun p nd A q hp hA hph hb => ?_⟩, hs.size, hs.dfs, hs.slots⟩
  · rcases lk_set hq with ⟨rfl, rfl⟩ | ⟨_, hq⟩
    · refine ⟨L, h1, ?_, h3⟩
      rcases h2 with ⟨_, h0⟩ | ⟨hp, cells, fr, g1, g2, g3, g4, g5, g6⟩
      · subst h0; simp at he
      · refine .inr ⟨hp, cells, fr, g1, g2, g3, g4, by simpa using g5, fun p e' hp' => ?_⟩
        rw [List.getElem?_set] at hp'
        split at hp'
        · obtain rfl := Option.some.inj hp'; rw [List.length_set]; exact g6 i e he
        · exact g6 p e' hp'
    · exact mm.nds q x (hold q x hq).2
  · obtain ⟨_, x', hx'⟩ := key p x hp
    obtain ⟨_, y', hy'⟩ := key q y hq
    exact mm.inj p q x' y' A B hx' hy'
  · rcases lk_set hq with ⟨rfl, heq⟩ | ⟨hqn, hq⟩
    · cases heq
      rw [h1] at hA; cases hA
      simp only [if_true]
      refine ⟨fun a b c => if a = i ∧ b = j then V c else F a b c, fun a b c hc => ?_, fun a b a' b' c hc hc' => ?_, fun p e' hp q x hx => ?_⟩
      · dsimp only at hc
        split at hc
        · exact .inr hc
        · exact .inl (f1 _ _ _ hc)
      · dsimp only at hc hc'
        split at hc <;> split at hc'
        · omega
        · exact (hVn c hc (f1 _ _ _ hc')).elim
        · exact (hVn c hc' (f1 _ _ _ hc)).elim
        · exact f2 _ _ _ _ _ hc hc'
      · have old : ∀ e0, els[p]? = some e0 → e0[q]? = some x → ¬ (p = i ∧ q = j) → ∃ y, w.cell? ⟨L.b, L.o + p * L.k + q, none⟩ = some y ∧ y.oneCell' = true ∧ CellU w z th (if p = i ∧ q = j then V else F p q) (rm2 op i j 1) p q x y := by
          intro e0 he0 hx0 hn
          obtain ⟨y, hy, ho, hcu⟩ := f3 p e0 he0 q x hx0
          refine ⟨y, hy, ho, ?_⟩
          rw [if_neg hn]
          unfold CellU at hcu ⊢
          rw [lk2_rm2, if_neg (by omega)]
          exact hcu
        have hF : (fun c => if p = i ∧ q = j then V c else F p q c) = if p = i ∧ q = j then V else F p q := by
          split <;> rfl
        show ∃ y, w.cell? ⟨L.b, L.o + p * L.k + q, none⟩ = some y ∧ y.oneCell' = true ∧ CellU w z th (fun c => if p = i ∧ q = j then V c else F p q c) (rm2 op i j 1) p q x y
        rw [hF]
        rw [List.getElem?_set] at hp
        split at hp
        · rename_i hpi
          · subst hpi
            obtain rfl := Option.some.inj hp
            rw [List.getElem?_set] at hx
            split at hx
            · rename_i hqj
              · subst hqj
                obtain rfl := Option.some.inj hx
                obtain ⟨y, hy, ho, hcu⟩ := f3 i e he j e[j] (by simp [hj])
                refine ⟨y, hy, ho, ?_⟩
                rw [if_pos ⟨rfl, rfl⟩]
                unfold CellU at hcu ⊢
                rw [hop] at hcu
                rw [lk2_rm2, if_pos (by omega)]
                obtain ⟨M', hM', hcase⟩ := hcu.s_inv
                rw [m1] at hM'; cases hM'
                rcases hcase with ⟨_, rfl, rfl⟩ | ⟨hp2, c, o', rfl, hlc, hcap, hox⟩
                · simp only [List.take_zero]; exact .n _ _ _
                · rcases m2 with ⟨hp', _⟩ | ⟨_, cells, fr, g1, g2, g3, g4, g5, g6⟩
                  · rw [hp2] at hp'; cases hp'
                  have hlen : ((els'.drop lo).take len).length = len := by simp; omega
                  have := UC.u (w := w) (z := z) V T' k' ((els'.drop lo).take len) M.b o' c cells fr (fun a b d => G (lo + a) b d) (fun a b => (w.cell? ⟨M.b, o' + a * k' + b, none⟩).getD undef) g1 g2 (by rw [hlen]; exact hlc) (fun hc => by
                    have e1 := hox hc
                    have : (lo + c) * M.k ≤ M.cap * M.k := Nat.mul_le_mul_right _ hcap
                    rw [Nat.add_mul] at this
                    rw [e1, ← g3]; omega) (.inr ⟨hp2, rfl⟩) (fun a b d hd => ⟨.inl (q1 _ _ _ hd), fun e1 => by subst e1; exact hU.kn m _ M m hm m1 hp2 (q1 _ _ _ hd)⟩) (fun a b a' b' d hd hd' => by
                    have := q2 _ _ _ _ _ hd hd'; exact ⟨by omega, this.2⟩) (fun a e1 ha => ?_) (fun a e1 b x1 ha hb => ?_) (fun a e1 b x1 ha hb => ?_) (fun a e1 b x1 ha hb => ?_)
                  · rw [hlen] at this; exact this
                  all_goals
                    rw [List.getElem?_take] at ha
                    split at ha
                    rotate_left
                    · cases ha
                    rename_i hlt
                    rw [List.getElem?_drop] at ha
                  · rw [← g3]; exact g6 _ _ ha
                  all_goals
                    obtain ⟨y1, hy1, ho1, hcu1⟩ := q3 _ e1 ha b x1 hb
                    have e2 := hox (by omega)
                    have e3 : M.o + (lo + a) * M.k + b = o' + a * k' + b := by rw [e2, Nat.add_mul, g3]; omega
                    rw [e3] at hy1
                    simp only [hy1, Option.getD_some]
                  · rw [← cell_of g1]; exact hy1
                  · exact ho1
                  · exact hcu1
            · rename_i hqj
              exact old e he hx (fun hh => hqj hh.2.symm)
        · rename_i hpi
          exact old e' hp hx (fun hh => hpi hh.1.symm)
    · obtain ⟨k1, k9⟩ := hold q _ hq
      obtain ⟨F2, u1, u2, u3⟩ := hU.at_ q T2 k2 els2 op2 A k9 hA
      refine ⟨F2, fun a b c hc => ?_, u2, u3⟩
      dsimp only
      rw [if_neg (Ne.symm hqn)]
      exact ⟨k1, u1 a b c hc⟩
  · split at hb
    · rcases hb with hb | hb | ⟨hp, rfl⟩
      · exact hU.lt _ _ hb
      · exact hU.lt _ _ hb
      · exact (m3 hp).1
    · exact hU.lt _ _ hb.2
  · split at hb
    · rcases hb with hb | hb | ⟨hp, rfl⟩
      · exact hU.nz _ _ hb
      · exact hU.nz _ _ hb
      · exact (m3 hp).2.1
    · exact hU.nz _ _ hb.2
  · split at hb
    · rcases hb with hb | hb | ⟨hp, rfl⟩
      · exact hU.ow _ _ hb
      · exact hU.ow _ _ hb
      · exact (m3 hp).2.2
    · exact hU.ow _ _ hb.2
  · split at hb <;> split at hb'
    · omega
    · rcases hb with hb | hb
      · rename_i hpn hqn; subst hpn; exact hU.inj _ _ _ hb hb'.2
      · exact (hVq q b hb'.1 hb hb'.2).elim
    · rcases hb' with hb' | hb'
      · rename_i hpn hqn; subst hqn; exact hU.inj _ _ _ hb.2 hb'
      · exact (hVq p b hb.1 hb' hb.2).elim
    · exact hU.inj _ _ _ hb.2 hb'.2
  · obtain ⟨hpm, x', hx'⟩ := key p nd hp
    split at hb
    · rcases hb with hb | hb | ⟨hp2, hb⟩
      · exact hU.kn p x' A n hx' hA hph hb
      · exact hU.kn p x' A m hx' hA hph hb
      · exact hpm (mm.inj p m x' _ A M hx' hm hA m1 hph hp2 hb)
    · exact hU.kn p x' A q hx' hA hph hb.2
/-- A slice that an element bears is opened: an own thing from now on. -/
theorem emb_open (n i j : Nat) {T k T' k' : Nat} {els els' : List (List AV)} {op : List (Nat × Nat × AV)} {e : List AV} (h : lk st.o n = some (.ul T k els op)) (he : els[i]? = some e) (hj : e[j]? = some (.u T' k' els')) (hop : lk2 op i j = none) :
    Emb E N st { m := st.m, o := (st.n, .ul T' k' els' []) :: (n, .ul T k els ((i, j, .s st.n 0 els'.length) :: op)) :: st.o, n := st.n + 1 } := by
  intro th z a w hs
  obtain ⟨U, hU⟩ := hs.mem.uls
  have mm := hs.mem
  obtain ⟨L, h1, h2, h3⟩ := mm.nds n _ h
  obtain ⟨F, f1, f2, f3⟩ := hU.at_ n _ _ _ _ L h h1
  obtain ⟨y, hy, ho, hcu⟩ := f3 i e he j _ hj
  unfold CellU at hcu
  rw [hop] at hcu
  have hltn : n < st.n := by rw [← mm.len]; exact (List.getElem?_eq_some_iff.1 h1).1
  have core : ∃ (L' : NLoc) (Um : Nat → Prop), NdAt w z (th ++ [L']) L' (.ul T' k' els' []) ∧ UlAt w z (th ++ [L']) Um L' els' [] ∧ Rep w z (th ++ [L']) (.s st.n 0 els'.length) y ∧ (L'.ph = false → F i j L'.b) ∧ ∀ b, Um b → F i j b ∧ (L'.ph = false → b ≠ L'.b) := by
    cases hcu with
    | r _ _ _ hr => cases hr
    | n _ _ _ => exact ⟨⟨0, 0, 0, 0, true⟩, fun _ => False, .inl ⟨rfl, rfl⟩, ⟨fun _ _ _ => False, fun _ _ _ h => h, fun _ _ _ _ _ h => h.elim, fun i e he => by simp at he⟩, .sn _ _ 0 _ (hs.get_new _) rfl, fun hp => (by cases hp), fun b h => h.elim⟩
    | u _ _ _ _ b o c cells fr G ys hb hf hl hsz hfb hF hd hk hy' h1' hx =>
      refine ⟨⟨b, if c = 0 then 0 else o, k', c, false⟩, fun b' => ∃ p q, G p q b', .inr ⟨rfl, cells, fr, hb, hf, rfl, ?_, hl, fun p e1 hp => hk p e1 hp⟩, ⟨G, fun p q b' hb' => ⟨p, q, hb'⟩, hd, fun p e1 hp q x hx' => ⟨ys p q, ?_, h1' p e1 q x hp hx', hx p e1 q x hp hx'⟩⟩, .s _ _ 0 _ c o _ (hs.get_new _) rfl hl (by simp) (fun hc => by simp; omega), fun _ => hfb, fun b' ⟨p, q, hb'⟩ => ⟨(hF p q b' hb').1, fun _ => (hF p q b' hb').2⟩⟩
      · show (if c = 0 then 0 else o) + c * k' ≤ cells.size
        by_cases hc : c = 0
        · simp [hc]
        · rw [if_neg hc]; exact hsz (by omega)
      · have hlt : p < els'.length := (List.getElem?_eq_some_iff.1 hp).1
        show w.cell? ⟨b, (if c = 0 then 0 else o) + p * k' + q, none⟩ = _
        rw [if_neg (by omega), cell_of hb]
        exact hy' p e1 q x hp hx'
  obtain ⟨L', Um, c1, c2, c3, c4, c5⟩ := core
  have hget : (th ++ [L'])[st.n]? = some L' := hs.get_new L'
  have lr : Le w z w z := Le.refl w z
  have look : ∀ q x, lk ((st.n, Nd.ul T' k' els' []) :: (n, Nd.ul T k els ((i, j, .s st.n 0 els'.length) :: op)) :: st.o) q = some x → (q = st.n ∧ x = .ul T' k' els' []) ∨ (q = n ∧ x = .ul T k els ((i, j, .s st.n 0 els'.length) :: op)) ∨ (q ≠ st.n ∧ q ≠ n ∧ lk st.o q = some x) := by
    intro q x hq
    rcases lk_set hq with ⟨rfl, rfl⟩ | ⟨g1, hq⟩
    · exact .inl ⟨rfl, rfl⟩
    · rcases lk_set hq with ⟨rfl, rfl⟩ | ⟨g2, hq⟩
      · exact .inr (.inl ⟨rfl, rfl⟩)
      · exact .inr (.inr ⟨Ne.symm g1, Ne.symm g2, hq⟩)
  have old : ∀ q x M, lk st.o q = some x → (th ++ [L'])[q]? = some M → th[q]? = some M := by
    intro q x M hq hM
    obtain ⟨A, k1, _⟩ := mm.nds q x hq
    have := pre_get [L'] k1
    rw [hM] at this; cases this; exact k1
  have known : ∀ q x M, lk ((st.n, Nd.ul T' k' els' []) :: (n, Nd.ul T k els ((i, j, .s st.n 0 els'.length) :: op)) :: st.o) q = some x → (th ++ [L'])[q]? = some M → (q = st.n ∧ M = L') ∨ (q ≠ st.n ∧ ∃ x', lk st.o q = some x' ∧ th[q]? = some M) := by
    intro q x M hq hM
    rcases look q x hq with ⟨rfl, _⟩ | ⟨rfl, _⟩ | ⟨g1, _, g3⟩
    · rw [hget] at hM; cases hM; exact .inl ⟨rfl, rfl⟩
    · exact .inr ⟨by omega, _, h, old _ _ _ h hM⟩
    · exact .inr ⟨g1, _, g3, old _ _ _ g3 hM⟩
  refine ⟨th ++ [L'], z, ⟨by simp [mm.len], fun q x hq => ?_, fun p q x y A B hp hq hA hB e1 e2 hb => ?_, mm.zlt, mm.grow, mm.frame, mm.zin, mm.zout, mm.zb, mm.globs, fun i L hi => pre_get _ (mm.pre i L hi), mm.sys, fun q b => if q = st.n then Um b else if q = n then U n b ∧ ¬ F i j b else U q b, fun q T2 k2 els2 op2 A hq hA => ?_, fun q b hb => ?_, fun q b hb => ?_, fun q b hb => ?_, fun p q b hb hb' => ?_, fun p nd A q hp hA hph hb => ?_⟩, hs.size, hs.dfs, fun q x hq => ?_⟩
  · rcases look q x hq with ⟨rfl, rfl⟩ | ⟨rfl, rfl⟩ | ⟨_, _, g3⟩
    · exact ⟨L', hget, c1, fun hp => ⟨hU.lt n _ (f1 _ _ _ (c4 hp)), hU.nz n _ (f1 _ _ _ (c4 hp)), hU.ow n _ (f1 _ _ _ (c4 hp))⟩⟩
    · exact ⟨L, pre_get _ h1, (show NdAt w z (th ++ [L']) L (.ul T k els op) from h2.on lr (fun _ => rfl) [L']), h3⟩
    · obtain ⟨M, k1, k2, k3⟩ := mm.nds q x g3
      exact ⟨M, pre_get _ k1, k2.on lr (fun _ => rfl) [L'], k3⟩
  · rcases known p x A hp hA with ⟨rfl, rfl⟩ | ⟨g1, x', g2, g3⟩ <;> rcases known q y B hq hB with ⟨rfl, rfl⟩ | ⟨g4, y', g5, g6⟩
    · rfl
    · have := f1 _ _ _ (c4 e1); rw [hb] at this; exact (hU.kn q y' B n g5 g6 e2 this).elim
    · have := f1 _ _ _ (c4 e2); rw [← hb] at this; exact (hU.kn p x' A n g2 g3 e1 this).elim
    · exact mm.inj p q x' y' A B g2 g5 g3 g6 e1 e2 hb
  · rcases look q _ hq with ⟨rfl, heq⟩ | ⟨rfl, heq⟩ | ⟨g1, g2, g3⟩
    · cases heq
      rw [hget] at hA; cases hA
      simp only [if_true]
      exact c2
    · cases heq
      have hA' := old q _ A h hA
      rw [h1] at hA'; cases hA'
      rw [show (fun b => if q = st.n then Um b else if q = q then U q b ∧ ¬ F i j b else U q b) = fun b => U q b ∧ ¬ F i j b by funext b; rw [if_neg (by omega), if_pos rfl]]
      refine ⟨fun a b c => F a b c ∧ ¬ (a = i ∧ b = j), fun a b c hc => ⟨f1 _ _ _ hc.1, fun hij => hc.2 (f2 _ _ _ _ _ hc.1 hij)⟩, fun a b a' b' c hc hc' => f2 _ _ _ _ _ hc.1 hc'.1, fun p e1 hp r x hx => ?_⟩
      obtain ⟨y1, hy1, ho1, hcu1⟩ := f3 p e1 hp r x hx
      refine ⟨y1, hy1, ho1, ?_⟩
      unfold CellU at hcu1 ⊢
      simp only [lk2]
      by_cases hpr : i = p ∧ j = r
      · rw [if_pos hpr]
        obtain ⟨rfl, rfl⟩ := hpr
        rw [hy] at hy1; cases hy1
        exact c3
      · rw [if_neg hpr]
        have : CellU w z th (F p r) op p r x y1 := hcu1
        have := this.on lr (fun _ _ => rfl) [L']
        unfold CellU at this
        split at this
        · exact this
        · exact this.sub (fun b hb => ⟨hb, fun hh => hpr ⟨hh.1.symm, hh.2.symm⟩⟩)
    · have hA' := old q _ A g3 hA
      have := (hU.at_ q T2 k2 els2 op2 A g3 hA').on lr (fun _ _ => rfl) (.inr rfl) [L']
      rw [show (fun b => if q = st.n then Um b else if q = n then U n b ∧ ¬ F i j b else U q b) = U q by funext b; rw [if_neg g1, if_neg g2]]
      exact this
  · split at hb
    · exact hU.lt n b (f1 _ _ _ (c5 b hb).1)
    · split at hb
      · exact hU.lt n b hb.1
      · exact hU.lt q b hb
  · split at hb
    · exact hU.nz n b (f1 _ _ _ (c5 b hb).1)
    · split at hb
      · exact hU.nz n b hb.1
      · exact hU.nz q b hb
  · split at hb
    · exact hU.ow n b (f1 _ _ _ (c5 b hb).1)
    · split at hb
      · exact hU.ow n b hb.1
      · exact hU.ow q b hb
  · have cls : ∀ q b, (if q = st.n then Um b else if q = n then U n b ∧ ¬ F i j b else U q b) → (q = st.n ∧ F i j b) ∨ (q ≠ st.n ∧ U q b ∧ ¬ F i j b) := by
      intro q b hb
      split at hb
      · rename_i e1; exact .inl ⟨e1, (c5 b hb).1⟩
      · rename_i e1
        split at hb
        · rename_i e2; subst e2; exact .inr ⟨e1, hb.1, hb.2⟩
        · rename_i e2; exact .inr ⟨e1, hb, fun hF => e2 (hU.inj q n b hb (f1 _ _ _ hF))⟩
    rcases cls p b hb with ⟨g1, g2⟩ | ⟨g1, g2, g3⟩ <;> rcases cls q b hb' with ⟨g4, g5⟩ | ⟨g4, g5, g6⟩
    · rw [g1, g4]
    · exact (g6 g2).elim
    · exact (g3 g5).elim
    · exact hU.inj p q b g2 g5
  · rcases known p nd A hp hA with ⟨rfl, rfl⟩ | ⟨g1, x', g2, g3⟩
    · split at hb
      · exact (c5 _ hb).2 hph rfl
      · split at hb
        · exact hb.2 (c4 hph)
        · rename_i e1 e2; exact e2 (hU.inj q n _ hb (f1 _ _ _ (c4 hph)))
    · split at hb
      · exact hU.kn p x' A n g2 g3 hph (f1 _ _ _ (c5 _ hb).1)
      · split at hb
        · exact hU.kn p x' A n g2 g3 hph hb.1
        · exact hU.kn p x' A q g2 g3 hph hb
  · obtain ⟨u, hu, hr⟩ := hs.slots q x hq
    exact ⟨u, hu, hr.on lr [L']⟩
end
end Go.AM
