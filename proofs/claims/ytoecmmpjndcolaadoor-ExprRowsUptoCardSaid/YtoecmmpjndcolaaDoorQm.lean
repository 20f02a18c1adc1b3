/- The abstract machine, 13: a call by a contract that bears no own things. -/
import Derived.Test.YtoecmmpjndcolaaDoorQl
set_option linter.unusedSimpArgs false
set_option linter.unusedVariables false
namespace Go.AM
open Go
/-- Read for good: nothing that is read for the time of the call alone is in it. -/
inductive PT : AV → Prop
  | r (v : Value) : PT (.r v)
  | ro (k : Nat) (els : List (List AV)) (h : ∀ e ∈ els, ∀ x ∈ e, PT x) : PT (.ro true k els)
  | re (c : List AV) (off : Nat) (h : ∀ x ∈ c, PT x) : PT (.re true c off)
  | s (n lo len : Nat) : PT (.s n lo len)
  | p (n i off : Nat) : PT (.p n i off)
  | agg (c : List AV) (h : ∀ x ∈ c, PT x) : PT (.agg c)
  | tup (c : List AV) (h : ∀ x ∈ c, PT x) : PT (.tup c)
  | ifc (t : Nat) (x : AV) (h : PT x) : PT (.ifc t x)
def PTNd : Nd → Prop
  | .box _ c => ∀ x ∈ c, PT x
  | .lst _ _ els => ∀ e ∈ els, ∀ x ∈ e, PT x
mutual
/-- As a callee may read it. -/
def bor (st : AS) : AV → Option AV
  | .s n lo len => match lk st.o n with
    | some (.lst _ k els) => if lo + len ≤ els.length then some (.ro false k ((els.drop lo).take len)) else none
    | _ => none
  | .p n i off => match lk st.o n with
    | some (.box _ c) => if i = 0 then (borC c).map fun c' => .re false c' off else none
    | _ => none
  | .r v => some (.r v)
  | .ro t k els => some (.ro t k els)
  | .re t c off => some (.re t c off)
  | .agg c => (borL st c).map .agg
  | .tup c => (borL st c).map .tup
  | .fn f c => (borL st c).map (.fn f)
  | .ifc t x => (bor st x).map (.ifc t)
def borL (st : AS) : List AV → Option (List AV)
  | [] => some []
  | x :: r => match bor st x, borL st r with
    | some a, some l => some (a :: l)
    | _, _ => none
/-- The cells of a box that bear no addresses of own things. -/
def borC : List AV → Option (List AV)
  | [] => some []
  | .r v :: r => (borC r).map (.r v :: ·)
  | .ro t k els :: r => (borC r).map (.ro t k els :: ·)
  | .re t c off :: r => (borC r).map (.re t c off :: ·)
  | _ :: _ => none
end
section
variable {P : Program} {E : Env} {N : Nat} {st : AS} {th : List NLoc} {z : Zone} {a : Act} {w : World}
/-- The callee's zones: what is read for good; all else that lies. -/
def zc (w : World) (z : Zone) : Zone := fun t b => if t then z true b else b < w.heap.size
theorem zc_sub (h : ∀ t b, z t b → b < w.heap.size) : ∀ t b, z t b → zc w z t b := by
  intro t b hb
  cases t
  · exact h _ b hb
  · exact hb
theorem Rep.ground {x : AV} {v : Value} (hr : Rep w z th x v) (hg : (∃ u, x = .r u) ∨ (∃ t k els, x = .ro t k els) ∨ ∃ t c off, x = .re t c off) (th' : List NLoc) : Rep w z th' x v := by
  cases hr with
  | r _ v => exact .r _ _
  | nil _ t k a c => exact .nil _ _ _ _ _
  | ro _ t k els b o c ys hz hc hk hy h1 hx => exact .ro _ _ _ _ b o c ys hz hc hk hy h1 hx
  | re _ t c b o off ys hz hy hx => exact .re _ _ _ b o _ ys hz hy hx
  | _ => rcases hg with ⟨_, h⟩ | ⟨_, _, _, h⟩ | ⟨_, _, _, h⟩ <;> cases h
theorem borC_spec : ∀ {c c' : List AV}, borC c = some c' → c' = c ∧ ∀ x ∈ c, (∃ u, x = .r u) ∨ (∃ t k els, x = .ro t k els) ∨ ∃ t c off, x = .re t c off
  | [], c', h => by simp only [borC, Option.some.injEq] at h; subst h; simp
  | x :: r, c', h => by
    cases x <;> simp only [borC, Option.map_eq_some_iff] at h <;> try cases h
    all_goals
      rename_i hh
      obtain ⟨h1, rfl⟩ := hh
      obtain ⟨rfl, h2⟩ := borC_spec h1
      refine ⟨rfl, fun x hx => ?_⟩
      rcases List.mem_cons.1 hx with rfl | hx
      · simp
      · exact h2 x hx
mutual
theorem bor_sound (h : Sim E N st th z a w) : ∀ (x : AV) {y : AV} {v : Value}, bor st x = some y → Rep w z th x v → Rep w (zc w z) [] y v
  | .s n lo len, y, v, hb, hr => by
    simp only [bor] at hb
    split at hb
    · rename_i T k els hn
      split at hb
      · rename_i hle; cases hb
        obtain ⟨L, h1, h2, h3⟩ := h.mem.nds n _ hn
        exact hr.seen h1 h2 hle (fun hp => (h3 hp).1) (zc_sub h.mem.zlt) []
      · cases hb
    · cases hb
  | .p n i off, y, v, hb, hr => by
    simp only [bor] at hb
    split at hb
    · rename_i T c hn
      split at hb
      · rename_i hi; subst hi
        simp only [Option.map_eq_some_iff] at hb
        obtain ⟨c', hc, rfl⟩ := hb
        obtain ⟨rfl, hg⟩ := borC_spec hc
        obtain ⟨L, h1, ⟨hp, cells, fr, h2, h3, h4, h5⟩, h6⟩ := h.mem.nds n _ hn
        obtain ⟨h6, h7, h8⟩ := h6 hp
        obtain ⟨L', hL', rfl⟩ := hr.p_inv
        rw [h1] at hL'; cases hL'
        have := Rep.re_mk (w := w) (z := zc w z) (th := []) (t := false) (c := c') (b := L.b) (o := 0) (off := off) h6 (fun j x hj => by
          obtain ⟨y, hy, hr⟩ := h5.get hj
          refine ⟨y, ?_, (hr.ground (hg x (List.mem_of_getElem? hj)) []).on' ⟨zc_sub h.mem.zlt, fun _ _ _ => rfl⟩⟩
          rw [cell_of h2]; simpa using hy)
        simpa [h4] using this
      · cases hb
    · cases hb
  | .r u, y, v, hb, hr => by simp only [bor, Option.some.injEq] at hb; subst hb; exact (hr.ground (.inl ⟨_, rfl⟩) []).on' ⟨zc_sub h.mem.zlt, fun _ _ _ => rfl⟩
  | .ro t k els, y, v, hb, hr => by simp only [bor, Option.some.injEq] at hb; subst hb; exact (hr.ground (.inr (.inl ⟨_, _, _, rfl⟩)) []).on' ⟨zc_sub h.mem.zlt, fun _ _ _ => rfl⟩
  | .re t c off, y, v, hb, hr => by simp only [bor, Option.some.injEq] at hb; subst hb; exact (hr.ground (.inr (.inr ⟨_, _, _, rfl⟩)) []).on' ⟨zc_sub h.mem.zlt, fun _ _ _ => rfl⟩
  | .agg c, y, v, hb, hr => by
    simp only [bor, Option.map_eq_some_iff] at hb
    obtain ⟨c', hc, rfl⟩ := hb
    obtain ⟨ys, rfl, hys⟩ := hr.agg_inv
    have := borL_sound h c hc hys
    exact .agg _ _ _ this.1 this.2
  | .tup c, y, v, hb, hr => by
    simp only [bor, Option.map_eq_some_iff] at hb
    obtain ⟨c', hc, rfl⟩ := hb
    obtain ⟨ys, rfl, hys⟩ := hr.tup_inv
    have := borL_sound h c hc hys
    exact .tup _ _ _ this.1 this.2
  | .fn f c, y, v, hb, hr => by
    simp only [bor, Option.map_eq_some_iff] at hb
    obtain ⟨c', hc, rfl⟩ := hb
    cases hr with
    | fn _ _ _ ys hl hx =>
      have := borL_sound h c hc ⟨hl, hx⟩
      exact .fn _ _ _ _ this.1 this.2
  | .ifc t x, y, v, hb, hr => by
    simp only [bor, Option.map_eq_some_iff] at hb
    obtain ⟨c', hc, rfl⟩ := hb
    cases hr with
    | ifc _ _ _ u hu => exact .ifc _ _ _ _ (bor_sound h x hc hu)
theorem borL_sound (h : Sim E N st th z a w) : ∀ (c : List AV) {d : List AV} {vs : List Value}, borL st c = some d → Reps w z th c vs → Reps w (zc w z) [] d vs
  | [], d, vs, hb, hr => by
    simp only [borL, Option.some.injEq] at hb; subst hb
    obtain rfl := hr.of_nil; exact .nil
  | x :: r, d, vs, hb, hr => by
    simp only [borL] at hb
    split at hb
    · rename_i y l h1 h2; cases hb
      obtain ⟨v, vs', rfl, hv, hvs⟩ := hr.head
      exact .cons (bor_sound h x h1 hv) (borL_sound h r h2 hvs)
    · cases hb
end
/-- From the callee's zones back. -/
theorem Rep.back {z' z2 : Zone} {x : AV} {v : Value} (hr : Rep w z' th x v) (hz : ∀ b, z' true b → z2 true b) (hx : PT x) : Rep w z2 th x v := by
  induction hr with
  | r th v => exact .r _ _
  | nil th t k a c => exact .nil _ _ _ _ _
  | ro th t k els b o c ys hzb hc hk hy h1 hx' ih =>
    cases hx with
    | ro _ _ h => exact .ro _ _ _ _ b o c ys (hz _ hzb) hc hk hy h1 (fun i e j x he hj => ih i e j x he hj (h e (List.mem_of_getElem? he) x (List.mem_of_getElem? hj)))
  | re th t c b o off ys hzb hy hx' ih =>
    cases hx with
    | re _ _ h => exact .re _ _ _ b o _ ys (hz _ hzb) hy (fun j x hj => ih j x hj (h x (List.mem_of_getElem? hj)))
  | s th n lo len c x L hL hp hl hc ho => exact .s _ _ _ _ c x L hL hp hl hc ho
  | sn th n lo L hL hp => exact .sn _ _ _ L hL hp
  | p th n i off L hL => exact .p _ _ _ _ L hL
  | agg th c ys hl hx' ih =>
    cases hx with
    | agg _ h => exact .agg _ _ ys hl (fun i x y h1 h2 => ih i x y h1 h2 (h x (List.mem_of_getElem? h1)))
  | tup th c ys hl hx' ih =>
    cases hx with
    | tup _ h => exact .tup _ _ ys hl (fun i x y h1 h2 => ih i x y h1 h2 (h x (List.mem_of_getElem? h1)))
  | fn th f c ys hl hx' ih => cases hx
  | ifc th t x v hx' ih =>
    cases hx with
    | ifc _ _ h => exact .ifc _ _ _ _ (ih h)
theorem NdAt.back {z' z2 : Zone} {L : NLoc} {nd : Nd} (hn : NdAt w z' th L nd) (hz : ∀ b, z' true b → z2 true b) (hx : PTNd nd) : NdAt w z2 th L nd := by
  cases nd with
  | box T c =>
    obtain ⟨hp, cells, fr, h1, h2, h3, h4⟩ := hn
    exact ⟨hp, cells, fr, h1, h2, h3, h4.1, fun i x y hi hy => (h4.2 i x y hi hy).back hz (hx x (List.mem_of_getElem? hi))⟩
  | lst T k els =>
    rcases hn with hn | ⟨hp, cells, fr, h1, h2, h3, h4, h5, h6⟩
    · exact .inl hn
    exact .inr ⟨hp, cells, fr, h1, h2, h3, h4, h5, fun i e he => ⟨(h6 i e he).1, fun j x hj => let ⟨y, hy, hr, ho⟩ := (h6 i e he).2 j x hj; ⟨y, hy, hr.back hz (hx e (List.mem_of_getElem? he) x (List.mem_of_getElem? hj)), ho⟩⟩⟩
/-- The own things that a call leaves, numbered on. -/
def shO (d : Nat) (o : List (Nat × Nd)) : List (Nat × Nd) := o.map fun p => (p.1 + d, renNd (· + d) p.2)
theorem lk_append {α : Type} (o o' : List (Nat × α)) (i : Nat) : lk (o ++ o') i = match lk o i with | some x => some x | none => lk o' i := by
  induction o with
  | nil => simp [lk]
  | cons p r ih =>
    obtain ⟨j, x⟩ := p
    simp only [List.cons_append, lk]
    split
    · rfl
    · exact ih
theorem lk_shO (d : Nat) (o : List (Nat × Nd)) (i : Nat) : lk (shO d o) i = if d ≤ i then (lk o (i - d)).map (renNd (· + d)) else none := by
  induction o with
  | nil => simp [shO, lk]
  | cons p r ih =>
    obtain ⟨j, x⟩ := p
    simp only [shO, List.map_cons, lk] at ih ⊢
    by_cases h : j + d = i
    · subst h; simp
    · rw [if_neg h, ih]
      by_cases h2 : d ≤ i
      · rw [if_pos h2, if_pos h2, if_neg (by omega)]
      · rw [if_neg h2, if_neg h2]
def shZ (z z' : Zone) : Zone := fun t b => if t then z' true b else z false b
/-- A call by a contract without own things: all that was there is as it was. -/
theorem callG_of_con {f : Nat} {xs ys : List AV} {Q R : AV → List (Nat × Nd) → Nat → Prop} {k kp : AV → AS → Prop} (hc : Con P E.G f ys [] 0 Q R) (hb : borL st xs = some ys)
    (hk : ∀ y o n, Q y o n → PT y ∧ (∀ p ∈ o, PTNd p.2) ∧ k (ren (· + st.n) y) { st with o := shO st.n o ++ st.o, n := st.n + n })
    (hkp : ∀ y o n, R y o n → PT y ∧ (∀ p ∈ o, PTNd p.2) ∧ kp (ren (· + st.n) y) { st with o := shO st.n o ++ st.o, n := st.n + n }) : CallG P E N f xs st k kp := by
  refine ⟨hc.1, fun th z a w vs hs hr => ?_⟩
  have hz : ∀ t b, zc w z t b → b < w.heap.size := by
    intro t b h
    cases t
    · exact h
    · exact hs.mem.zlt _ _ h
  have hmem0 : Mem ⟨w, fun _ => False, zc w z, E.G, []⟩ [] 0 [] (zc w z) w := by
    refine ⟨rfl, fun i nd hi => by simp [lk] at hi, fun i j x y L M hi => by simp [lk] at hi, hz, Nat.le_refl _, fun _ _ _ => rfl, fun _ _ h => h, fun b h => .inl h, fun b h => h, fun g cs hg => ?_, fun i L hi => by simp at hi, Sys.refl w⟩
    obtain ⟨h1, h2⟩ := hs.mem.globs g cs hg
    exact ⟨h1, h2⟩
  refine (hc.2 w [] (zc w z) (fun _ => False) vs (fun b => by simp [lk]) hmem0 (borL_sound hs xs hb hr)).mono ?_
  rintro e w' ⟨v, y, o', n', th', z', hh, hm, hv⟩
  have ext : Ext w w' := ⟨hm.grow, fun b hb => hm.frame b hb (fun h => h), hm.sys⟩
  have main : PT y → (∀ p ∈ o', PTNd p.2) → Sim E N { st with o := shO st.n o' ++ st.o, n := st.n + n' } (th ++ th') (shZ z z') a w' ∧ Rep w' (shZ z z') (th ++ th') (ren (· + st.n) y) v := by
    intro hy ho
    have hsub : ∀ t b, z t b → shZ z z' t b := by
      intro t b hb
      cases t
      · exact hb
      · exact hm.zin true b hb
    have le : Le w z w' (shZ z z') := ext.le hsub hs.mem.zlt
    have hfw : ∀ (i : Nat) L, th'[i]? = some L → (th ++ th')[i + st.n]? = some L := by
      intro i L hi
      rw [List.getElem?_append_right (by rw [hs.mem.len]; omega), hs.mem.len, Nat.add_sub_cancel]; exact hi
    have hz1 : ∀ b, z' true b → shZ z z' true b := fun b hb => hb
    have fresh : ∀ b, z' true b → z true b ∨ w.heap.size ≤ b := by
      intro b hb
      rcases hm.zout b hb with h1 | h1 | h1
      · exact .inl h1
      · exact h1.elim
      · exact .inr h1
    have nodeold : ∀ i nd, lk st.o i = some nd → ∃ L, th[i]? = some L ∧ (L.ph = false → L.b < w.heap.size ∧ (∀ t, ¬ z t L.b)) ∧ i < st.n := by
      intro i nd hi
      obtain ⟨L, h1, h2, h3⟩ := hs.mem.nds i nd hi
      exact ⟨L, h1, fun hp => ⟨(h3 hp).1, (h3 hp).2.1⟩, by rw [← hs.mem.len]; exact (List.getElem?_eq_some_iff.1 h1).1⟩
    have nodenew : ∀ i nd, lk o' i = some nd → ∃ L, th'[i]? = some L ∧ (L.ph = false → w.heap.size ≤ L.b) := by
      intro i nd hi
      obtain ⟨L, h1, h2, h3⟩ := hm.nds i nd hi
      refine ⟨L, h1, fun hp => ?_⟩
      rcases (h3 hp).2.2 with h5 | h5
      · exact h5.elim
      · exact h5
    have look : ∀ i nd, lk (shO st.n o' ++ st.o) i = some nd → (st.n ≤ i ∧ ∃ x, lk o' (i - st.n) = some x ∧ nd = renNd (· + st.n) x) ∨ (i < st.n ∧ lk st.o i = some nd) := by
      intro i nd hi
      rw [lk_append, lk_shO] at hi
      by_cases h : st.n ≤ i
      · rw [if_pos h] at hi
        cases hq : lk o' (i - st.n) with
        | some x => rw [hq] at hi; simp at hi; exact .inl ⟨h, x, rfl, hi.symm⟩
        | none =>
          rw [hq] at hi; simp at hi
          obtain ⟨_, _, _, h5⟩ := nodeold i nd hi
          omega
      · rw [if_neg h] at hi
        simp at hi
        exact .inr ⟨by omega, hi⟩
    have hnewL : ∀ i L, st.n ≤ i → (th ++ th')[i]? = some L → th'[i - st.n]? = some L := by
      intro i L h hi
      rw [List.getElem?_append_right (by rw [hs.mem.len]; exact h), hs.mem.len] at hi; exact hi
    have holdL : ∀ i L, i < st.n → (th ++ th')[i]? = some L → th[i]? = some L := by
      intro i L h hi
      rw [List.getElem?_append_left (by rw [hs.mem.len]; exact h)] at hi; exact hi
    refine ⟨⟨⟨?_, ?_, ?_, ?_, ?_, ?_, ?_, ?_, ?_, ?_, ?_, ?_⟩, hs.size, hs.dfs, fun i x hi => ?_⟩, (hv.back hz1 hy).ren hfw⟩
    · simp [hs.mem.len, hm.len]
    · intro i nd hi
      rcases look i nd hi with ⟨h, x, hx, rfl⟩ | ⟨h, hx⟩
      · obtain ⟨L, h1, h2, h3⟩ := hm.nds _ x hx
        refine ⟨L, by have := hfw _ _ h1; rwa [Nat.sub_add_cancel h] at this, (h2.back hz1 (ho _ (lk_mem hx))).ren hfw, fun hp => ?_⟩
        obtain ⟨h3, h4, h5⟩ := h3 hp
        refine ⟨h3, fun t ht => ?_, ?_⟩
        · cases t
          · have := hs.mem.zlt _ _ ht
            rcases h5 with h5 | h5
            · exact h5
            · exact absurd this (Nat.not_lt.2 h5)
          · exact h4 true ht
        · rcases h5 with h5 | h5
          · exact h5.elim
          · exact .inr (Nat.le_trans hs.mem.grow h5)
      · obtain ⟨L, h1, h2, h3⟩ := hs.mem.nds i nd hx
        refine ⟨L, pre_get _ h1, h2.on le (fun hp => ext.same _ (h3 hp).1) th', fun hp => ?_⟩
        obtain ⟨h3, h4, h5⟩ := h3 hp
        refine ⟨Nat.lt_of_lt_of_le h3 ext.size, fun t ht => ?_, h5⟩
        cases t
        · exact h4 false ht
        · rcases fresh _ ht with h6 | h6
          · exact h4 true h6
          · omega
    · intro i j x y L M hi hj hL hM e1 e2 hb
      rcases look i x hi with ⟨h1, x1, hx1, rfl⟩ | ⟨h1, hx1⟩ <;> rcases look j y hj with ⟨h2, y1, hy1, rfl⟩ | ⟨h2, hy1⟩
      · have := hm.inj _ _ x1 y1 L M hx1 hy1 (hnewL i L h1 hL) (hnewL j M h2 hM) e1 e2 hb
        omega
      · obtain ⟨L1, q1, q2⟩ := nodenew _ _ hx1
        rw [hnewL i L h1 hL] at q1; cases q1
        obtain ⟨L2, q3, q4, _⟩ := nodeold _ _ hy1
        rw [holdL j M h2 hM] at q3; cases q3
        have := q2 e1; have := (q4 e2).1; omega
      · obtain ⟨L1, q1, q2⟩ := nodenew _ _ hy1
        rw [hnewL j M h2 hM] at q1; cases q1
        obtain ⟨L2, q3, q4, _⟩ := nodeold _ _ hx1
        rw [holdL i L h1 hL] at q3; cases q3
        have := q2 e2; have := (q4 e1).1; omega
      · exact hs.mem.inj i j x y L M hx1 hy1 (holdL i L h1 hL) (holdL j M h2 hM) e1 e2 hb
    · intro t b hb
      cases t
      · exact Nat.lt_of_lt_of_le (hs.mem.zlt _ _ hb) ext.size
      · exact hm.zlt _ _ hb
    · exact Nat.le_trans hs.mem.grow ext.size
    · intro b hb hob
      exact (ext.same b (Nat.lt_of_lt_of_le hb hs.mem.grow)).trans (hs.mem.frame b hb hob)
    · intro t b hb; exact hsub t b (hs.mem.zin t b hb)
    · intro b hb
      rcases fresh b hb with h1 | h1
      · exact hs.mem.zout b h1
      · exact .inr (.inr (Nat.le_trans hs.mem.grow h1))
    · intro b hb; exact hs.mem.zb b hb
    · intro g cs hg
      obtain ⟨h1, h2⟩ := hs.mem.globs g cs hg
      exact ⟨hsub _ _ h1, fun j v hv => (cell_heap (le.same _ _ h1) _).trans (h2 j v hv)⟩
    · intro i L hi; exact pre_get _ (hs.mem.pre i L hi)
    · exact hs.mem.sys.trans ext.sys
    · obtain ⟨u, hu, hru⟩ := hs.slots i x hi
      exact ⟨u, hu, hru.on le th'⟩
  rcases hh with ⟨rfl, hq⟩ | ⟨rfl, hq⟩
  · obtain ⟨h1, h2, h3⟩ := hk y o' n' hq
    obtain ⟨m1, m2⟩ := main h1 h2
    exact ⟨v, _, _, _, _, .inl ⟨rfl, h3⟩, rfl, m1, m2, later_app _ _, ext.t⟩
  · obtain ⟨h1, h2, h3⟩ := hkp y o' n' hq
    obtain ⟨m1, m2⟩ := main h1 h2
    exact ⟨v, _, _, _, _, .inr ⟨rfl, h3⟩, rfl, m1, m2, later_app _ _, ext.t⟩
end
end Go.AM
