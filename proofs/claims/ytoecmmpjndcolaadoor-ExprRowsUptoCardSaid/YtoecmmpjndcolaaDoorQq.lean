/- The abstract machine, 17: a call that is given own things: it may write them, and gives them back. -/
import Derived.Test.YtoecmmpjndcolaaDoorQm
set_option linter.unusedSimpArgs false
set_option linter.unusedVariables false
namespace Go.AM
open Go
def idx : List Nat → Nat → Option Nat
  | [], _ => none
  | m :: r, j => if m = j then some 0 else (idx r j).map (· + 1)
theorem idx_get : ∀ {σ : List Nat} {m i : Nat}, idx σ m = some i → σ[i]? = some m
  | [], m, i, h => by simp [idx] at h
  | k :: r, m, i, h => by
    simp only [idx] at h
    split at h
    · rename_i e; subst e; cases h; rfl
    · simp only [Option.map_eq_some_iff] at h
      obtain ⟨j, hj, rfl⟩ := h
      simpa using idx_get hj
theorem idx_none : ∀ {σ : List Nat} {m : Nat}, idx σ m = none → m ∉ σ
  | [], m, h => by simp
  | k :: r, m, h => by
    simp only [idx] at h
    split at h
    · cases h
    · rename_i e
      simp only [Option.map_eq_none_iff] at h
      simp [Ne.symm e, idx_none h]
mutual
/-- As a callee sees it that is given own things. -/
def pas (σ : List Nat) (st : AS) : AV → Option AV
  | .s n lo len => match idx σ n with
    | some i => some (.s i lo len)
    | none => bor st (.s n lo len)
  | .p n i off => match idx σ n with
    | some j => some (.p j i off)
    | none => bor st (.p n i off)
  | .r v => some (.r v)
  | .ro t k els => some (.ro t k els)
  | .re t c off => some (.re t c off)
  | .agg c => (pasL σ st c).map .agg
  | .tup c => (pasL σ st c).map .tup
  | .fn f c => (pasL σ st c).map (.fn f)
  | .ifc t x => (pas σ st x).map (.ifc t)
def pasL (σ : List Nat) (st : AS) : List AV → Option (List AV)
  | [] => some []
  | x :: r => match pas σ st x, pasL σ st r with
    | some a, some l => some (a :: l)
    | _, _ => none
end
/-- The caller's number of a callee's own thing. -/
def fw (σ : List Nat) (n : Nat) (i : Nat) : Nat := match σ[i]? with
  | some m => m
  | none => n + (i - σ.length)
def mapO (φ : Nat → Nat) (o : List (Nat × Nd)) : List (Nat × Nd) := o.map fun p => (φ p.1, renNd φ p.2)
def rmL (σ : List Nat) (o : List (Nat × Nd)) : List (Nat × Nd) := σ.foldl (fun o i => rm o i) o
theorem lk_rmL : ∀ (σ : List Nat) (o : List (Nat × Nd)) (j : Nat), lk (rmL σ o) j = if j ∈ σ then none else lk o j
  | [], o, j => by simp [rmL]
  | m :: r, o, j => by
    have := lk_rmL r (rm o m) j
    simp only [rmL, List.foldl_cons] at this ⊢
    rw [this, lk_rm]
    by_cases h1 : j ∈ r
    · simp [h1]
    · by_cases h2 : m = j
      · subst h2; simp
      · simp [h1, h2, Ne.symm h2]
theorem lk_mapO {φ : Nat → Nat} : ∀ {o : List (Nat × Nd)}, (∀ p ∈ o, ∀ q ∈ o, φ p.1 = φ q.1 → p.1 = q.1) → ∀ {j : Nat} {nd : Nd}, lk (mapO φ o) j = some nd → ∃ i x, lk o i = some x ∧ j = φ i ∧ nd = renNd φ x
  | [], _, j, nd, h => by simp [mapO, lk] at h
  | (i, x) :: r, hi, j, nd, h => by
    simp only [mapO, List.map_cons, lk] at h
    split at h
    · rename_i e; cases h; exact ⟨i, x, by simp [lk], e.symm, rfl⟩
    · rename_i e
      obtain ⟨i', x', h1, h2, h3⟩ := lk_mapO (fun p hp q hq => hi p (by simp [hp]) q (by simp [hq])) (show lk (mapO φ r) j = some nd from h)
      refine ⟨i', x', ?_, h2, h3⟩
      simp only [lk]
      rw [if_neg]
      · exact h1
      · intro e2; subst e2; exact e h2.symm
theorem lk_key {o : List (Nat × Nd)} : ∀ p ∈ o, ∃ x, lk o p.1 = some x := by
  induction o with
  | nil => intro p hp; cases hp
  | cons q r ih =>
    intro p hp
    obtain ⟨i, y⟩ := q
    by_cases h : i = p.1
    · exact ⟨y, by simp [lk, h]⟩
    · rcases List.mem_cons.1 hp with rfl | hp
      · exact (h rfl).elim
      · obtain ⟨x, hx⟩ := ih p hp; exact ⟨x, by simp [lk, h, hx]⟩
section
variable {P : Program} {E : Env} {N : Nat} {st : AS} {th : List NLoc} {z : Zone} {a : Act} {w : World}
/-- The blocks that are given. -/
def giv (st : AS) (σ : List Nat) (th : List NLoc) (b : Nat) : Prop := ∃ (i m : Nat) (nd : Nd) (L : NLoc), σ[i]? = some m ∧ lk st.o m = some nd ∧ th[m]? = some L ∧ L.ph = false ∧ L.b = b
def zg (st : AS) (σ : List Nat) (th : List NLoc) (w : World) (z : Zone) : Zone := fun t b => if t then z true b else (b < w.heap.size ∧ ¬ giv st σ th b)
theorem giv_z (h : Sim E N st th z a w) {σ : List Nat} {t : Bool} {b : Nat} (hb : z t b) : ¬ giv st σ th b := by
  rintro ⟨i, m, nd, L, h1, h2, h3, h4, rfl⟩
  obtain ⟨L', k1, _, k3⟩ := h.mem.nds m nd h2
  rw [h3] at k1; cases k1
  exact (k3 h4).2.1 t hb
theorem zg_sub (h : Sim E N st th z a w) (σ : List Nat) : ∀ t b, z t b → zg st σ th w z t b := by
  intro t b hb
  cases t
  · exact ⟨h.mem.zlt _ _ hb, giv_z h hb⟩
  · exact hb
theorem giv_other (h : Sim E N st th z a w) {σ : List Nat} {m : Nat} {nd : Nd} {L : NLoc} (hm : m ∉ σ) (h1 : lk st.o m = some nd) (h2 : th[m]? = some L) (h3 : L.ph = false) : ¬ giv st σ th L.b := by
  rintro ⟨i, m', nd', L', g1, g2, g3, g4, g5⟩
  have := h.mem.inj m' m nd' nd L' L g2 h1 g3 h2 g4 h3 g5
  subst this
  exact hm (List.mem_of_getElem? g1)
mutual
theorem pas_sound (h : Sim E N st th z a w) {σ : List Nat} (hσ : ∀ m ∈ σ, m < th.length) : ∀ (x : AV) {y : AV} {v : Value}, pas σ st x = some y → Rep w z th x v → Rep w (zg st σ th w z) (thOf th σ) y v
  | .s n lo len, y, v, hb, hr => by
    simp only [pas] at hb
    split at hb
    · rename_i i hi; cases hb
      have hg := thOf_get (th := th) hσ (idx_get hi)
      cases hr with
      | s _ _ _ _ c o L hL hp hl hc ho => exact .s _ _ _ _ c o L (by rw [hg]; exact hL) hp hl hc ho
      | sn _ _ lo L hL hp => exact .sn _ _ _ L (by rw [hg]; exact hL) hp
    · rename_i hi
      simp only [bor] at hb
      split at hb
      · rename_i T k els hn
        split at hb
        · rename_i hle; cases hb
          obtain ⟨L, h1, h2, h3⟩ := h.mem.nds n _ hn
          have := hr.seen (z' := zg st σ th w z) (t := false) h1 h2 hle (fun hp => (show L.b < w.heap.size ∧ ¬ giv st σ th L.b from ⟨(h3 hp).1, giv_other h (idx_none hi) hn h1 hp⟩)) (zg_sub h σ) (thOf th σ)
          exact this
        · cases hb
      · cases hb
  | .p n i off, y, v, hb, hr => by
    simp only [pas] at hb
    split at hb
    · rename_i j hj; cases hb
      have hg := thOf_get (th := th) hσ (idx_get hj)
      cases hr with
      | p _ _ _ _ L hL => exact .p _ _ _ _ L (by rw [hg]; exact hL)
    · rename_i hi
      simp only [bor] at hb
      split at hb
      · rename_i T c hn
        split at hb
        · rename_i hii; subst hii
          simp only [Option.map_eq_some_iff] at hb
          obtain ⟨c', hc, rfl⟩ := hb
          obtain ⟨rfl, hg⟩ := borC_spec hc
          obtain ⟨L, h1, ⟨hp, cells, fr, h2, h3, h4, h5⟩, h6⟩ := h.mem.nds n _ hn
          obtain ⟨h6, h7, h8⟩ := h6 hp
          obtain ⟨L', hL', rfl⟩ := hr.p_inv
          rw [h1] at hL'; cases hL'
          have := Rep.re_mk (w := w) (z := zg st σ th w z) (th := thOf th σ) (t := false) (c := c') (b := L.b) (o := 0) (off := off) (show L.b < w.heap.size ∧ ¬ giv st σ th L.b from ⟨h6, giv_other h (idx_none hi) hn h1 hp⟩) (fun j x hj => by
            obtain ⟨y, hy, hr⟩ := h5.get hj
            refine ⟨y, ?_, (hr.ground (hg x (List.mem_of_getElem? hj)) []).on' ⟨zg_sub h σ, fun _ _ _ => rfl⟩⟩
            rw [cell_of h2]; simpa using hy)
          simpa [h4] using this
        · cases hb
      · cases hb
  | .r u, y, v, hb, hr => by simp only [pas, Option.some.injEq] at hb; subst hb; exact (hr.ground (.inl ⟨_, rfl⟩) _).on' ⟨zg_sub h σ, fun _ _ _ => rfl⟩
  | .ro t k els, y, v, hb, hr => by simp only [pas, Option.some.injEq] at hb; subst hb; exact (hr.ground (.inr (.inl ⟨_, _, _, rfl⟩)) _).on' ⟨zg_sub h σ, fun _ _ _ => rfl⟩
  | .re t c off, y, v, hb, hr => by simp only [pas, Option.some.injEq] at hb; subst hb; exact (hr.ground (.inr (.inr ⟨_, _, _, rfl⟩)) _).on' ⟨zg_sub h σ, fun _ _ _ => rfl⟩
  | .agg c, y, v, hb, hr => by
    simp only [pas, Option.map_eq_some_iff] at hb
    obtain ⟨c', hc, rfl⟩ := hb
    obtain ⟨ys, rfl, hys⟩ := hr.agg_inv
    have := pasL_sound h hσ c hc hys
    exact .agg _ _ _ this.1 this.2
  | .tup c, y, v, hb, hr => by
    simp only [pas, Option.map_eq_some_iff] at hb
    obtain ⟨c', hc, rfl⟩ := hb
    obtain ⟨ys, rfl, hys⟩ := hr.tup_inv
    have := pasL_sound h hσ c hc hys
    exact .tup _ _ _ this.1 this.2
  | .fn f c, y, v, hb, hr => by
    simp only [pas, Option.map_eq_some_iff] at hb
    obtain ⟨c', hc, rfl⟩ := hb
    cases hr with
    | fn _ _ _ ys hl hx =>
      have := pasL_sound h hσ c hc ⟨hl, hx⟩
      exact .fn _ _ _ _ this.1 this.2
  | .ifc t x, y, v, hb, hr => by
    simp only [pas, Option.map_eq_some_iff] at hb
    obtain ⟨c', hc, rfl⟩ := hb
    cases hr with
    | ifc _ _ _ u hu => exact .ifc _ _ _ _ (pas_sound h hσ x hc hu)
theorem pasL_sound (h : Sim E N st th z a w) {σ : List Nat} (hσ : ∀ m ∈ σ, m < th.length) : ∀ (c : List AV) {d : List AV} {vs : List Value}, pasL σ st c = some d → Reps w z th c vs → Reps w (zg st σ th w z) (thOf th σ) d vs
  | [], d, vs, hb, hr => by
    simp only [pasL, Option.some.injEq] at hb; subst hb
    obtain rfl := hr.of_nil; exact .nil
  | x :: r, d, vs, hb, hr => by
    simp only [pasL] at hb
    split at hb
    · rename_i y l h1 h2; cases hb
      obtain ⟨v, vs', rfl, hv, hvs⟩ := hr.head
      exact .cons (pas_sound h hσ x h1 hv) (pasL_sound h hσ r h2 hvs)
    · cases hb
end
theorem fw_inj {σ : List Nat} {n : Nat} (hσ : ∀ m ∈ σ, m < n) (hnd : σ.Nodup) {i j : Nat} (h : fw σ n i = fw σ n j) : i = j := by
  unfold fw at h
  split at h
  · rename_i m hm
    split at h
    · rename_i m' hm'
      subst h
      obtain ⟨l1, e1⟩ := List.getElem?_eq_some_iff.1 hm
      exact (List.getElem?_inj l1 hnd).1 (hm.trans hm'.symm)
    · have := hσ m (List.mem_of_getElem? hm); omega
  · rename_i hm
    have hi : σ.length ≤ i := List.getElem?_eq_none_iff.1 hm
    split at h
    · rename_i m' hm'
      have := hσ m' (List.mem_of_getElem? hm'); omega
    · rename_i hm'
      have hj : σ.length ≤ j := List.getElem?_eq_none_iff.1 hm'
      omega
/-- A call by a contract with own things that are given. -/
theorem callT_of_con {f : Nat} {σ : List Nat} {xs ys : List AV} {oc : List (Nat × Nd)} {Q R : AV → List (Nat × Nd) → Nat → Prop} {k kp : AV → AS → Prop} (hc : Con P E.G f ys oc σ.length Q R) (hb : pasL σ st xs = some ys) (ho : okO σ st.o oc) (hall : ∀ i, i < σ.length → ∃ nd, lk oc i = some nd)
    (hlt : ∀ m ∈ σ, m < st.n) (hnd : σ.Nodup) (hbig : st.n ≤ 1000000000)
    (hk : ∀ y o n, Q y o n → PT y ∧ (∀ p ∈ o, PTNd p.2) ∧ k (ren (fw σ st.n) y) { st with o := mapO (fw σ st.n) o ++ rmL σ st.o, n := st.n + (n - σ.length) })
    (hkp : ∀ y o n, R y o n → PT y ∧ (∀ p ∈ o, PTNd p.2) ∧ kp (ren (fw σ st.n) y) { st with o := mapO (fw σ st.n) o ++ rmL σ st.o, n := st.n + (n - σ.length) }) : CallT P E N f xs st σ k kp := by
  refine ⟨hc.1, fun th z a w vs hs hr => ?_⟩
  have hσ : ∀ m ∈ σ, m < th.length := fun m hm => by rw [hs.mem.len]; exact hlt m hm
  have hm1 : Mem ⟨E.w0, E.own, E.z0, E.G, []⟩ st.o st.n th z w := ⟨hs.mem.len, hs.mem.nds, hs.mem.inj, hs.mem.zlt, hs.mem.grow, hs.mem.frame, hs.mem.zin, hs.mem.zout, hs.mem.zb, hs.mem.globs, fun i L hi => by simp at hi, hs.mem.sys⟩
  have hm2 := hm1.ren σ hlt hbig ho (fun i hi => by simp at hi) hnd
  have known : ∀ i m, σ[i]? = some m → ∃ x nd L, lk oc i = some x ∧ lk st.o m = some nd ∧ (thOf th σ)[i]? = some L ∧ th[m]? = some L := by
    intro i m hi
    obtain ⟨x, hx⟩ := hall i (List.getElem?_eq_some_iff.1 hi).1
    obtain ⟨j, hj, h2⟩ := ho _ (lk_mem hx)
    simp only at hj
    rw [hi] at hj; cases hj
    obtain ⟨L, h3, _⟩ := hs.mem.nds m _ h2
    exact ⟨x, _, L, hx, h2, by rw [thOf_get hσ hi]; exact h3, h3⟩
  have hgiv : ∀ b, giv st σ th b ↔ ∃ i nd L, lk oc i = some nd ∧ (thOf th σ)[i]? = some L ∧ L.ph = false ∧ L.b = b := by
    intro b
    constructor
    · rintro ⟨i, m, nd, L, h1, h2, h3, h4, h5⟩
      obtain ⟨x, nd', L', k1, k2, k3, k4⟩ := known i m h1
      rw [h3] at k4; cases k4
      exact ⟨i, x, L, k1, k3, h4, h5⟩
    · rintro ⟨i, nd, L, h1, h2, h3, h4⟩
      have hi : i < σ.length := by have := (List.getElem?_eq_some_iff.1 h2).1; simpa [thOf] using this
      obtain ⟨x, nd', L', k1, k2, k3, k4⟩ := known i σ[i] (by simp [hi])
      rw [h2] at k3; cases k3
      exact ⟨i, σ[i], nd', L, by simp [hi], k2, k4, h3, h4⟩
  have lez : Le w z w (zg st σ th w z) := ⟨zg_sub hs σ, fun _ _ _ => rfl⟩
  have hzlt : ∀ t b, zg st σ th w z t b → b < w.heap.size := by
    intro t b h
    cases t
    · exact h.1
    · exact hs.mem.zlt _ _ h
  have hmem0 : Mem ⟨w, giv st σ th, zg st σ th w z, E.G, thOf th σ⟩ oc σ.length (thOf th σ) (zg st σ th w z) w := by
    refine ⟨hm2.len, fun i nd hi => ?_, hm2.inj, hzlt, Nat.le_refl _, fun _ _ _ => rfl, fun _ _ h => h, fun b h => .inl h, fun b h => h, fun g cs hg => ?_, fun i L hi => hi, Sys.refl w⟩
    · obtain ⟨L, h1, h2, h3⟩ := hm2.nds i nd hi
      have hown : L.ph = false → giv st σ th L.b := fun hp => (hgiv _).2 ⟨i, nd, L, hi, h1, hp, rfl⟩
      refine ⟨L, h1, by simpa using h2.on lez (fun _ => rfl) [], fun hp => ⟨(h3 hp).1, fun t ht => ?_, .inl (hown hp)⟩⟩
      cases t
      · exact ht.2 (hown hp)
      · exact (h3 hp).2.1 true ht
    · obtain ⟨h1, h2⟩ := hs.mem.globs g cs hg
      exact ⟨h1, h2⟩
  refine (hc.2 w (thOf th σ) (zg st σ th w z) (giv st σ th) vs hgiv hmem0 (pasL_sound hs hσ xs hb hr)).mono ?_
  rintro e w' ⟨v, y, o', n', th', z', hh, hm, hv⟩
  have hn' : σ.length ≤ n' := by
    by_cases h0 : σ.length = 0
    · omega
    · have hi : σ.length - 1 < σ.length := by omega
      obtain ⟨x, nd', L', k1, k2, k3, k4⟩ := known (σ.length - 1) σ[σ.length - 1] (by simp [hi])
      have := (List.getElem?_eq_some_iff.1 (hm.pre _ _ k3)).1
      rw [hm.len] at this; omega
  have same : ∀ b, b < w.heap.size → ¬ giv st σ th b → w'.heap[b]? = w.heap[b]? := fun b hb hg => hm.frame b hb hg
  have extT : ExtT th σ w w' := ⟨hm.grow, fun b hb hne => same b hb (by
    rintro ⟨i, m, nd, L, h1, h2, h3, h4, h5⟩
    exact hne m (List.mem_of_getElem? h1) L h3 h4 h5), hm.sys⟩
  have main : PT y → (∀ p ∈ o', PTNd p.2) → Sim E N { st with o := mapO (fw σ st.n) o' ++ rmL σ st.o, n := st.n + (n' - σ.length) } (th ++ th'.drop σ.length) (shZ z z') a w' ∧ Rep w' (shZ z z') (th ++ th'.drop σ.length) (ren (fw σ st.n) y) v := by
    intro hy hop
    have hsub : ∀ t b, z t b → shZ z z' t b := by
      intro t b hb
      cases t
      · exact hb
      · exact hm.zin true b (show zg st σ th w z true b from hb)
    have le : Le w z w' (shZ z z') := ⟨hsub, fun t b hb => same b (hs.mem.zlt t b hb) (giv_z hs hb)⟩
    have hfw : ∀ (i : Nat) L, th'[i]? = some L → (th ++ th'.drop σ.length)[fw σ st.n i]? = some L := by
      intro i L hi
      unfold fw
      split
      · rename_i m hmm
        obtain ⟨x, nd', L', k1, k2, k3, k4⟩ := known i m hmm
        have := hm.pre i L' k3
        rw [hi] at this; cases this
        exact pre_get _ k4
      · rename_i hmm
        have hi' : σ.length ≤ i := List.getElem?_eq_none_iff.1 hmm
        rw [List.getElem?_append_right (by rw [hs.mem.len]; omega), hs.mem.len, List.getElem?_drop, show σ.length + (st.n + (i - σ.length) - st.n) = i by omega]; exact hi
    have hz1 : ∀ b, z' true b → shZ z z' true b := fun b hb => hb
    have fresh : ∀ b, z' true b → z true b ∨ giv st σ th b ∨ w.heap.size ≤ b := fun b hb => hm.zout b hb
    have givE : ∀ b, giv st σ th b → (E.own b ∨ E.w0.heap.size ≤ b) ∧ b < w.heap.size ∧ ∀ t, ¬ z t b := by
      rintro b ⟨i, m, nd, L, h1, h2, h3, h4, rfl⟩
      obtain ⟨L', k1, _, k3⟩ := hs.mem.nds m nd h2
      rw [h3] at k1; cases k1
      exact ⟨(k3 h4).2.2, (k3 h4).1, (k3 h4).2.1⟩
    have keys : ∀ p ∈ o', ∀ q ∈ o', fw σ st.n p.1 = fw σ st.n q.1 → p.1 = q.1 := fun p _ q _ h => fw_inj hlt hnd h
    have look : ∀ j nd, lk (mapO (fw σ st.n) o' ++ rmL σ st.o) j = some nd → (∃ i x, lk o' i = some x ∧ j = fw σ st.n i ∧ nd = renNd (fw σ st.n) x) ∨ (j ∉ σ ∧ lk st.o j = some nd) := by
      intro j nd hj
      rw [lk_append] at hj
      cases hq : lk (mapO (fw σ st.n) o') j with
      | some x => rw [hq] at hj; cases hj; exact .inl (lk_mapO keys hq)
      | none =>
        rw [hq] at hj
        simp only [lk_rmL] at hj
        split at hj
        · cases hj
        · exact .inr ⟨by assumption, hj⟩
    have newn : ∀ i x, lk o' i = some x → ∃ L, th'[i]? = some L ∧ NdAt w' z' th' L x ∧ (L.ph = false → L.b < w'.heap.size ∧ (∀ t, ¬ z' t L.b) ∧ (giv st σ th L.b ∨ w.heap.size ≤ L.b)) := fun i x hi => hm.nds i x hi
    have oldn : ∀ j nd, j ∉ σ → lk st.o j = some nd → ∃ L, th[j]? = some L ∧ NdAt w z th L nd ∧ (L.ph = false → L.b < w.heap.size ∧ (∀ t, ¬ z t L.b) ∧ (E.own L.b ∨ E.w0.heap.size ≤ L.b) ∧ ¬ giv st σ th L.b) := by
      intro j nd hj hnd'
      obtain ⟨L, h1, h2, h3⟩ := hs.mem.nds j nd hnd'
      exact ⟨L, h1, h2, fun hp => ⟨(h3 hp).1, (h3 hp).2.1, (h3 hp).2.2, giv_other hs hj hnd' h1 hp⟩⟩
    refine ⟨⟨⟨?_, ?_, ?_, ?_, ?_, ?_, ?_, ?_, ?_, ?_, ?_, ?_⟩, hs.size, hs.dfs, fun i x hi => ?_⟩, (hv.back hz1 hy).ren hfw⟩
    · simp [hs.mem.len, hm.len]
    · intro j nd hj
      rcases look j nd hj with ⟨i, x, hx, rfl, rfl⟩ | ⟨hj1, hj2⟩
      · obtain ⟨L, h1, h2, h3⟩ := newn i x hx
        refine ⟨L, hfw _ _ h1, (h2.back hz1 (hop _ (lk_mem hx))).ren hfw, fun hp => ?_⟩
        obtain ⟨h3, h4, h5⟩ := h3 hp
        refine ⟨h3, fun t ht => ?_, ?_⟩
        · cases t
          · have hlt' := hs.mem.zlt _ _ (show z false L.b from ht)
            rcases h5 with h5 | h5
            · exact giv_z hs (show z false L.b from ht) h5
            · omega
          · exact h4 true ht
        · rcases h5 with h5 | h5
          · exact (givE _ h5).1
          · exact .inr (Nat.le_trans hs.mem.grow h5)
      · obtain ⟨L, h1, h2, h3⟩ := oldn j nd hj1 hj2
        refine ⟨L, pre_get _ h1, h2.on le (fun hp => same _ (h3 hp).1 (h3 hp).2.2.2) _, fun hp => ?_⟩
        obtain ⟨h3, h4, h5, h6⟩ := h3 hp
        refine ⟨Nat.lt_of_lt_of_le h3 hm.grow, fun t ht => ?_, h5⟩
        cases t
        · exact h4 false ht
        · rcases fresh _ ht with h7 | h7 | h7
          · exact h4 true h7
          · exact h6 h7
          · omega
    · intro i j x y L M hi hj hL hM e1 e2 hbb
      rcases look i x hi with ⟨i1, x1, hx1, rfl, rfl⟩ | ⟨hi1, hi2⟩ <;> rcases look j y hj with ⟨j1, y1, hy1, rfl, rfl⟩ | ⟨hj1, hj2⟩
      · obtain ⟨L1, q1, _, q2⟩ := newn _ _ hx1
        obtain ⟨L2, q3, _, q4⟩ := newn _ _ hy1
        have r1 := hfw _ _ q1
        rw [hL] at r1; cases r1
        have r2 := hfw _ _ q3
        rw [hM] at r2; cases r2
        have := hm.inj i1 j1 x1 y1 L M hx1 hy1 q1 q3 e1 e2 hbb
        rw [this]
      · obtain ⟨L1, q1, _, q2⟩ := newn _ _ hx1
        obtain ⟨L2, q3, _, q4⟩ := oldn _ _ hj1 hj2
        have r1 := hfw _ _ q1
        rw [hL] at r1; cases r1
        have r2 := pre_get (th'.drop σ.length) q3
        rw [hM] at r2; cases r2
        rcases (q2 e1).2.2 with h5 | h5
        · rw [hbb] at h5; exact ((q4 e2).2.2.2 h5).elim
        · have := (q4 e2).1; omega
      · obtain ⟨L1, q1, _, q2⟩ := newn _ _ hy1
        obtain ⟨L2, q3, _, q4⟩ := oldn _ _ hi1 hi2
        have r1 := hfw _ _ q1
        rw [hM] at r1; cases r1
        have r2 := pre_get (th'.drop σ.length) q3
        rw [hL] at r2; cases r2
        rcases (q2 e2).2.2 with h5 | h5
        · rw [← hbb] at h5; exact ((q4 e1).2.2.2 h5).elim
        · have := (q4 e1).1; omega
      · obtain ⟨L1, q1, _, _⟩ := oldn _ _ hi1 hi2
        obtain ⟨L2, q3, _, _⟩ := oldn _ _ hj1 hj2
        have r1 := pre_get (th'.drop σ.length) q1
        rw [hL] at r1; cases r1
        have r2 := pre_get (th'.drop σ.length) q3
        rw [hM] at r2; cases r2
        exact hs.mem.inj i j x y L M hi2 hj2 q1 q3 e1 e2 hbb
    · intro t b hb
      cases t
      · exact Nat.lt_of_lt_of_le (hs.mem.zlt _ _ hb) hm.grow
      · exact hm.zlt _ _ hb
    · exact Nat.le_trans hs.mem.grow hm.grow
    · intro b hb hob
      refine (same b (Nat.lt_of_lt_of_le hb hs.mem.grow) (fun hg => ?_)).trans (hs.mem.frame b hb hob)
      rcases (givE b hg).1 with h1 | h1
      · exact hob h1
      · omega
    · intro t b hb; exact hsub t b (hs.mem.zin t b hb)
    · intro b hb
      rcases fresh b hb with h1 | h1 | h1
      · exact hs.mem.zout b h1
      · exact .inr (givE b h1).1
      · exact .inr (.inr (Nat.le_trans hs.mem.grow h1))
    · intro b hb; exact hs.mem.zb b hb
    · intro g cs hg
      obtain ⟨h1, h2⟩ := hs.mem.globs g cs hg
      exact ⟨hsub _ _ h1, fun j v hv => (cell_heap (le.same _ _ h1) _).trans (h2 j v hv)⟩
    · intro i L hi; exact pre_get _ (hs.mem.pre i L hi)
    · exact hs.mem.sys.trans hm.sys
    · obtain ⟨u, hu, hru⟩ := hs.slots i x hi
      exact ⟨u, hu, hru.on le _⟩
  rcases hh with ⟨rfl, hq⟩ | ⟨rfl, hq⟩
  · obtain ⟨h1, h2, h3⟩ := hk y o' n' hq
    obtain ⟨m1, m2⟩ := main h1 h2
    exact ⟨v, _, _, _, _, .inl ⟨rfl, h3⟩, rfl, m1, m2, later_app _ _, extT⟩
  · obtain ⟨h1, h2, h3⟩ := hkp y o' n' hq
    obtain ⟨m1, m2⟩ := main h1 h2
    exact ⟨v, _, _, _, _, .inr ⟨rfl, h3⟩, rfl, m1, m2, later_app _ _, extT⟩
end
end Go.AM
