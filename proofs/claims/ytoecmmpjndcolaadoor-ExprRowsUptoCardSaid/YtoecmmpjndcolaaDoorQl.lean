/- The abstract machine, 12: other numbers for own things; loops; contracts. -/
import Derived.Test.YtoecmmpjndcolaaDoorQk
set_option linter.unusedSimpArgs false
set_option linter.unusedVariables false
namespace Go.AM
open Go
mutual
def ren (f : Nat → Nat) : AV → AV
  | .s n lo len => .s (f n) lo len
  | .p n i off => .p (f n) i off
  | .agg c => .agg (renL f c)
  | .tup c => .tup (renL f c)
  | .fn g c => .fn g (renL f c)
  | .ifc t x => .ifc t (ren f x)
  | .r v => .r v
  | .ro t k els => .ro t k els
  | .re t c off => .re t c off
def renL (f : Nat → Nat) : List AV → List AV
  | [] => []
  | x :: r => ren f x :: renL f r
end
def renNd (f : Nat → Nat) : Nd → Nd
  | .box T c => .box T (renL f c)
  | .lst T k els => .lst T k els
theorem renL_get (f : Nat → Nat) : ∀ (c : List AV) (i : Nat), (renL f c)[i]? = (c[i]?).map (ren f)
  | [], i => by simp [renL]
  | x :: r, 0 => by simp [renL]
  | x :: r, i + 1 => by simp [renL, renL_get f r i]
theorem renL_length (f : Nat → Nat) : ∀ c : List AV, (renL f c).length = c.length
  | [] => rfl
  | x :: r => by simp [renL, renL_length f r]
section
variable {w : World} {z : Zone}
theorem Rep.unren {f : Nat → Nat} {th th' : List NLoc} {y : AV} {v : Value} (h : Rep w z th y v) (hf : ∀ (i : Nat) L, th[f i]? = some L → th'[i]? = some L) : ∀ x, y = ren f x → Rep w z th' x v := by
  induction h with
  | r th v => intro x hx; cases x <;> simp [ren] at hx; subst hx; exact .r _ _
  | nil th t k a c => intro x hx; cases x <;> simp [ren] at hx; obtain ⟨rfl, rfl, rfl⟩ := hx; exact .nil _ _ _ _ _
  | ro th t k els b o c ys hz hc hk hy h1 hx ih => intro x hx'; cases x <;> simp [ren] at hx'; obtain ⟨rfl, rfl, rfl⟩ := hx'; exact .ro _ _ _ _ b o c ys hz hc hk hy h1 hx
  | re th t c b o off ys hz hy hx ih => intro x hx'; cases x <;> simp [ren] at hx'; obtain ⟨rfl, rfl, rfl⟩ := hx'; exact .re _ _ _ b o _ ys hz hy hx
  | s th n lo len c o L hL hp hl hc ho => intro x hx; cases x <;> simp [ren] at hx; obtain ⟨rfl, rfl, rfl⟩ := hx; exact .s _ _ _ _ c o L (hf _ _ hL) hp hl hc ho
  | sn th n lo L hL hp => intro x hx; cases x <;> simp [ren] at hx; obtain ⟨rfl, rfl, rfl⟩ := hx; exact .sn _ _ _ L (hf _ _ hL) hp
  | p th n i off L hL => intro x hx; cases x <;> simp [ren] at hx; obtain ⟨rfl, rfl, rfl⟩ := hx; exact .p _ _ _ _ L (hf _ _ hL)
  | agg th c ys hl hx ih =>
    intro x hx'; cases x <;> simp [ren] at hx'; subst hx'
    refine .agg _ _ ys (by rw [hl, renL_length]) (fun i x y h1 h2 => ih i (ren f x) y (by rw [renL_get, h1]; rfl) h2 hf x rfl)
  | tup th c ys hl hx ih =>
    intro x hx'; cases x <;> simp [ren] at hx'; subst hx'
    refine .tup _ _ ys (by rw [hl, renL_length]) (fun i x y h1 h2 => ih i (ren f x) y (by rw [renL_get, h1]; rfl) h2 hf x rfl)
  | fn th g c ys hl hx ih =>
    intro x hx'; cases x <;> simp [ren] at hx'; obtain ⟨rfl, rfl⟩ := hx'
    refine .fn _ _ _ ys (by rw [hl, renL_length]) (fun i x y h1 h2 => ih i (ren f x) y (by rw [renL_get, h1]; rfl) h2 hf x rfl)
  | ifc th t y v hx ih =>
    intro x hx'; cases x <;> simp [ren] at hx'; obtain ⟨rfl, rfl⟩ := hx'
    exact .ifc _ _ _ _ (ih hf _ rfl)
theorem Rep.ren {f : Nat → Nat} {th th' : List NLoc} {x : AV} {v : Value} (h : Rep w z th x v) (hf : ∀ (i : Nat) L, th[i]? = some L → th'[f i]? = some L) : Rep w z th' (ren f x) v := by
  induction h with
  | r th v => exact .r _ _
  | nil th t k a c => exact .nil _ _ _ _ _
  | ro th t k els b o c ys hz hc hk hy h1 hx ih => exact .ro _ _ _ _ b o c ys hz hc hk hy h1 hx
  | re th t c b o off ys hz hy hx ih => exact .re _ _ _ b o _ ys hz hy hx
  | s th n lo len c o L hL hp hl hc ho => exact .s _ _ _ _ c o L (hf _ _ hL) hp hl hc ho
  | sn th n lo L hL hp => exact .sn _ _ _ L (hf _ _ hL) hp
  | p th n i off L hL => exact .p _ _ _ _ L (hf _ _ hL)
  | agg th c ys hl hx ih =>
    refine .agg _ _ ys (by rw [hl, renL_length]) (fun i x y h1 h2 => ?_)
    rw [renL_get, Option.map_eq_some_iff] at h1
    obtain ⟨x', h3, rfl⟩ := h1
    exact ih i x' y h3 h2 hf
  | tup th c ys hl hx ih =>
    refine .tup _ _ ys (by rw [hl, renL_length]) (fun i x y h1 h2 => ?_)
    rw [renL_get, Option.map_eq_some_iff] at h1
    obtain ⟨x', h3, rfl⟩ := h1
    exact ih i x' y h3 h2 hf
  | fn th g c ys hl hx ih =>
    refine .fn _ _ _ ys (by rw [hl, renL_length]) (fun i x y h1 h2 => ?_)
    rw [renL_get, Option.map_eq_some_iff] at h1
    obtain ⟨x', h3, rfl⟩ := h1
    exact ih i x' y h3 h2 hf
  | ifc th t y v hx ih => exact .ifc _ _ _ _ (ih hf)
theorem Reps.unren {f : Nat → Nat} {th th' : List NLoc} {c : List AV} {ys : List Value} (h : Reps w z th (renL f c) ys) (hf : ∀ (i : Nat) L, th[f i]? = some L → th'[i]? = some L) : Reps w z th' c ys :=
  ⟨by rw [h.1, renL_length], fun i x y h1 h2 => (h.2 i (Go.AM.ren f x) y (by rw [renL_get, h1]; rfl) h2).unren hf x rfl⟩
theorem Reps.ren {f : Nat → Nat} {th th' : List NLoc} {c : List AV} {ys : List Value} (h : Reps w z th c ys) (hf : ∀ (i : Nat) L, th[i]? = some L → th'[f i]? = some L) : Reps w z th' (renL f c) ys := by
  refine ⟨by rw [h.1, renL_length], fun i x y h1 h2 => ?_⟩
  rw [renL_get, Option.map_eq_some_iff] at h1
  obtain ⟨x', h3, rfl⟩ := h1
  exact (h.2 i x' y h3 h2).ren hf
theorem NdAt.unren {f : Nat → Nat} {th th' : List NLoc} {L : NLoc} {nd : Nd} (h : NdAt w z th L (renNd f nd)) (hf : ∀ (i : Nat) L, th[f i]? = some L → th'[i]? = some L) : NdAt w z th' L nd := by
  cases nd with
  | box T c => obtain ⟨hp, cells, fr, h1, h2, h3, h4⟩ := h; exact ⟨hp, cells, fr, h1, h2, h3, h4.unren hf⟩
  | lst T k els => exact h
theorem NdAt.ren {f : Nat → Nat} {th th' : List NLoc} {L : NLoc} {nd : Nd} (h : NdAt w z th L nd) (hf : ∀ (i : Nat) L, th[i]? = some L → th'[f i]? = some L) : NdAt w z th' L (renNd f nd) := by
  cases nd with
  | box T c => obtain ⟨hp, cells, fr, h1, h2, h3, h4⟩ := h; exact ⟨hp, cells, fr, h1, h2, h3, h4.ren hf⟩
  | lst T k els => exact h
end
/-- Numbers by a list. -/
def by_ (ρ : List Nat) (i : Nat) : Nat := match ρ[i]? with
  | some j => j
  | none => i + 1000000000
section
variable {P : Program} {E : Env} {N : Nat} {st : AS} {th : List NLoc} {z : Zone} {a : Act} {w : World}
/-- A state is borne by another one, under other numbers. -/
def Emb (E : Env) (N : Nat) (st st' : AS) : Prop := ∀ th z a w, Sim E N st th z a w → ∃ th' z', Sim E N st' th' z' a w
def okO (ρ : List Nat) (o o' : List (Nat × Nd)) : Prop := ∀ p ∈ o', ∃ j, ρ[p.1]? = some j ∧ lk o j = some (renNd (by_ ρ) p.2)
def okM (ρ : List Nat) (m m' : List (Nat × AV)) : Prop := ∀ p ∈ m', lk m p.1 = some (ren (by_ ρ) p.2)
theorem lk_mem {α : Type} : ∀ {o : List (Nat × α)} {i : Nat} {x : α}, lk o i = some x → (i, x) ∈ o
  | [], _, _, h => by simp [lk] at h
  | (j, y) :: r, i, x, h => by
    simp only [lk] at h
    split at h
    · rename_i e; subst e; cases h; simp
    · exact List.mem_cons_of_mem _ (lk_mem h)
def thOf (th : List NLoc) (ρ : List Nat) : List NLoc := ρ.map fun j => (th[j]?).getD ⟨0, 0, 0, 0, false⟩
theorem thOf_get {ρ : List Nat} (hr : ∀ j ∈ ρ, j < th.length) {i j : Nat} (h : ρ[i]? = some j) : (thOf th ρ)[i]? = th[j]? := by
  have := hr j (List.mem_of_getElem? h)
  simp [thOf, h, this]
theorem thOf_by {ρ : List Nat} (hr : ∀ j ∈ ρ, j < th.length) (hb : th.length ≤ 1000000000) (i : Nat) (L : NLoc) (h : th[by_ ρ i]? = some L) : (thOf th ρ)[i]? = some L := by
  unfold by_ at h
  split at h
  · rename_i j hj; rw [thOf_get hr hj]; exact h
  · have := (List.getElem?_eq_some_iff.1 h).1; omega
/-- Memory, under other numbers. -/
theorem Mem.ren {o o' : List (Nat × Nd)} {n : Nat} (h : Mem E o n th z w) (ρ : List Nat) (hr : ∀ j ∈ ρ, j < n) (hb : n ≤ 1000000000) (ho : okO ρ o o') (hpre : ∀ i, i < E.th0.length → ρ[i]? = some i) (hnd : ρ.Nodup) : Mem E o' ρ.length (thOf th ρ) z w := by
  have hr' : ∀ j ∈ ρ, j < th.length := fun j hj => by rw [h.len]; exact hr j hj
  have hb' : th.length ≤ 1000000000 := by rw [h.len]; exact hb
  have get : ∀ i nd, lk o' i = some nd → ∃ j, ρ[i]? = some j ∧ lk o j = some (renNd (by_ ρ) nd) := fun i nd hi => ho _ (lk_mem hi)
  refine ⟨by simp [thOf], fun i nd hi => ?_, fun i i' x y L M hi hi' hL hM e1 e2 hbb => ?_, h.zlt, h.grow, h.frame, h.zin, h.zout, h.zb, h.globs, fun i L hi => ?_, h.sys⟩
  · obtain ⟨j, hj, hnd⟩ := get i nd hi
    obtain ⟨L, k1, k2, k3⟩ := h.nds j _ hnd
    exact ⟨L, by rw [thOf_get hr' hj]; exact k1, k2.unren (thOf_by hr' hb'), k3⟩
  · obtain ⟨j, hj, hx⟩ := get i x hi
    obtain ⟨j', hj', hy⟩ := get i' y hi'
    rw [thOf_get hr' hj] at hL
    rw [thOf_get hr' hj'] at hM
    have := h.inj j j' _ _ L M hx hy hL hM e1 e2 hbb
    subst this
    obtain ⟨l1, e1⟩ := List.getElem?_eq_some_iff.1 hj
    obtain ⟨l2, e2⟩ := List.getElem?_eq_some_iff.1 hj'
    exact (List.getElem?_inj l1 hnd).1 (hj.trans hj'.symm)
  · have hi' : i < E.th0.length := (List.getElem?_eq_some_iff.1 hi).1
    rw [thOf_get hr' (hpre i hi')]
    exact h.pre i L hi
theorem emb (ρ : List Nat) {st st' : AS} (hm : okM ρ st.m st'.m) (ho : okO ρ st.o st'.o) (hn : st'.n = ρ.length) (hr : ∀ j ∈ ρ, j < st.n) (hb : st.n ≤ 1000000000) (hpre : ∀ i, i < E.th0.length → ρ[i]? = some i) (hnd : ρ.Nodup) : Emb E N st st' := by
  intro th z a w h
  refine ⟨thOf th ρ, z, ?_, h.size, h.dfs, fun i x hi => ?_⟩
  · rw [hn]; exact h.mem.ren ρ hr hb ho hpre hnd
  · obtain ⟨y, hy, hrep⟩ := h.slots i _ (hm _ (lk_mem hi))
    exact ⟨y, hy, hrep.unren (thOf_by (fun j hj => by rw [h.mem.len]; exact hr j hj) (by rw [h.mem.len]; exact hb)) x rfl⟩
theorem Emb.refl : Emb E N st st := fun th z a w h => ⟨th, z, h⟩
theorem Emb.trans {s1 s2 s3 : AS} (h : Emb E N s1 s2) (h' : Emb E N s2 s3) : Emb E N s1 s3 := fun th z a w hs => let ⟨_, _, h1⟩ := h th z a w hs; h' _ _ _ _ h1
theorem AWP.emb {c : Code} {AQ : AExit → AS → Prop} {st st' : AS} (h : Emb E N st st') (hc : AWP P E N c st' AQ) : AWP P E N c st AQ := fun Q hQ th z a w hs => let ⟨th', z', h1⟩ := h th z a w hs; hc Q hQ th' z' a w h1
theorem exists_min (p : Nat → Prop) : ∀ n, p n → ∃ m, p m ∧ ∀ k, p k → m ≤ k := by
  intro n
  induction n using Nat.strongRecOn with
  | _ n ih =>
    intro hn
    by_cases h : ∃ m, m < n ∧ p m
    · obtain ⟨m, h1, h2⟩ := h; exact ih m h1 h2
    · exact ⟨n, hn, fun k hk => Nat.le_of_not_lt fun hlt => h ⟨k, hlt, hk⟩⟩
/-- What a round of a loop may come to. -/
def loopA {ι : Type} (E : Env) (N : Nat) (I : ι → AS) (ok : ι → Prop) (μ : ι → Nat) (i : ι) (AQ : AExit → AS → Prop) : AExit → AS → Prop
  | .normal, st => ∃ i', ok i' ∧ μ i' < μ i ∧ Emb E N st (I i')
  | e, st => AQ e st
theorem nextA {ι : Type} {I : ι → AS} {ok : ι → Prop} {μ : ι → Nat} {i : ι} {AQ : AExit → AS → Prop} (i' : ι) (h1 : ok i') (h2 : μ i' < μ i) (h3 : Emb E N st (I i')) : loopA E N I ok μ i AQ .normal st := ⟨i', h1, h2, h3⟩
theorem nextB {ι : Type} {I : ι → AS} {ok : ι → Prop} {μ : ι → Nat} {i : ι} {AQ : AExit → AS → Prop} {id : Nat} (i' : ι) (h1 : ok i') (h2 : μ i' < μ i) (h3 : Emb E N st (I i')) : blockA id (loopA E N I ok μ i AQ) .normal st := ⟨i', h1, h2, h3⟩
/-- A loop: a family of states, one for each datum that is well. -/
theorem awp_loop {ι : Type} (I : ι → AS) (ok : ι → Prop) (μ : ι → Nat) (i0 : ι) {c : Code} {AQ : AExit → AS → Prop} (h0 : ok i0) (he : Emb E N st (I i0))
    (round : ∀ i, ok i → AWP P E N c (I i) (loopA E N I ok μ i AQ)) : AWP P E N (.loop c) st AQ := by
  classical
  intro Q hQ th z a w hs
  let p : Act → World → Nat → Prop := fun a w n => ∃ i, ok i ∧ μ i = n ∧ ∃ th z, Sim E N (I i) th z a w
  let m : Act → World → Nat := fun a w => if h : ∃ n, p a w n then (exists_min (p a w) h.choose h.choose_spec).choose else 0
  have hm : ∀ a w n, p a w n → p a w (m a w) ∧ m a w ≤ n := by
    intro a w n hn
    have h : ∃ n, p a w n := ⟨n, hn⟩
    have := (exists_min (p a w) h.choose h.choose_spec).choose_spec
    simp only [m, dif_pos h]
    exact ⟨this.1, this.2 n hn⟩
  obtain ⟨th1, z1, h1⟩ := he th z a w hs
  refine wp_loop (fun a w => ∃ n, p a w n) m ⟨μ i0, i0, h0, rfl, th1, z1, h1⟩ (fun a w ⟨n, hn⟩ => ?_)
  obtain ⟨⟨i, hok, hμ, th2, z2, h2⟩, _⟩ := hm a w n hn
  refine round i hok _ ⟨?_, ?_, ?_, ?_⟩ th2 z2 a w h2
  · rintro st' th' z' a' w' ⟨i', hok', hlt, hemb⟩ hs'
    obtain ⟨th3, z3, h3⟩ := hemb th' z' a' w' hs'
    have hp : p a' w' (μ i') := ⟨i', hok', rfl, th3, z3, h3⟩
    exact ⟨⟨μ i', hp⟩, by have := (hm a' w' _ hp).2; omega⟩
  · intro id st' th' z' a' w' h1 h2; exact hQ.2.1 id st' th' z' a' w' h1 h2
  · intro st' th' z' a' w' h1 h2; exact hQ.2.2.1 st' th' z' a' w' h1 h2
  · intro x v st' th' z' w' h1 h2 h3 a' h4; exact hQ.2.2.2 x v st' th' z' w' h1 h2 h3 a' h4
theorem wrapA {n : Int} (h1 : -9223372036854775808 ≤ n) (h2 : n ≤ 9223372036854775807) : IntKind.i64.wrap n = n := Go.IntWalk.i64_in n ⟨h1, h2⟩
/-- The entry: the arguments in the first slots. -/
def ent : Nat → List AV → List (Nat × AV)
  | _, [] => []
  | i, x :: r => (i, x) :: ent (i + 1) r
theorem lk_ent : ∀ (c : List AV) (s i : Nat) (x : AV), lk (ent s c) i = some x → s ≤ i ∧ c[i - s]? = some x
  | [], s, i, x, h => by simp [ent, lk] at h
  | y :: r, s, i, x, h => by
    simp only [ent, lk] at h
    split at h
    · rename_i e; subst e; cases h; simp
    · rename_i e
      obtain ⟨h1, h2⟩ := lk_ent r (s + 1) i x h
      exact ⟨by omega, by rw [show i - s = (i - (s + 1)) + 1 by omega, List.getElem?_cons_succ]; exact h2⟩
def rvA (P : Program) (st : AS) : ResultVar → Option AV
  | .tmp t => lk st.m t
  | .cell t T => match tyOf P T, lk st.m t with
    | some y, some x => match cellsAt st x with
      | some (c, off) => pickC y c off
      | none => none
    | _, _ => none
def rvsA (P : Program) (st : AS) : List ResultVar → Option (List AV)
  | [] => some []
  | x :: r => match rvA P st x, rvsA P st r with
    | some a, some l => some (a :: l)
    | _, _ => none
def oneA : List AV → AV
  | [x] => x
  | l => .tup l
/-- A state and a value are borne by own things and a value, under other numbers. -/
def EmbV (E : Env) (st : AS) (x : AV) (o : List (Nat × Nd)) (n : Nat) (y : AV) : Prop := ∀ th z w v, Mem E st.o st.n th z w → Rep w z th x v → ∃ th' z', Mem E o n th' z' w ∧ Rep w z' th' y v
theorem embV (ρ : List Nat) {x y : AV} {o' : List (Nat × Nd)} (hx : x = ren (by_ ρ) y) (ho : okO ρ st.o o') (hr : ∀ j ∈ ρ, j < st.n) (hb : st.n ≤ 1000000000) (hpre : ∀ i, i < E.th0.length → ρ[i]? = some i) (hnd : ρ.Nodup) : EmbV E st x o' ρ.length y := by
  intro th z w v h hv
  exact ⟨thOf th ρ, z, h.ren ρ hr hb ho hpre hnd, hv.unren (thOf_by (fun j hj => by rw [h.len]; exact hr j hj) (by rw [h.len]; exact hb)) y hx⟩
theorem embV_nil {x y : AV} (hE : E.th0.length = 0) (hb : st.n ≤ 1000000000) (hx : x = ren (by_ []) y) : EmbV E st x [] 0 y :=
  embV [] hx (fun p hp => by cases hp) (fun j hj => by cases hj) hb (fun i hi => by omega) List.nodup_nil
def EmbS (E : Env) (N : Nat) (st : AS) (x : AV) (o : List (Nat × Nd)) (n : Nat) (y : AV) : Prop := ∀ th z a w v, Sim E N st th z a w → Rep w z th x v → ∃ th' z', Mem E o n th' z' w ∧ Rep w z' th' y v
theorem EmbV.s {x y : AV} {o : List (Nat × Nd)} {n : Nat} (h : EmbV E st x o n y) : EmbS E N st x o n y := fun th z _ w v hs hr => h th z w v hs.mem hr
/-- What a call leaves: its value and the own things. -/
def retA (P : Program) (E : Env) (N : Nat) (rs : List ResultVar) (Q R : AV → List (Nat × Nd) → Nat → Prop) : AExit → AS → Prop
  | .normal, st | .ret, st => match rvsA P st rs with
    | some l => ∃ y o n, Q y o n ∧ EmbS E N st (oneA l) o n y
    | none => False
  | .pan x, st => ∃ y o n, R y o n ∧ EmbV E st x o n y
  | _, _ => False
/-- A contract: arguments, own things that they bear, what is given back. -/
def Con (P : Program) (G : List (Nat × List Value)) (f : Nat) (xs : List AV) (o : List (Nat × Nd)) (n : Nat) (Q R : AV → List (Nat × Nd) → Nat → Prop) : Prop :=
  okFn P f = true ∧ ∀ (w : World) (th : List NLoc) (z : Zone) (own : Nat → Prop) (vs : List Value), (∀ b, own b ↔ ∃ i nd L, lk o i = some nd ∧ th[i]? = some L ∧ L.ph = false ∧ L.b = b) → Mem ⟨w, own, z, G, th⟩ o n th z w → Reps w z th xs vs →
    Calls P f vs.toArray w (fun e w' => ∃ v y o' n' th' z', ((e = .returned v ∧ Q y o' n') ∨ (e = .panicked [{ v := v, recovered := false }] ∧ R y o' n')) ∧ Mem ⟨w, own, z, G, th⟩ o' n' th' z' w' ∧ Rep w' z' th' y v)
def rvS (tmps : Array Value) : ResultVar → Sem Value
  | .tmp t => pure (tmps.getD t undef)
  | .cell a t => do loadVar t (← asAddr (tmps.getD a undef))
theorem rvA_sound (h : Sim E N st th z a w) {x : ResultVar} {y : AV} (hx : rvA P st x = some y) : ∃ v, Rep w z th y v ∧ (rvS a.tmps x).run P w = .ok v w := by
  cases x with
  | tmp t =>
    obtain ⟨v, hv, hr⟩ := h.slots t y hx
    exact ⟨v, hr, by simp [rvS, Array.getD_eq_getD_getElem?, hv]⟩
  | cell t T =>
    simp only [rvA] at hx
    split at hx
    · rename_i ty x hT hl
      split at hx
      · rename_i c off hc
        obtain ⟨u, hu, hr⟩ := h.slots t _ hl
        obtain ⟨b, o, rfl, hlt, hcell⟩ := cellsAt_sound h hr hc
        obtain ⟨v, hrv, hrun⟩ := run_loadVar (P := P) hT hx (fun _ => .inr trivial) hcell
        refine ⟨v, hrv, ?_⟩
        simp only [rvS, Array.getD_eq_getD_getElem?, hu, Option.getD_some, asAddr, Sem.run_bind, Sem.run_pure, Result.andThen_ok]
        exact hrun w (fun _ => rfl)
      · cases hx
    · cases hx
theorem rvsA_sound (h : Sim E N st th z a w) : ∀ {rs : List ResultVar} {l : List AV}, rvsA P st rs = some l → ∃ vs, Reps w z th l vs ∧ (rs.mapM (rvS a.tmps)).run P w = .ok vs w
  | [], l, he => by simp only [rvsA, Option.some.injEq] at he; subst he; exact ⟨[], .nil, by simp⟩
  | x :: r, l, he => by
    simp only [rvsA] at he
    split at he
    · rename_i y l' h1 h2; cases he
      obtain ⟨v, hv, hrun⟩ := rvA_sound (P := P) h h1
      obtain ⟨vs, hvs, hrun'⟩ := rvsA_sound h h2
      refine ⟨v :: vs, .cons hv hvs, ?_⟩
      rw [List.mapM_cons, Sem.run_bind, hrun, Result.andThen_ok, Sem.run_bind, hrun', Result.andThen_ok]; rfl
    · cases he
theorem results_sound (h : Sim E N st th z a w) {fn : Func} {l : List AV} (hl : rvsA P st fn.results.toList = some l) : ∃ v, Rep w z th (oneA l) v ∧ (results fn a.tmps).run P w = .ok v w := by
  obtain ⟨vs, hvs, hrun⟩ := rvsA_sound (P := P) h hl
  have hm : (fn.results.mapM (rvS a.tmps)).run P w = .ok vs.toArray w := by
    rw [show fn.results = fn.results.toList.toArray by simp, List.mapM_toArray, Sem.run_map]
    simp only [hrun, Result.andThen_ok]
  have e : results fn a.tmps = (do let vs ← fn.results.mapM (rvS a.tmps); pure (if h : vs.size = 1 then vs[0] else .tuple vs)) := rfl
  refine ⟨if h : vs.toArray.size = 1 then vs.toArray[0] else .tuple vs.toArray, ?_, ?_⟩
  · unfold oneA
    split
    · rename_i x
      obtain ⟨v, r, rfl, hv, hr⟩ := hvs.head
      obtain rfl := hr.of_nil
      simpa using hv
    · rename_i hne
      have hlen : vs.toArray.size ≠ 1 := by
        intro hh
        have : l.length = 1 := by rw [← hvs.1]; simpa using hh
        obtain ⟨x, rfl⟩ := List.length_eq_one_iff.1 this
        exact hne x rfl
      rw [dif_neg hlen]
      exact .tup th l vs hvs.1 hvs.2
  · rw [e, Sem.run_bind, hm]; rfl
theorem con_of_awp {G : List (Nat × List Value)} {f : Nat} {fn : Func} {c : Code} {xs : List AV} {o : List (Nat × Nd)} {n : Nat} {Q R : AV → List (Nat × Nd) → Nat → Prop} (hf : P.funcs[f]? = some fn) (hb : fn.body = some c) (hok : okFn P f = true) (hN : xs.length ≤ fn.ntmps)
    (h : ∀ E : Env, E.G = G → E.th0.length = n → AWP P E fn.ntmps c ⟨ent 0 xs, o, n⟩ (retA P E fn.ntmps fn.results.toList Q R)) : Con P G f xs o n Q R := by
  refine ⟨hok, fun w th z own vs hown hmem hr => calls_of_wp hf hb ?_⟩
  have hlen : vs.toArray.size = xs.length := by simpa using hr.1
  have hs : Sim ⟨w, own, z, G, th⟩ fn.ntmps ⟨ent 0 xs, o, n⟩ th z { tmps := vs.toArray ++ Array.replicate (fn.ntmps - vs.toArray.size) undef, defers := [] } w := by
    refine ⟨hmem, by simp; have := hr.1; omega, rfl, fun i x hi => ?_⟩
    obtain ⟨_, h2⟩ := lk_ent xs 0 i x hi
    rw [Nat.sub_zero] at h2
    obtain ⟨y, hy, hrep⟩ := hr.get h2
    refine ⟨y, ?_, hrep⟩
    have : i < vs.length := (List.getElem?_eq_some_iff.1 hy).1
    simp only [Array.getElem?_append, List.size_toArray, this, if_true]
    simpa using hy
  refine h ⟨w, own, z, G, th⟩ rfl hmem.len (bodyPost P fn _) ⟨?_, ?_, ?_, ?_⟩ th z _ w hs
  · intro st th z a w h1 h2
    simp only [retA] at h1
    split at h1
    · rename_i l hl
      obtain ⟨y, o', n', hq, he⟩ := h1
      obtain ⟨v, hv, hrun⟩ := results_sound (P := P) h2 hl
      obtain ⟨th', z', hm, hrep⟩ := he th z a w v h2 hv
      exact ⟨h2.dfs, v, hrun, v, y, o', n', th', z', .inl ⟨rfl, hq⟩, hm, hrep⟩
    · exact h1.elim
  · intro id st th z a w h1 h2; exact h1.elim
  · intro st th z a w h1 h2
    simp only [retA] at h1
    split at h1
    · rename_i l hl
      obtain ⟨y, o', n', hq, he⟩ := h1
      obtain ⟨v, hv, hrun⟩ := results_sound (P := P) h2 hl
      obtain ⟨th', z', hm, hrep⟩ := he th z a w v h2 hv
      exact ⟨h2.dfs, v, hrun, v, y, o', n', th', z', .inl ⟨rfl, hq⟩, hm, hrep⟩
    · exact h1.elim
  · intro x v st th z w h1 h2 h3 a h4
    obtain ⟨y, o', n', hq, he⟩ := h1
    obtain ⟨th', z', hm, hrep⟩ := he th z w v h2 h3
    exact ⟨h4, v, y, o', n', th', z', .inr ⟨rfl, hq⟩, hm, hrep⟩
end
end Go.AM
