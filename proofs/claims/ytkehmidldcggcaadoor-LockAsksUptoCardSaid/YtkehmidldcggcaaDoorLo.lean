/- Own rows of locks: stores, pops; having a lock, as lists. -/
import Derived.Test.YtkehmidldcggcaaDoorLm
import Derived.Test.YtkehmidldcggcaaDoorKp
set_option linter.unusedSimpArgs false
set_option linter.unusedVariables false
namespace Go.Proofs.YtkehmidldcggcaaDoor
open Go.RowKit Go.Joins
theorem flat_set : ∀ (l : List LK) (k : Nat) (y : LK) (m : Int), l[k]? = some y → flat (l.set k ⟨y.t, y.s, m⟩) = (flat l).set (k * 3 + 2) (.int .i64 m)
  | [], k, y, m, h => by simp at h
  | x :: r, 0, y, m, h => by simp at h; subst h; rfl
  | x :: r, k + 1, y, m, h => by
    have ih := flat_set r k y m (by simpa using h)
    have e : (k + 1) * 3 + 2 = (k * 3 + 2) + 3 := by omega
    rw [e]
    show LK.cells x ++ flat (r.set k _) = (LK.cells x ++ flat r).set _ _
    rw [ih]
    rfl
theorem flat_get : ∀ (l : List LK) (j : Nat) (u : Value), (flat l)[j]? = some u → ∃ q x i, l[q]? = some x ∧ (LK.cells x)[i]? = some u ∧ j = q * 3 + i
  | [], j, u, h => by simp [flat] at h
  | x :: r, 0, u, h => ⟨0, x, 0, rfl, h, rfl⟩
  | x :: r, 1, u, h => ⟨0, x, 1, rfl, h, rfl⟩
  | x :: r, 2, u, h => ⟨0, x, 2, rfl, h, rfl⟩
  | x :: r, j + 3, u, h => by
    obtain ⟨q, y, i, h1, h2, h3⟩ := flat_get r j u h
    exact ⟨q + 1, y, i, h1, h2, by omega⟩
theorem flat_one (l : List LK) : ∀ u ∈ flat l, u.oneCell' = true := by
  intro u hu
  obtain ⟨x, _, hx⟩ := List.mem_flatMap.1 hu
  simp [LK.cells] at hx
  rcases hx with rfl | rfl | rfl <;> rfl
theorem flat_snoc (l : List LK) (x : LK) : flat (l ++ [x]) = flat l ++ [.int .i64 x.t, .string x.s, .int .i64 x.m] := by simp [flat, LK.cells]
/-- A lock is had: its mode is written, or it stands behind. -/
def haveM (x : LK) : List LK → List LK
  | [] => [x]
  | y :: r => if isK x.t x.s y = true then ⟨y.t, y.s, x.m⟩ :: r else y :: haveM x r
theorem haveM_at (x : LK) : ∀ (l : List LK) (k0 : Nat),
    (idxF (isK x.t x.s) l k0 = -1 ∧ haveM x l = l ++ [x] ∧ l.any (isK x.t x.s) = false) ∨ ∃ (j : Nat) (y : LK), idxF (isK x.t x.s) l k0 = ((k0 + j : Nat) : Int) ∧ l[j]? = some y ∧ isK x.t x.s y = true ∧ (∀ i z, i < j → l[i]? = some z → isK x.t x.s z = false) ∧ haveM x l = l.set j ⟨y.t, y.s, x.m⟩
  | [], k0 => .inl ⟨rfl, rfl, rfl⟩
  | y :: r, k0 => by
    by_cases e : isK x.t x.s y = true
    · exact .inr ⟨0, y, by rw [idxF, if_pos e]; rfl, rfl, e, fun i z hi => absurd hi (Nat.not_lt_zero _), by rw [haveM, if_pos e]; rfl⟩
    · have e' : isK x.t x.s y = false := by simpa using e
      have ec : ((k0 : Int) + 1) = ((k0 + 1 : Nat) : Int) := by omega
      rcases haveM_at x r (k0 + 1) with ⟨h1, h2, h3⟩ | ⟨j, z, h1, h2, h3, h4, h5⟩
      · exact .inl ⟨by rw [idxF, if_neg e, ec, h1], by rw [haveM, if_neg e, h2]; rfl, by simp [e', h3]⟩
      · refine .inr ⟨j + 1, z, by rw [idxF, if_neg e, ec, h1]; omega, h2, h3, ?_, by rw [haveM, if_neg e, h5]; rfl⟩
        intro i u hi hu
        cases i with
        | zero => simp at hu; subst hu; exact e'
        | succ i => exact h4 i u (by omega) (by simpa using hu)
theorem haveM_find (x : LK) (l : List LK) :
    (findM x.t x.s l = -1 ∧ haveM x l = l ++ [x] ∧ l.any (isK x.t x.s) = false) ∨ ∃ (j : Nat) (y : LK), findM x.t x.s l = (j : Int) ∧ l[j]? = some y ∧ isK x.t x.s y = true ∧ (∀ i z, i < j → l[i]? = some z → isK x.t x.s z = false) ∧ haveM x l = l.set j ⟨y.t, y.s, x.m⟩ := by
  simpa [findM] using haveM_at x l 0
theorem haveM_len (x : LK) : ∀ l : List LK, l.length ≤ (haveM x l).length ∧ (haveM x l).length ≤ l.length + 1
  | [] => by simp [haveM]
  | y :: r => by
    have := haveM_len x r
    unfold haveM
    split <;> simp <;> omega
/-- Two rows of the call's own. -/
def OwnPair (w : World) (B : Nat) (v1 v2 : Value) (l1 l2 : List LK) : Prop :=
  w.ownsRow B 36 3 v1 l1.length (flat l1) ∧ w.ownsRow B 36 3 v2 l2.length (flat l2) ∧ ∀ g, v1.ownBlock = some g → v2.ownBlock ≠ some g
theorem OwnPair.keeps {S : Nat → Prop} {w w' : World} {B : Nat} {v1 v2 : Value} {l1 l2 : List LK} (h : OwnPair w B v1 v2 l1 l2) (k : Keeps S w w') (h1 : ∀ g, v1.ownBlock = some g → ¬ S g) (h2 : ∀ g, v2.ownBlock = some g → ¬ S g) : OwnPair w' B v1 v2 l1 l2 :=
  ⟨k.own h.1 h1, k.own h.2.1 h2, h.2.2⟩
theorem OwnPair.below {w w' : World} {B C : Nat} {v1 v2 : Value} {l1 l2 : List LK} (h : OwnPair w B v1 v2 l1 l2) (k : Below C w w') (hC : w.heap.size ≤ C) : OwnPair w' B v1 v2 l1 l2 :=
  h.keeps (Keeps.of_below (S := fun _ => False) k hC) (fun _ _ => id) (fun _ _ => id)
theorem own_below {w w' : World} {base size n C : Nat} {e : TypeId} {v : Value} {xs : List Value} (h : w.ownsRow base e size v n xs) (k : Below C w w') (hC : w.heap.size ≤ C) : w'.ownsRow base e size v n xs :=
  (Keeps.of_below (S := fun _ => False) k hC).own h (fun _ _ => id)
/-- A row of the call's own that is stored into. -/
theorem own_mode {w : World} {B g cap k : Nat} {l : List LK} {y : LK} (m : Int) (h : w.ownsRow B 36 3 (.slice (some ⟨g, 0, none⟩) l.length cap) l.length (flat l)) (hy : l[k]? = some y) :
    (w.setCell ⟨g, k * 3 + 2, none⟩ (.int .i64 m)).ownsRow B 36 3 (.slice (some ⟨g, 0, none⟩) l.length cap) l.length (flat (l.set k ⟨y.t, y.s, m⟩)) := by
  rw [flat_set l k y m hy]
  exact (h.stored _ _).1
end Go.Proofs.YtkehmidldcggcaaDoor
