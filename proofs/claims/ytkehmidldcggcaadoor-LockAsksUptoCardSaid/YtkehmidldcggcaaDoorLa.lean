/- The contracts of the lock layer's modes: over the two tables. -/
import Derived.Test.YtkehmidldcggcaaDoorProg
import Derived.Handy
import Derived.WalkSpells
import Derived.WalkLawsBesides
import Derived.Deep.Light
import Derived.StillTailTactics
import Derived.Lib.SmallJoins
import Derived.Lib.Hide
set_option linter.unusedSimpArgs false
set_option linter.unusedVariables false
namespace Go.Proofs.YtkehmidldcggcaaDoor
open Go.RowKit
theorem size_drewN (w : World) (n : Nat) : (w.drewN n).heap.size = w.heap.size := rfl
theorem in_any (n a b : Int) (w : World) : Calls Tryd.prog 29 #[.int .i64 n, .int .i64 a, .int .i64 b] w fun e w' => e = .returned (.bool (decide (a ≤ n) && decide (n ≤ b))) ∧ w = w' := by
  go_enter Tryd.func29, Tryd.ntmps29
  go_wp2
  all_goals (go_ret; refine ⟨?_, rfl⟩; simp <;> omega)
theorem mode_any (n : Int) (w : World) : Calls Tryd.prog 28 #[.int .i64 n] w fun e w' => e = .returned (.bool (decide (1 ≤ n) && decide (n ≤ 5))) ∧ w = w' := by
  go_enter Tryd.func28, Tryd.ntmps28
  go_wp2
  all_goals (go_ret; refine ⟨?_, rfl⟩; simp <;> omega)
/-- The table of which modes go together, as laid. -/
def fitsL : List (List Bool) := [[false, false, false, false, false, false], [false, true, true, true, true, false], [false, true, true, false, false, false], [false, true, false, true, false, false], [false, true, false, false, false, false], [false, false, false, false, false, false]]
def joinsL : List (List Int) := [[0, 0, 0, 0, 0, 0], [0, 1, 2, 3, 4, 5], [0, 2, 2, 4, 4, 5], [0, 3, 4, 3, 4, 5], [0, 4, 4, 4, 4, 5], [0, 5, 5, 5, 5, 5]]
def fitB (a b : Int) : Bool := (fitsL.getD a.toNat []).getD b.toNat false
def joinB (a b : Int) : Int := (joinsL.getD a.toNat []).getD b.toNat 0
/-- What the listed variables hold. -/
def TabFits (w : World) : Prop := ∀ i j : Nat, i < 6 → j < 6 → w.cell? ⟨0, i * 6 + j, none⟩ = some (.bool ((fitsL.getD i []).getD j false))
def TabJoins (w : World) : Prop := ∀ i j : Nat, i < 6 → j < 6 → w.cell? ⟨1, i * 6 + j, none⟩ = some (.int .i64 ((joinsL.getD i []).getD j 0))
theorem TabFits.at {w : World} (h : TabFits w) {a b : Int} (ha : a ≤ 5) (hb : b ≤ 5) : w.cell? ⟨0, a.toNat * 6 + b.toNat, none⟩ = some (.bool (fitB a b)) := h _ _ (by omega) (by omega)
theorem TabJoins.at {w : World} (h : TabJoins w) {a b : Int} (ha : a ≤ 5) (hb : b ≤ 5) : w.cell? ⟨1, a.toNat * 6 + b.toNat, none⟩ = some (.int .i64 (joinB a b)) := h _ _ (by omega) (by omega)
theorem TabFits.below {w w' : World} {B : Nat} (h : TabFits w) (hb : Below B w w') (hB : 0 < B) : TabFits w' := fun i j hi hj => (hb.cell (p := ⟨_, _, none⟩) hB).trans (h i j hi hj)
theorem TabJoins.below {w w' : World} {B : Nat} (h : TabJoins w) (hb : Below B w w') (hB : 1 < B) : TabJoins w' := fun i j hi hj => (hb.cell (p := ⟨_, _, none⟩) hB).trans (h i j hi hj)
def modeB (n : Int) : Bool := decide (1 ≤ n) && decide (n ≤ 5)
def fitsM (a b : Int) : Bool × Int := if modeB a && modeB b then (fitB a b, 0) else (false, 2)
def joinsM (a b : Int) : Int × Int := if modeB a && modeB b then (joinB a b, 0) else (0, 2)
theorem Fits_any (a b : Int) (w : World) (hT : TabFits w) : Calls Tryd.prog 10 #[.int .i64 a, .int .i64 b] w fun e w' => e = .returned (.tuple #[.bool (fitsM a b).1, .int .i64 (fitsM a b).2]) ∧ w = w' := by
  by_cases h : 1 ≤ a ∧ a ≤ 5 ∧ 1 ≤ b ∧ b ≤ 5
  · obtain ⟨h1, h2, h3, h4⟩ := h
    have e1 : (decide (1 ≤ a) && decide (a ≤ 5)) = true := by simp; omega
    have e2 : (decide (1 ≤ b) && decide (b ≤ 5)) = true := by simp; omega
    have hc := hT.at h2 h4
    go_enter Tryd.func10, Tryd.ntmps10
    go_wp2_with (go_at_call 28; refine (mode_any _ _).mono ?_; rintro e w1 ⟨rfl, rfl⟩)
    all_goals
      go_ret2
      go_light
      refine ⟨?_, rfl⟩
      simp [fitsM, modeB, h1, h2, h3, h4]
  by_cases ha : (decide (1 ≤ a) && decide (a ≤ 5)) = true
  · have hb : (decide (1 ≤ b) && decide (b ≤ 5)) = false := by simp at ha ⊢; omega
    have e : (modeB a && modeB b) = false := by simp only [modeB, hb, Bool.and_false]
    go_enter Tryd.func10, Tryd.ntmps10
    go_wp2_with (go_at_call 28; refine (mode_any _ _).mono ?_; rintro e w1 ⟨rfl, rfl⟩)
    all_goals
      go_ret2
      go_light
      refine ⟨?_, rfl⟩
      simp [fitsM, e]
  · have ha' : (decide (1 ≤ a) && decide (a ≤ 5)) = false := by simpa using ha
    have e : (modeB a && modeB b) = false := by simp only [modeB, ha', Bool.false_and]
    clear ha
    go_enter Tryd.func10, Tryd.ntmps10
    go_wp2_with (go_at_call 28; refine (mode_any _ _).mono ?_; rintro e w1 ⟨rfl, rfl⟩)
    all_goals
      go_ret2
      go_light
      refine ⟨?_, rfl⟩
      simp [fitsM, e]
theorem Join_any (a b : Int) (w : World) (hT : TabJoins w) : Calls Tryd.prog 12 #[.int .i64 a, .int .i64 b] w fun e w' => e = .returned (.tuple #[.int .i64 (joinsM a b).1, .int .i64 (joinsM a b).2]) ∧ w = w' := by
  by_cases h : 1 ≤ a ∧ a ≤ 5 ∧ 1 ≤ b ∧ b ≤ 5
  · obtain ⟨h1, h2, h3, h4⟩ := h
    have e1 : (decide (1 ≤ a) && decide (a ≤ 5)) = true := by simp; omega
    have e2 : (decide (1 ≤ b) && decide (b ≤ 5)) = true := by simp; omega
    have hc := hT.at h2 h4
    go_enter Tryd.func12, Tryd.ntmps12
    go_wp2_with (go_at_call 28; refine (mode_any _ _).mono ?_; rintro e w1 ⟨rfl, rfl⟩)
    all_goals
      go_ret2
      go_light
      refine ⟨?_, rfl⟩
      simp [joinsM, modeB, h1, h2, h3, h4]
  by_cases ha : (decide (1 ≤ a) && decide (a ≤ 5)) = true
  · have hb : (decide (1 ≤ b) && decide (b ≤ 5)) = false := by simp at ha ⊢; omega
    have e : (modeB a && modeB b) = false := by simp only [modeB, hb, Bool.and_false]
    go_enter Tryd.func12, Tryd.ntmps12
    go_wp2_with (go_at_call 28; refine (mode_any _ _).mono ?_; rintro e w1 ⟨rfl, rfl⟩)
    all_goals
      go_ret2
      go_light
      refine ⟨?_, rfl⟩
      simp [joinsM, e]
  · have ha' : (decide (1 ≤ a) && decide (a ≤ 5)) = false := by simpa using ha
    have e : (modeB a && modeB b) = false := by simp only [modeB, ha', Bool.false_and]
    clear ha
    go_enter Tryd.func12, Tryd.ntmps12
    go_wp2_with (go_at_call 28; refine (mode_any _ _).mono ?_; rintro e w1 ⟨rfl, rfl⟩)
    all_goals
      go_ret2
      go_light
      refine ⟨?_, rfl⟩
      simp [joinsM, e]
/-! The reference. -/
def doesM (m : Int) : Int := if m = 1 then 1 else if m = 2 then 3 else if m = 3 then 5 else if m = 4 then 7 else 15
theorem does_any (m : Int) (w : World) : Calls Tryd.prog 64 #[.int .i64 m] w fun e w' => e = .returned (.int .i64 (doesM m)) ∧ w = w' := by
  go_enter Tryd.func64, Tryd.ntmps64
  go_wp2
  all_goals
    go_ret
    go_light
    refine ⟨?_, rfl⟩
    simp_all [doesM]
theorem doesM_bd (m : Int) : 0 ≤ doesM m ∧ doesM m ≤ 15 := by unfold doesM; repeat' split <;> omega
def hasM (m what : Int) : Bool := doesM m / what % 2 == 1
theorem has_any (m what : Int) (w : World) (h1 : 1 ≤ what) (h2 : what ≤ 8) : Calls Tryd.prog 56 #[.int .i64 m, .int .i64 what] w fun e w' => e = .returned (.bool (hasM m what)) ∧ w = w' := by
  obtain ⟨b1, b2⟩ := doesM_bd m
  have d1 : 0 ≤ doesM m / what := Int.ediv_nonneg b1 (by omega)
  have d2 : doesM m / what ≤ 15 := Int.le_trans (Int.ediv_le_self _ b1) b2
  go_enter Tryd.func56, Tryd.ntmps56
  go_wp2_with (go_at_call 64; refine (does_any _ _).mono ?_; rintro e w1 ⟨rfl, rfl⟩)
  all_goals
    go_ret
    go_light
    exact ⟨rfl, rfl⟩
def fittingM (a b : Int) : Bool := if hasM a 8 || hasM b 8 then false else !(hasM a 4 && hasM b 2) && !(hasM b 4 && hasM a 2)
theorem fitting_any (a b : Int) (w : World) : Calls Tryd.prog 30 #[.int .i64 a, .int .i64 b] w fun e w' => e = .returned (.bool (fittingM a b)) ∧ w = w' := by
  go_enter Tryd.func30, Tryd.ntmps30
  go_wp2_with (go_at_call 56; refine (has_any _ _ _ (by omega) (by omega)).mono ?_; rintro e w1 ⟨rfl, rfl⟩)
  all_goals
    go_ret
    go_light
    refine ⟨?_, rfl⟩
    simp_all [fittingM]
theorem modes_cases {a : Int} (h1 : 1 ≤ a) (h2 : a ≤ 5) : a = 1 ∨ a = 2 ∨ a = 3 ∨ a = 4 ∨ a = 5 := by omega
theorem fitting_eq (a b : Int) (h1 : 1 ≤ a) (h2 : a ≤ 5) (h3 : 1 ≤ b) (h4 : b ≤ 5) : fittingM a b = fitB a b := by
  rcases modes_cases h1 h2 with rfl | rfl | rfl | rfl | rfl <;> rcases modes_cases h3 h4 with rfl | rfl | rfl | rfl | rfl <;> decide
theorem FitsOf_any (a b : Int) (w : World) : Calls Tryd.prog 11 #[.int .i64 a, .int .i64 b] w fun e w' => e = .returned (.tuple #[.bool (fitsM a b).1, .int .i64 (fitsM a b).2]) ∧ w = w' := by
  by_cases h : 1 ≤ a ∧ a ≤ 5 ∧ 1 ≤ b ∧ b ≤ 5
  · obtain ⟨h1, h2, h3, h4⟩ := h
    have e1 : (decide (1 ≤ a) && decide (a ≤ 5)) = true := by simp; omega
    have e2 : (decide (1 ≤ b) && decide (b ≤ 5)) = true := by simp; omega
    go_enter Tryd.func11, Tryd.ntmps11
    go_wp2_with (first | (go_at_call 29; refine (in_any _ _ _ _).mono ?_; rintro e w1 ⟨rfl, rfl⟩) | (go_at_call 30; refine (fitting_any _ _ _).mono ?_; rintro e w1 ⟨rfl, rfl⟩))
    all_goals
      go_ret2
      go_light
      refine ⟨?_, rfl⟩
      simp [fitsM, modeB, h1, h2, h3, h4, fitting_eq a b h1 h2 h3 h4]
  by_cases ha : (decide (1 ≤ a) && decide (a ≤ 5)) = true
  · have hb : (decide (1 ≤ b) && decide (b ≤ 5)) = false := by simp at ha ⊢; omega
    have e : (modeB a && modeB b) = false := by simp only [modeB, hb, Bool.and_false]
    go_enter Tryd.func11, Tryd.ntmps11
    go_wp2_with (first | (go_at_call 29; refine (in_any _ _ _ _).mono ?_; rintro e w1 ⟨rfl, rfl⟩) | (go_at_call 30; refine (fitting_any _ _ _).mono ?_; rintro e w1 ⟨rfl, rfl⟩))
    all_goals
      go_ret2
      go_light
      refine ⟨?_, rfl⟩
      simp [fitsM, e]
  · have ha' : (decide (1 ≤ a) && decide (a ≤ 5)) = false := by simpa using ha
    have e : (modeB a && modeB b) = false := by simp only [modeB, ha', Bool.false_and]
    clear ha
    go_enter Tryd.func11, Tryd.ntmps11
    go_wp2_with (first | (go_at_call 29; refine (in_any _ _ _ _).mono ?_; rintro e w1 ⟨rfl, rfl⟩) | (go_at_call 30; refine (fitting_any _ _ _).mono ?_; rintro e w1 ⟨rfl, rfl⟩))
    all_goals
      go_ret2
      go_light
      refine ⟨?_, rfl⟩
      simp [fitsM, e]
theorem law_fits (a b : Int) (w : World) (hT : TabFits w) : Calls Tryd.prog 3 #[.int .i64 a, .int .i64 b] w fun e w' => e = .returned (.bool true) ∧ Below w.heap.size w w' := by
  go_enter Tryd.func3, Tryd.ntmps3
  go_wp2_with (first | (go_at_call 10; refine (Fits_any _ _ _ (by assumption)).mono ?_; rintro e w1 ⟨rfl, rfl⟩) | (go_at_call 11; refine (FitsOf_any _ _ _).mono ?_; rintro e w1 ⟨rfl, rfl⟩))
  go_ret
  go_light
  exact ⟨rfl, Below.refl _ _⟩
end Go.Proofs.YtkehmidldcggcaaDoor
