/- The reference's Join; the law of Join. -/
import Derived.Test.YtkehmidldcggcaaDoorLa
set_option linter.unusedSimpArgs false
set_option linter.unusedVariables false
namespace Go.Proofs.YtkehmidldcggcaaDoor
open Go.RowKit
/-- Does mode m do what either does, as far as the first j of the four things go? -/
def upM (a b m : Int) : Nat → Bool
  | 0 => true
  | j + 1 => upM a b m j && !((hasM a (2 ^ j) || hasM b (2 ^ j)) && !hasM m (2 ^ j))
def joinFrom (a b : Int) : Nat → Int → Int
  | 0, _ => 0
  | f + 1, m => if upM a b m 4 then m else joinFrom a b f (m + 1)
theorem pow4 {j : Nat} (h : j ≤ 4) : j = 0 ∨ j = 1 ∨ j = 2 ∨ j = 3 ∨ j = 4 := by omega
theorem joined_any (a b : Int) (w : World) : Calls Tryd.prog 31 #[.int .i64 a, .int .i64 b] w fun e w' => e = .returned (.int .i64 (joinFrom a b 5 1)) ∧ w = w' := by
  go_enter Tryd.func31, Tryd.ntmps31
  go_wp2
  go_loop [5] (fun v => ∃ m : Nat, 1 ≤ m ∧ m ≤ 6 ∧ v = .int .i64 m ∧ joinFrom a b 5 1 = joinFrom a b (6 - m) m) (fun v => 6 - (intOf v).toNat)
  case atStart => exact ⟨1, by omega, by omega, rfl, rfl⟩
  case round =>
    obtain ⟨m, h1, h6, rfl, hj⟩ := hrel
    have HJ := Lib.hid hj
    clear hj
    by_cases hm : m ≤ 5
    · go_wp2
      go_loop [6, 7] (fun al wh => ∃ j : Nat, j ≤ 4 ∧ wh = .int .i64 ((2 : Int) ^ j) ∧ al = .bool (upM a b m j)) (fun _ wh => 16 - (intOf wh).toNat)
      case atStart => exact ⟨0, by omega, rfl, rfl⟩
      case round =>
        obtain ⟨j, hj4, rfl, rfl⟩ := hrel
        rcases pow4 hj4 with rfl | rfl | rfl | rfl | rfl
        · simp only [Int.pow_zero]
          go_wp2_with (go_at_call 56; refine (has_any _ _ _ (by omega) (by omega)).mono ?_; rintro e w1 ⟨rfl, rfl⟩)
          all_goals
            go_round
            case rel => exact ⟨1, by omega, rfl, by go_light; simp_all [upM]⟩
            case measure => simp [intOf]
        · simp only [show (2 : Int) ^ 1 = 2 by rfl]
          go_wp2_with (go_at_call 56; refine (has_any _ _ _ (by omega) (by omega)).mono ?_; rintro e w1 ⟨rfl, rfl⟩)
          all_goals
            go_round
            case rel => exact ⟨2, by omega, rfl, by go_light; simp_all [upM]⟩
            case measure => simp [intOf]
        · simp only [show (2 : Int) ^ 2 = 4 by rfl]
          go_wp2_with (go_at_call 56; refine (has_any _ _ _ (by omega) (by omega)).mono ?_; rintro e w1 ⟨rfl, rfl⟩)
          all_goals
            go_round
            case rel => exact ⟨3, by omega, rfl, by go_light; simp_all [upM]⟩
            case measure => simp [intOf]
        · simp only [show (2 : Int) ^ 3 = 8 by rfl]
          go_wp2_with (go_at_call 56; refine (has_any _ _ _ (by omega) (by omega)).mono ?_; rintro e w1 ⟨rfl, rfl⟩)
          all_goals
            go_round
            case rel => exact ⟨4, by omega, rfl, by go_light; simp_all [upM]⟩
            case measure => simp [intOf]
        · simp only [show (2 : Int) ^ 4 = 16 by rfl]
          cases hu : upM a b m 4
          · go_wp2_with (go_at_call 56; refine (has_any _ _ _ (by omega) (by omega)).mono ?_; rintro e w1 ⟨rfl, rfl⟩)
            go_round
            case rel => exact ⟨m + 1, by omega, by omega, by go_num, by rw [HJ.out, show 6 - m = (6 - (m + 1)) + 1 by omega, joinFrom, hu]; rfl⟩
            case measure => simp [intOf]; omega
          · go_wp2_with (go_at_call 56; refine (has_any _ _ _ (by omega) (by omega)).mono ?_; rintro e w1 ⟨rfl, rfl⟩)
            go_ret
            go_light
            refine ⟨?_, rfl⟩
            rw [HJ.out, show 6 - m = (6 - (m + 1)) + 1 by omega, joinFrom, hu]; rfl
    · obtain rfl : m = 6 := by omega
      go_wp2
      go_ret
      go_light
      refine ⟨?_, rfl⟩
      rw [HJ.out]; rfl
theorem joined_eq (a b : Int) (h1 : 1 ≤ a) (h2 : a ≤ 5) (h3 : 1 ≤ b) (h4 : b ≤ 5) : joinFrom a b 5 1 = joinB a b := by
  rcases modes_cases h1 h2 with rfl | rfl | rfl | rfl | rfl <;> rcases modes_cases h3 h4 with rfl | rfl | rfl | rfl | rfl <;> decide
theorem JoinOf_any (a b : Int) (w : World) : Calls Tryd.prog 13 #[.int .i64 a, .int .i64 b] w fun e w' => e = .returned (.tuple #[.int .i64 (joinsM a b).1, .int .i64 (joinsM a b).2]) ∧ w = w' := by
  by_cases h : 1 ≤ a ∧ a ≤ 5 ∧ 1 ≤ b ∧ b ≤ 5
  · obtain ⟨h1, h2, h3, h4⟩ := h
    have e1 : (decide (1 ≤ a) && decide (a ≤ 5)) = true := by simp; omega
    have e2 : (decide (1 ≤ b) && decide (b ≤ 5)) = true := by simp; omega
    go_enter Tryd.func13, Tryd.ntmps13
    go_wp2_with (first | (go_at_call 29; refine (in_any _ _ _ _).mono ?_; rintro e w1 ⟨rfl, rfl⟩) | (go_at_call 31; refine (joined_any _ _ _).mono ?_; rintro e w1 ⟨rfl, rfl⟩))
    all_goals
      go_ret2
      go_light
      refine ⟨?_, rfl⟩
      simp [joinsM, modeB, h1, h2, h3, h4, joined_eq a b h1 h2 h3 h4]
  by_cases ha : (decide (1 ≤ a) && decide (a ≤ 5)) = true
  · have hb : (decide (1 ≤ b) && decide (b ≤ 5)) = false := by simp at ha ⊢; omega
    have e : (modeB a && modeB b) = false := by simp only [modeB, hb, Bool.and_false]
    go_enter Tryd.func13, Tryd.ntmps13
    go_wp2_with (go_at_call 29; refine (in_any _ _ _ _).mono ?_; rintro e w1 ⟨rfl, rfl⟩)
    all_goals
      go_ret2
      go_light
      refine ⟨?_, rfl⟩
      simp [joinsM, e]
  · have ha' : (decide (1 ≤ a) && decide (a ≤ 5)) = false := by simpa using ha
    have e : (modeB a && modeB b) = false := by simp only [modeB, ha', Bool.false_and]
    clear ha
    go_enter Tryd.func13, Tryd.ntmps13
    go_wp2_with (go_at_call 29; refine (in_any _ _ _ _).mono ?_; rintro e w1 ⟨rfl, rfl⟩)
    all_goals
      go_ret2
      go_light
      refine ⟨?_, rfl⟩
      simp [joinsM, e]
theorem law_joins (a b : Int) (w : World) (hT : TabJoins w) : Calls Tryd.prog 4 #[.int .i64 a, .int .i64 b] w fun e w' => e = .returned (.bool true) ∧ Below w.heap.size w w' := by
  go_enter Tryd.func4, Tryd.ntmps4
  go_wp2_with (first | (go_at_call 12; refine (Join_any _ _ _ (by assumption)).mono ?_; rintro e w1 ⟨rfl, rfl⟩) | (go_at_call 13; refine (JoinOf_any _ _ _).mono ?_; rintro e w1 ⟨rfl, rfl⟩))
  go_ret
  go_light
  exact ⟨rfl, Below.refl _ _⟩
end Go.Proofs.YtkehmidldcggcaaDoor
