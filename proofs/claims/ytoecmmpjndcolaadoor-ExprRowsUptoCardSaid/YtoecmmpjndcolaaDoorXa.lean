/- The contracts of the lex layer's bytes and spans. -/
import Derived.Test.YtoecmmpjndcolaaDoorProg
import Derived.Handy
import Derived.WalkSpells
import Derived.WalkLawsBesides
import Derived.Deep.Light
import Derived.StillTailTactics
import Derived.Lib.SmallJoins
import Derived.Lib.Hide
import Derived.Deep.QuietTactic
import Derived.BigQuiet
set_option linter.unusedSimpArgs false
set_option linter.unusedVariables false
namespace Go.Proofs.YtoecmmpjndcolaaDoor
open Go.RowKit
theorem size_drewN (w : World) (n : Nat) : (w.drewN n).heap.size = w.heap.size := rfl
theorem below_step {B : Nat} {a w w' : World} (h : Below B a w) (hB : B ≤ w.heap.size) (hb : Below w.heap.size w w') : Below B a w' := h.trans (hb.mono hB)
theorem below_drewN {B : Nat} {a w : World} {n : Nat} (h : Below B a w) : Below B a (w.drewN n) := h.trans (Joins.below_draws B w n)
theorem toList_len (s : ByteArray) : s.toList.length = s.size := by rw [ByteArray.toList_eq]; simp
theorem size_nil {s : ByteArray} (h : s.toList = []) : s.size = 0 := by
  have := toList_len s; rw [h] at this; simpa using this.symm
def letB (c : Int) : Bool := (decide (97 ≤ c) && decide (c ≤ 122)) || (decide (65 ≤ c) && decide (c ≤ 90)) || c == 95
def digB (c : Int) : Bool := decide (48 ≤ c) && decide (c ≤ 57)
theorem letter_any (c : Int) (w : World) : Calls Tryd.prog 80 #[.int .u8 c] w fun e w' => e = .returned (.bool (letB c)) ∧ w = w' := by
  go_enter Tryd.func80, Tryd.ntmps80
  go_wp2
  all_goals
    go_ret
    go_light
    refine ⟨congrArg (fun b => Ending.returned (.bool b)) (Bool.eq_iff_iff.2 ?_), rfl⟩
    simp [letB]
    omega
theorem digit_any (c : Int) (w : World) : Calls Tryd.prog 83 #[.int .u8 c] w fun e w' => e = .returned (.bool (digB c)) ∧ w = w' := by
  go_enter Tryd.func83, Tryd.ntmps83
  go_wp2
  all_goals
    go_ret
    go_light
    refine ⟨?_, rfl⟩
    simp_all [digB]
    try omega
theorem in_any (n a b : Int) (w : World) : Calls Tryd.prog 36 #[.int .i64 n, .int .i64 a, .int .i64 b] w fun e w' => e = .returned (.bool (decide (a ≤ n) && decide (n ≤ b))) ∧ w = w' := by
  go_enter Tryd.func36, Tryd.ntmps36
  go_wp2
  all_goals (go_ret; refine ⟨?_, rfl⟩; simp <;> omega)
theorem numByte_any (c : Int) (w : World) (h0 : 0 ≤ c) (h1 : c ≤ 255) : Calls Tryd.prog 94 #[.int .u8 c] w fun e w' => e = .returned (.bool (digB c)) ∧ w = w' := by
  go_enter Tryd.func94, Tryd.ntmps94
  go_wp2_with (go_at_call 36; refine (in_any _ _ _ _).mono ?_; rintro e w1 ⟨rfl, rfl⟩)
  all_goals
    go_ret
    go_light
    exact ⟨rfl, rfl⟩
theorem wordByte_any (c : Int) (w : World) (h0 : 0 ≤ c) (h1 : c ≤ 255) : Calls Tryd.prog 95 #[.int .u8 c] w fun e w' => e = .returned (.bool (letB c)) ∧ w = w' := by
  go_enter Tryd.func95, Tryd.ntmps95
  go_wp2_with (go_at_call 36; refine (in_any _ _ _ _).mono ?_; rintro e w1 ⟨rfl, rfl⟩)
  all_goals
    go_ret
    go_light
    refine ⟨?_, rfl⟩
    simp_all [letB]
    try omega
def wrdB (c : Int) : Bool := letB c || digB c
theorem word1_any (c : Int) (w : World) : Calls Tryd.prog 82 #[.int .u8 c] w fun e w' => e = .returned (.bool (wrdB c)) ∧ w = w' := by
  go_enter Tryd.func82, Tryd.ntmps82
  go_wp2_with (first | (go_at_call 80; refine (letter_any _ _).mono ?_; rintro e w1 ⟨rfl, rfl⟩) | (go_at_call 83; refine (digit_any _ _).mono ?_; rintro e w1 ⟨rfl, rfl⟩))
  all_goals
    go_ret
    go_light
    refine ⟨?_, rfl⟩
    simp_all [wrdB]
/-- Byte k of a string, as a number. -/
def bt (s : ByteArray) (k : Nat) : Int := if h : k < s.size then ((s[k]'h).toNat : Int) else 0
theorem get_bt (s : ByteArray) : ∀ (n : Nat) (h : n < s.size), ((s[n]'h).toNat : Int) = bt s n := fun n h => by unfold bt; rw [dif_pos h]
theorem bt_nonneg (s : ByteArray) (k : Nat) : 0 ≤ bt s k := by unfold bt; split <;> omega
theorem bt_le (s : ByteArray) (k : Nat) : bt s k ≤ 255 := by
  unfold bt; split
  · have := (s[k]).toNat_lt; omega
  · omega
/-- How many bytes from place k on are so. -/
def spanM (p : Int → Bool) (s : ByteArray) : Nat → Nat → Nat
  | 0, k => k
  | f + 1, k => if k < s.size ∧ p (bt s k) = true then spanM p s f (k + 1) else k
theorem span1_any (s : ByteArray) (w : World) (hs : s.size ≤ maxLen) : Calls Tryd.prog 81 #[.string s, .func (.func 82) #[] #[]] w fun e w' => e = .returned (.int .i64 (spanM wrdB s s.size 0)) ∧ w = w' := by
  have hs : s.size ≤ 9223372036854775807 := hs
  have hb := get_bt s
  go_enter Tryd.func81, Tryd.ntmps81
  go_wp2
  go_loop [5] (fun v => ∃ k : Nat, k ≤ s.size ∧ v = .int .i64 k ∧ spanM wrdB s s.size 0 = spanM wrdB s (s.size - k) k) (fun v => s.size - (intOf v).toNat)
  case atStart => exact ⟨0, by omega, rfl, rfl⟩
  case round =>
    obtain ⟨k, hk, rfl, hj⟩ := hrel
    have HJ := Lib.hid hj
    clear hj
    by_cases hlt : k < s.size
    · cases hp : wrdB (bt s k)
      · go_wp2_with (go_at_call 82; refine (word1_any _ _).mono ?_; rintro e w1 ⟨rfl, rfl⟩)
        go_ret
        go_light
        refine ⟨?_, rfl⟩
        rw [HJ.out, show s.size - k = (s.size - (k + 1)) + 1 by omega, spanM, if_neg (by simp [hp])]
        rfl
      · go_wp2_with (go_at_call 82; refine (word1_any _ _).mono ?_; rintro e w1 ⟨rfl, rfl⟩)
        go_round
        case rel => exact ⟨k + 1, by omega, by go_num, by rw [HJ.out, show s.size - k = (s.size - (k + 1)) + 1 by omega, spanM, if_pos ⟨hlt, hp⟩]⟩
        case measure => simp [intOf]; omega
    · obtain rfl : k = s.size := by omega
      go_wp2
      go_ret
      go_light
      refine ⟨?_, rfl⟩
      rw [HJ.out, Nat.sub_self, spanM]
      rfl
end Go.Proofs.YtoecmmpjndcolaaDoor
