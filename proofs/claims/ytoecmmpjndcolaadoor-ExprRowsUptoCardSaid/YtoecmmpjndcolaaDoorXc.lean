/- The reference's markAt and TokenFault; the law of lex.Check. -/
import Derived.Test.YtoecmmpjndcolaaDoorXb
set_option linter.unusedSimpArgs false
set_option linter.unusedVariables false
namespace Go.Proofs.YtoecmmpjndcolaaDoor
open Go.RowKit
def twoB (s : ByteArray) (i : Nat) : Bool := decide (i + 1 < s.size) && ((bt s i == 60 && (bt s (i + 1) == 61 || bt s (i + 1) == 62)) || (bt s i == 62 && bt s (i + 1) == 61))
def oneB (c : Int) : Bool := c == 40 || c == 41 || c == 44 || c == 42 || c == 43 || c == 45 || c == 61 || c == 60 || c == 62
def markM (s : ByteArray) (i : Nat) : ByteArray := if twoB s i = true then s.extract i (i + 2) else if oneB (bt s i) = true then s.extract i (i + 1) else ⟨#[]⟩
set_option maxHeartbeats 2000000 in
theorem markAt_any (s : ByteArray) (i : Nat) (w : World) (hs : s.size ≤ maxLen) (hi : i < s.size) :
    Calls Tryd.prog 96 #[.string s, .int .i64 i] w fun e w' => e = .returned (.string (markM s i)) ∧ w = w' := by
  have hs : s.size ≤ 9223372036854775807 := hs
  have hb := get_bt s
  go_enter Tryd.func96, Tryd.ntmps96
  go_wp2
  all_goals
    go_ret
    go_light
    refine ⟨?_, rfl⟩
    first
      | (simp_all [markM, twoB, oneB]; done)
      | (simp_all [markM, twoB, oneB]; omega)
/-- Are the first k bytes letters, digits, lines? -/
def allW (s : ByteArray) : Nat → Bool
  | 0 => true
  | k + 1 => allW s k && wrdB (bt s k)
def markR (s : ByteArray) : Bool := decide (0 < s.size) && (markM s 0).toList == s.toList
def tokR (k : Int) (s : ByteArray) (n : Int) : Int :=
  if k = 1 then (if n = 0 ∧ (decide (0 < s.size) && !digB (bt s 0) && allW s s.size) = true then 0 else 6)
  else if k = 2 then (if n < 0 then 3 else if s.toList = [] then 0 else 6)
  else if k = 3 then (if n = 0 then 0 else 6)
  else if k = 4 then (if n = 0 ∧ markR s = true then 0 else 6)
  else 2
set_option maxHeartbeats 2000000 in
theorem tokenFault1 (s : ByteArray) (n : Int) (w : World) (hs : s.size ≤ maxLen) :
    Calls Tryd.prog 47 #[.agg #[.int .i64 1, .string s, .int .i64 n]] w fun e w' => e = .returned (.int .i64 (tokR 1 s n)) ∧ Below w.heap.size w w' := by
  have hs : s.size ≤ 9223372036854775807 := hs
  have hb := get_bt s
  have b0 := bt_nonneg s
  have b1 := bt_le s
  go_enter Tryd.func47, Tryd.ntmps47
  go_wp2_with (first | (go_at_call 36; refine (in_any _ _ _ _).mono ?_; rintro e w1 ⟨rfl, rfl⟩) | (go_at_call 94; refine (numByte_any _ _ (b0 _) (b1 _)).mono ?_; rintro e w1 ⟨rfl, rfl⟩))
  · go_loop [3, 4] (fun ok i => ∃ k : Nat, k ≤ s.size ∧ i = .int .i64 k ∧ ok = .bool (!digB (bt s 0) && allW s k)) (fun _ i => s.size - (intOf i).toNat)
    case atStart => exact ⟨0, by omega, rfl, by simp [allW]⟩
    case round =>
      obtain ⟨k, hk, rfl, rfl⟩ := hrel
      by_cases hlt : k < s.size
      · have hnx : (!digB (bt s 0) && allW s (k + 1)) = ((!digB (bt s 0) && allW s k) && wrdB (bt s k)) := by simp [allW, Bool.and_assoc]
        have HN := Lib.hid hnx
        clear hnx
        generalize (!digB (bt s 0) && allW s k) = c at HN
        cases c
        · go_wp2
          go_round
          case rel => exact ⟨k + 1, by omega, by go_num, by rw [HN.out]; rfl⟩
          case measure => simp [intOf]; omega
        · go_wp2_with (first | (go_at_call 95; refine (wordByte_any _ _ (b0 _) (b1 _)).mono ?_; rintro e w1 ⟨rfl, rfl⟩) | (go_at_call 94; refine (numByte_any _ _ (b0 _) (b1 _)).mono ?_; rintro e w1 ⟨rfl, rfl⟩))
          all_goals
            go_round
            case rel => exact ⟨k + 1, by omega, by go_num, by rw [HN.out]; simp_all [wrdB]⟩
            case measure => simp [intOf]; omega
      · obtain rfl : k = s.size := by omega
        cases hc : (!digB (bt s 0) && allW s s.size)
        · go_wp2
          go_ret
          go_light
          refine ⟨?_, ?_⟩
          · simp_all [tokR]
          · (repeat' (first | (with_reducible exact Below.refl _ _) | (with_reducible assumption) | (with_reducible refine Below.alloc ?_ ?_ _) | (with_reducible refine Below.drew ?_) | (with_reducible refine below_drewN ?_) | (with_reducible refine Below.setCell ?_ ?_ _) | (with_reducible refine below_step ?_ ?_ (by with_reducible assumption)) | go_size))
        · go_wp2
          go_ret
          go_light
          refine ⟨?_, ?_⟩
          · simp_all [tokR]
          · (repeat' (first | (with_reducible exact Below.refl _ _) | (with_reducible assumption) | (with_reducible refine Below.alloc ?_ ?_ _) | (with_reducible refine Below.drew ?_) | (with_reducible refine below_drewN ?_) | (with_reducible refine Below.setCell ?_ ?_ _) | (with_reducible refine below_step ?_ ?_ (by with_reducible assumption)) | go_size))
  · go_loop [3, 4] (fun ok i => ∃ k : Nat, k ≤ s.size ∧ i = .int .i64 k ∧ ok = .bool false) (fun _ i => s.size - (intOf i).toNat)
    case atStart => exact ⟨0, by omega, rfl, rfl⟩
    case round =>
      obtain ⟨k, hk, rfl, rfl⟩ := hrel
      by_cases hlt : k < s.size
      · exfalso; omega
      · obtain rfl : k = s.size := by omega
        go_wp2
        go_ret
        go_light
        refine ⟨?_, ?_⟩
        · simp_all [tokR]
        · (repeat' (first | (with_reducible exact Below.refl _ _) | (with_reducible assumption) | (with_reducible refine Below.alloc ?_ ?_ _) | (with_reducible refine Below.drew ?_) | (with_reducible refine below_drewN ?_) | (with_reducible refine Below.setCell ?_ ?_ _) | (with_reducible refine below_step ?_ ?_ (by with_reducible assumption)) | go_size))
  · go_loop [3, 4] (fun ok i => ∃ k : Nat, k ≤ s.size ∧ i = .int .i64 k ∧ ok = .bool false) (fun _ i => s.size - (intOf i).toNat)
    case atStart => exact ⟨0, by omega, rfl, rfl⟩
    case round =>
      obtain ⟨k, hk, rfl, rfl⟩ := hrel
      by_cases hlt : k < s.size
      · go_wp2
        go_round
        case rel => exact ⟨k + 1, by omega, by go_num, rfl⟩
        case measure => simp [intOf]; omega
      · obtain rfl : k = s.size := by omega
        go_wp2
        go_ret
        go_light
        refine ⟨?_, ?_⟩
        · simp_all [tokR]
        · (repeat' (first | (with_reducible exact Below.refl _ _) | (with_reducible assumption) | (with_reducible refine Below.alloc ?_ ?_ _) | (with_reducible refine Below.drew ?_) | (with_reducible refine below_drewN ?_) | (with_reducible refine Below.setCell ?_ ?_ _) | (with_reducible refine below_step ?_ ?_ (by with_reducible assumption)) | go_size))
def tokRest (k : Int) (s : ByteArray) (n : Int) : Int := tokR k s n
set_option maxHeartbeats 2000000 in
theorem tokenFault_any (k : Int) (s : ByteArray) (n : Int) (w : World) (hs : s.size ≤ maxLen) :
    Calls Tryd.prog 47 #[.agg #[.int .i64 k, .string s, .int .i64 n]] w fun e w' => e = .returned (.int .i64 (tokR k s n)) ∧ Below w.heap.size w w' := by
  by_cases h1 : k = 1
  · subst h1; exact tokenFault1 s n w hs
  by_cases h4 : k = 4
  · subst h4
    by_cases hn : n = 0
    · subst hn
      by_cases hp : 0 < s.size
      · have hp' : (0 : Int) < s.size := by omega
        cases hm : ((markM s 0).toList == s.toList)
        · go_enter Tryd.func47, Tryd.ntmps47
          go_wp2_with (go_at_call 36; refine (in_any _ _ _ _).mono ?_; rintro e w1 ⟨rfl, rfl⟩)
          go_quiet (first | (go_at_call 96; exact Calls.quiet_of_same ((markAt_any s 0 _ hs (by assumption)).mono fun _ _ h => ⟨h.1, h.2.symm⟩)))
          go_wp2
          all_goals
            go_ret
            go_light
            refine ⟨?_, ?_⟩
            · simp_all [tokR, markR]
            · (repeat' (first | (with_reducible exact Below.refl _ _) | (with_reducible assumption) | (with_reducible refine Below.alloc ?_ ?_ _) | (with_reducible refine Below.drew ?_) | (with_reducible refine below_drewN ?_) | (with_reducible refine Below.setCell ?_ ?_ _) | (with_reducible refine below_step ?_ ?_ (by with_reducible assumption)) | go_size))
        · go_enter Tryd.func47, Tryd.ntmps47
          go_wp2_with (go_at_call 36; refine (in_any _ _ _ _).mono ?_; rintro e w1 ⟨rfl, rfl⟩)
          go_quiet (first | (go_at_call 96; exact Calls.quiet_of_same ((markAt_any s 0 _ hs (by assumption)).mono fun _ _ h => ⟨h.1, h.2.symm⟩)))
          go_wp2
          all_goals
            go_ret
            go_light
            refine ⟨?_, ?_⟩
            · simp_all [tokR, markR]
            · (repeat' (first | (with_reducible exact Below.refl _ _) | (with_reducible assumption) | (with_reducible refine Below.alloc ?_ ?_ _) | (with_reducible refine Below.drew ?_) | (with_reducible refine below_drewN ?_) | (with_reducible refine Below.setCell ?_ ?_ _) | (with_reducible refine below_step ?_ ?_ (by with_reducible assumption)) | go_size))
      · have hz : s.size = 0 := by omega
        have hz' : decide ((0 : Int) < (s.size : Int)) = false := by simp [hz]
        go_enter Tryd.func47, Tryd.ntmps47
        go_wp2_with (go_at_call 36; refine (in_any _ _ _ _).mono ?_; rintro e w1 ⟨rfl, rfl⟩)
        go_quiet (first | (go_at_call 96; exact Calls.quiet_of_same ((markAt_any s 0 _ hs (by assumption)).mono fun _ _ h => ⟨h.1, h.2.symm⟩)))
        go_wp2
        all_goals
          go_ret
          go_light
          refine ⟨?_, ?_⟩
          · simp_all [tokR, markR]
          · (repeat' (first | (with_reducible exact Below.refl _ _) | (with_reducible assumption) | (with_reducible refine Below.alloc ?_ ?_ _) | (with_reducible refine Below.drew ?_) | (with_reducible refine below_drewN ?_) | (with_reducible refine Below.setCell ?_ ?_ _) | (with_reducible refine below_step ?_ ?_ (by with_reducible assumption)) | go_size))
    · have hn0 : (n == 0) = false := by simp [hn]
      go_enter Tryd.func47, Tryd.ntmps47
      go_wp2_with (go_at_call 36; refine (in_any _ _ _ _).mono ?_; rintro e w1 ⟨rfl, rfl⟩)
      go_quiet (first | (go_at_call 96; exact Calls.quiet_of_same ((markAt_any s 0 _ hs (by assumption)).mono fun _ _ h => ⟨h.1, h.2.symm⟩)))
      go_wp2
      all_goals
        go_ret
        go_light
        refine ⟨?_, ?_⟩
        · simp_all [tokR, markR]
        · (repeat' (first | (with_reducible exact Below.refl _ _) | (with_reducible assumption) | (with_reducible refine Below.alloc ?_ ?_ _) | (with_reducible refine Below.drew ?_) | (with_reducible refine below_drewN ?_) | (with_reducible refine Below.setCell ?_ ?_ _) | (with_reducible refine below_step ?_ ?_ (by with_reducible assumption)) | go_size))
  by_cases h2 : k = 2
  · subst h2
    go_enter Tryd.func47, Tryd.ntmps47
    go_wp2_with (go_at_call 36; refine (in_any _ _ _ _).mono ?_; rintro e w1 ⟨rfl, rfl⟩)
    all_goals (try (go_quiet (fail); go_wp2))
    all_goals
      go_ret
      go_light
      refine ⟨?_, ?_⟩
      · simp_all [tokR]
      · (repeat' (first | (with_reducible exact Below.refl _ _) | (with_reducible assumption) | (with_reducible refine Below.alloc ?_ ?_ _) | (with_reducible refine Below.drew ?_) | (with_reducible refine below_drewN ?_) | (with_reducible refine Below.setCell ?_ ?_ _) | (with_reducible refine below_step ?_ ?_ (by with_reducible assumption)) | go_size))
  by_cases h3 : k = 3
  · subst h3
    go_enter Tryd.func47, Tryd.ntmps47
    go_wp2_with (go_at_call 36; refine (in_any _ _ _ _).mono ?_; rintro e w1 ⟨rfl, rfl⟩)
    all_goals (try (go_quiet (fail); go_wp2))
    all_goals
      go_ret
      go_light
      refine ⟨?_, ?_⟩
      · simp_all [tokR]
      · (repeat' (first | (with_reducible exact Below.refl _ _) | (with_reducible assumption) | (with_reducible refine Below.alloc ?_ ?_ _) | (with_reducible refine Below.drew ?_) | (with_reducible refine below_drewN ?_) | (with_reducible refine Below.setCell ?_ ?_ _) | (with_reducible refine below_step ?_ ?_ (by with_reducible assumption)) | go_size))
  · have e : (decide (1 ≤ k) && decide (k ≤ 4)) = false := by simp; omega
    go_enter Tryd.func47, Tryd.ntmps47
    go_wp2_with (go_at_call 36; refine (in_any _ _ _ _).mono ?_; rintro e w1 ⟨rfl, rfl⟩)
    all_goals
      go_ret
      go_light
      refine ⟨?_, ?_⟩
      · simp [tokR, h1, h2, h3, h4]
      · (repeat' (first | (with_reducible exact Below.refl _ _) | (with_reducible assumption) | (with_reducible refine Below.alloc ?_ ?_ _) | (with_reducible refine Below.drew ?_) | (with_reducible refine below_drewN ?_) | (with_reducible refine Below.setCell ?_ ?_ _) | (with_reducible refine below_step ?_ ?_ (by with_reducible assumption)) | go_size))
end Go.Proofs.YtoecmmpjndcolaaDoor
