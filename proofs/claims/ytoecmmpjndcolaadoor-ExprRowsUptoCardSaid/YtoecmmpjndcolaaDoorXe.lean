/- Names: the words that are none; parse.Name and the reference's NameFault; the law. -/
import Derived.Test.YtoecmmpjndcolaaDoorXd
set_option linter.unusedSimpArgs false
set_option linter.unusedVariables false
namespace Go.Proofs.YtoecmmpjndcolaaDoor
open Go.RowKit
def wordsL : List (List UInt8) := [[67, 82, 69, 65, 84, 69], [84, 65, 66, 76, 69], [68, 82, 79, 80], [73, 78, 83, 69, 82, 84], [73, 78, 84, 79], [86, 65, 76, 85, 69, 83], [83, 69, 76, 69, 67, 84], [67, 79, 85, 78, 84], [70, 82, 79, 77], [87, 72, 69, 82, 69], [79, 82, 68, 69, 82], [66, 89], [68, 69, 83, 67], [76, 73, 77, 73, 84], [85, 80, 68, 65, 84, 69], [83, 69, 84], [68, 69, 76, 69, 84, 69], [66, 69, 71, 73, 78], [67, 79, 77, 77, 73, 84], [82, 79, 76, 76, 66, 65, 67, 75], [65, 78, 68], [79, 82], [78, 79, 84], [73, 83], [78, 85, 76, 76], [84, 82, 85, 69], [70, 65, 76, 83, 69], [73, 78, 84], [84, 69, 88, 84], [66, 79, 79, 76]]
def wordsS : List ByteArray := wordsL.map str
theorem wordsS_len : wordsS.length = 30 := rfl
/-- What the reference's own list holds, as the walk lays it. -/
def wordsV : Array Value := #[.string (str [67, 82, 69, 65, 84, 69]), .string (str [84, 65, 66, 76, 69]), .string (str [68, 82, 79, 80]), .string (str [73, 78, 83, 69, 82, 84]), .string (str [73, 78, 84, 79]), .string (str [86, 65, 76, 85, 69, 83]), .string (str [83, 69, 76, 69, 67, 84]), .string (str [67, 79, 85, 78, 84]), .string (str [70, 82, 79, 77]), .string (str [87, 72, 69, 82, 69]), .string (str [79, 82, 68, 69, 82]), .string (str [66, 89]), .string (str [68, 69, 83, 67]), .string (str [76, 73, 77, 73, 84]), .string (str [85, 80, 68, 65, 84, 69]), .string (str [83, 69, 84]), .string (str [68, 69, 76, 69, 84, 69]), .string (str [66, 69, 71, 73, 78]), .string (str [67, 79, 77, 77, 73, 84]), .string (str [82, 79, 76, 76, 66, 65, 67, 75]), .string (str [65, 78, 68]), .string (str [79, 82]), .string (str [78, 79, 84]), .string (str [73, 83]), .string (str [78, 85, 76, 76]), .string (str [84, 82, 85, 69]), .string (str [70, 65, 76, 83, 69]), .string (str [73, 78, 84]), .string (str [84, 69, 88, 84]), .string (str [66, 79, 79, 76])]
theorem words_at (w : World) (t : TypeId) : StrsAt (w.alloc (.cells wordsV t)) w.heap.size wordsS := by
  intro j hj
  rw [World.cell?_alloc_mark]
  have hj : j < 30 := hj
  rcases (by omega : j = 0 ∨ j = 1 ∨ j = 2 ∨ j = 3 ∨ j = 4 ∨ j = 5 ∨ j = 6 ∨ j = 7 ∨ j = 8 ∨ j = 9 ∨ j = 10 ∨ j = 11 ∨ j = 12 ∨ j = 13 ∨ j = 14 ∨ j = 15 ∨ j = 16 ∨ j = 17 ∨ j = 18 ∨ j = 19 ∨ j = 20 ∨ j = 21 ∨ j = 22 ∨ j = 23 ∨ j = 24 ∨ j = 25 ∨ j = 26 ∨ j = 27 ∨ j = 28 ∨ j = 29) with rfl | rfl | rfl | rfl | rfl | rfl | rfl | rfl | rfl | rfl | rfl | rfl | rfl | rfl | rfl | rfl | rfl | rfl | rfl | rfl | rfl | rfl | rfl | rfl | rfl | rfl | rfl | rfl | rfl | rfl <;> rfl
def nameM (s : ByteArray) : Int := if 8 < s.size then 1 else if tokM 1 s 0 ≠ 0 ∨ hasS wordsS s = true then 6 else 0
theorem comm_beq (a b : List UInt8) : (a == b) = (b == a) := Bool.eq_iff_iff.2 (by simp only [beq_iff_eq]; exact eq_comm)
set_option maxHeartbeats 1000000 in
theorem reserved_any (s : ByteArray) (w : World) (hs : s.size ≤ maxLen) : Calls Tryd.prog 72 #[.string s] w fun e w' => e = .returned (.bool (hasS wordsS s)) ∧ Below w.heap.size w w' := by
  have hs : s.size ≤ 9223372036854775807 := hs
  have hS0 := words_at w 9
  have hB0 := Joins.below_alloc1 w (.cells wordsV 9)
  have hW : World.alloc w (.cells wordsV 9) = World.alloc w (.cells wordsV 9) := rfl
  unfold wordsV str at hS0 hB0 hW
  go_enter Tryd.func72, Tryd.ntmps72
  go_wp2
  generalize World.alloc w _ = w1 at hS0 hB0 ⊢
  go_loop [4] (fun i => ∃ k : Nat, k ≤ 30 ∧ i = .int .i64 k ∧ hasS wordsS s = hasS (wordsS.drop k) s) (fun i => 30 - (intOf i).toNat)
  case atStart => exact ⟨0, by omega, rfl, by simp⟩
  case round =>
    obtain ⟨k, hk, rfl, hj⟩ := hrel
    have HJ := Lib.hid hj
    clear hj
    by_cases hlt : k < 30
    · have hc := hS0 k hlt
      have hd : wordsS.drop k = wordsS.getD k ⟨#[]⟩ :: wordsS.drop (k + 1) := by
        have hlt : k < wordsS.length := hlt
        rw [List.drop_eq_getElem_cons hlt]; simp [List.getD, hlt]
      have HD := Lib.hid hd
      clear hd
      generalize wordsS.getD k ⟨#[]⟩ = x at hc HD
      cases e : (x.toList == s.toList)
      · go_wp2
        go_round
        case rel => exact ⟨k + 1, by omega, by go_num, by rw [HJ.out, HD.out]; simp only [hasS, List.any_cons, comm_beq s.toList x.toList, e, Bool.false_or]⟩
        case measure => simp [intOf]; omega
      · go_wp2
        go_ret
        go_light
        refine ⟨?_, hB0⟩
        rw [HJ.out, HD.out]
        simp only [hasS, List.any_cons, comm_beq s.toList x.toList, e, Bool.true_or]
        rfl
    · obtain rfl : k = 30 := by omega
      go_wp2
      go_ret
      go_light
      refine ⟨?_, hB0⟩
      rw [HJ.out]
      rfl
theorem nameFault_any (s : ByteArray) (w : World) (hs : s.size ≤ maxLen) : Calls Tryd.prog 37 #[.string s] w fun e w' => e = .returned (.int .i64 (nameM s)) ∧ Below w.heap.size w w' := by
  have hs' : s.size ≤ 9223372036854775807 := hs
  have H2 := tokenFault_any 1 s 0
  rw [← tok_same] at H2
  have H := Lib.hid H2
  clear H2
  by_cases h8 : 8 < s.size
  · go_enter Tryd.func37, Tryd.ntmps37
    go_wp2
    all_goals
      go_ret
      go_light
      refine ⟨?_, ?_⟩
      · simp_all [nameM]
      · (repeat' (first | (with_reducible exact Below.refl _ _) | (with_reducible assumption) | (with_reducible refine Below.alloc ?_ ?_ _) | (with_reducible refine Below.drew ?_) | (with_reducible refine below_drewN ?_) | (with_reducible refine Below.setCell ?_ ?_ _) | (with_reducible refine below_step ?_ ?_ (by with_reducible assumption)) | go_size))
  by_cases ht : tokM 1 s 0 = 0
  · cases hh : hasS wordsS s
    · go_enter Tryd.func37, Tryd.ntmps37
      go_wp2_with (first | (go_at_call 47; refine (H.out _ hs).mono ?_; rintro e w1 ⟨rfl, hb⟩; have hz := hb.size; (try simp only [World.size_alloc, World.size_setCell, World.size_drew, size_drewN] at hz)) | (go_at_call 72; refine (reserved_any _ _ hs).mono ?_; rintro e w2 ⟨rfl, hb⟩; have hz := hb.size; (try simp only [World.size_alloc, World.size_setCell, World.size_drew, size_drewN] at hz)))
      all_goals
        go_ret
        go_light
        refine ⟨?_, ?_⟩
        · simp_all [nameM]; try omega
        · (repeat' (first | (with_reducible exact Below.refl _ _) | (with_reducible assumption) | (with_reducible refine Below.alloc ?_ ?_ _) | (with_reducible refine Below.drew ?_) | (with_reducible refine below_drewN ?_) | (with_reducible refine Below.setCell ?_ ?_ _) | (with_reducible refine below_step ?_ ?_ (by with_reducible assumption)) | go_size))
    · go_enter Tryd.func37, Tryd.ntmps37
      go_wp2_with (first | (go_at_call 47; refine (H.out _ hs).mono ?_; rintro e w1 ⟨rfl, hb⟩; have hz := hb.size; (try simp only [World.size_alloc, World.size_setCell, World.size_drew, size_drewN] at hz)) | (go_at_call 72; refine (reserved_any _ _ hs).mono ?_; rintro e w2 ⟨rfl, hb⟩; have hz := hb.size; (try simp only [World.size_alloc, World.size_setCell, World.size_drew, size_drewN] at hz)))
      all_goals
        go_ret
        go_light
        refine ⟨?_, ?_⟩
        · simp_all [nameM]; try omega
        · (repeat' (first | (with_reducible exact Below.refl _ _) | (with_reducible assumption) | (with_reducible refine Below.alloc ?_ ?_ _) | (with_reducible refine Below.drew ?_) | (with_reducible refine below_drewN ?_) | (with_reducible refine Below.setCell ?_ ?_ _) | (with_reducible refine below_step ?_ ?_ (by with_reducible assumption)) | go_size))
  · go_enter Tryd.func37, Tryd.ntmps37
    go_wp2_with (first | (go_at_call 47; refine (H.out _ hs).mono ?_; rintro e w1 ⟨rfl, hb⟩; have hz := hb.size; (try simp only [World.size_alloc, World.size_setCell, World.size_drew, size_drewN] at hz)) | (go_at_call 72; refine (reserved_any _ _ hs).mono ?_; rintro e w2 ⟨rfl, hb⟩; have hz := hb.size; (try simp only [World.size_alloc, World.size_setCell, World.size_drew, size_drewN] at hz)))
    all_goals
      go_ret
      go_light
      refine ⟨?_, ?_⟩
      · simp_all [nameM]; try omega
      · (repeat' (first | (with_reducible exact Below.refl _ _) | (with_reducible assumption) | (with_reducible refine Below.alloc ?_ ?_ _) | (with_reducible refine Below.drew ?_) | (with_reducible refine below_drewN ?_) | (with_reducible refine Below.setCell ?_ ?_ _) | (with_reducible refine below_step ?_ ?_ (by with_reducible assumption)) | go_size))
theorem name_any (s : ByteArray) (w : World) (hs : s.size ≤ maxLen) (hM : StrsAt w 1 marksS) (hg : 1 < w.heap.size) (hW : StrsAt w 2 wordsS) (hv : 2 < w.heap.size) : Calls Tryd.prog 58 #[.string s] w fun e w' => e = .returned (.int .i64 (nameM s)) ∧ Below w.heap.size w w' := by
  have hs' : s.size ≤ 9223372036854775807 := hs
  by_cases h8 : 8 < s.size
  · go_enter Tryd.func58, Tryd.ntmps58
    go_wp2
    all_goals
      go_ret
      go_light
      refine ⟨?_, ?_⟩
      · simp_all [nameM]
      · (repeat' (first | (with_reducible exact Below.refl _ _) | (with_reducible assumption) | (with_reducible refine Below.alloc ?_ ?_ _) | (with_reducible refine Below.drew ?_) | (with_reducible refine below_drewN ?_) | (with_reducible refine Below.setCell ?_ ?_ _) | (with_reducible refine below_step ?_ ?_ (by with_reducible assumption)) | go_size))
  by_cases ht : tokM 1 s 0 = 0
  · cases hh : hasS wordsS s
    · go_enter Tryd.func58, Tryd.ntmps58
      go_wp2_with (first | (go_at_call 43; refine (check_any 1 s 0 _ hs hM hg).mono ?_; rintro e w1 ⟨rfl, hb⟩; have hz := hb.size; (try simp only [World.size_alloc, World.size_setCell, World.size_drew, size_drewN] at hz)) | (go_at_call 84; refine (contains_any 2 wordsS s _ (hW.below (by assumption) hv) (by decide)).mono ?_; rintro e w1 ⟨rfl, rfl⟩))
      all_goals
        go_ret
        go_light
        refine ⟨?_, ?_⟩
        · simp_all [nameM]; try omega
        · (repeat' (first | (with_reducible exact Below.refl _ _) | (with_reducible assumption) | (with_reducible refine Below.alloc ?_ ?_ _) | (with_reducible refine Below.drew ?_) | (with_reducible refine below_drewN ?_) | (with_reducible refine Below.setCell ?_ ?_ _) | (with_reducible refine below_step ?_ ?_ (by with_reducible assumption)) | go_size))
    · go_enter Tryd.func58, Tryd.ntmps58
      go_wp2_with (first | (go_at_call 43; refine (check_any 1 s 0 _ hs hM hg).mono ?_; rintro e w1 ⟨rfl, hb⟩; have hz := hb.size; (try simp only [World.size_alloc, World.size_setCell, World.size_drew, size_drewN] at hz)) | (go_at_call 84; refine (contains_any 2 wordsS s _ (hW.below (by assumption) hv) (by decide)).mono ?_; rintro e w1 ⟨rfl, rfl⟩))
      all_goals
        go_ret
        go_light
        refine ⟨?_, ?_⟩
        · simp_all [nameM]; try omega
        · (repeat' (first | (with_reducible exact Below.refl _ _) | (with_reducible assumption) | (with_reducible refine Below.alloc ?_ ?_ _) | (with_reducible refine Below.drew ?_) | (with_reducible refine below_drewN ?_) | (with_reducible refine Below.setCell ?_ ?_ _) | (with_reducible refine below_step ?_ ?_ (by with_reducible assumption)) | go_size))
  · go_enter Tryd.func58, Tryd.ntmps58
    go_wp2_with (first | (go_at_call 43; refine (check_any 1 s 0 _ hs hM hg).mono ?_; rintro e w1 ⟨rfl, hb⟩; have hz := hb.size; (try simp only [World.size_alloc, World.size_setCell, World.size_drew, size_drewN] at hz)) | (go_at_call 84; refine (contains_any 2 wordsS s _ (hW.below (by assumption) hv) (by decide)).mono ?_; rintro e w1 ⟨rfl, rfl⟩))
    all_goals
      go_ret
      go_light
      refine ⟨?_, ?_⟩
      · simp_all [nameM]; try omega
      · (repeat' (first | (with_reducible exact Below.refl _ _) | (with_reducible assumption) | (with_reducible refine Below.alloc ?_ ?_ _) | (with_reducible refine Below.drew ?_) | (with_reducible refine below_drewN ?_) | (with_reducible refine Below.setCell ?_ ?_ _) | (with_reducible refine below_step ?_ ?_ (by with_reducible assumption)) | go_size))
end Go.Proofs.YtoecmmpjndcolaaDoor
