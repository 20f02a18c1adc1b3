/- The contracts of the lex layer's tokens: marks, Check, and the reference's TokenFault. -/
import Derived.Test.YtoecmmpjndcolaaDoorXa
set_option linter.unusedSimpArgs false
set_option linter.unusedVariables false
namespace Go.Proofs.YtoecmmpjndcolaaDoor
open Go.RowKit
/-- Strings that lie side by side. -/
def StrsAt (w : World) (g : Nat) (ss : List ByteArray) : Prop := ∀ j : Nat, j < ss.length → w.cell? ⟨g, j, none⟩ = some (.string (ss.getD j ⟨#[]⟩))
def hasS (ss : List ByteArray) (v : ByteArray) : Bool := ss.any fun x => v.toList == x.toList
def idxS (v : ByteArray) : List ByteArray → Int → Int
  | [], _ => -1
  | x :: r, k => if (v.toList == x.toList) = true then k else idxS v r (k + 1)
theorem idxS_has (v : ByteArray) : ∀ (ss : List ByteArray) (k : Int), 0 ≤ k → (decide (0 ≤ idxS v ss k) = hasS ss v ∧ -1 ≤ idxS v ss k)
  | [], k, _ => by simp [idxS, hasS]
  | x :: r, k, h => by
    have ih := idxS_has v r (k + 1) (by omega)
    unfold idxS
    by_cases e : (v.toList == x.toList) = true
    · rw [if_pos e]
      simp [hasS, e, h]
      omega
    · rw [if_neg e]
      have e' : (v.toList == x.toList) = false := by simpa using e
      refine ⟨?_, ih.2⟩
      rw [ih.1]
      simp only [hasS, List.any_cons, e', Bool.false_or]
theorem sIndex_any (g : Nat) (ss : List ByteArray) (v : ByteArray) (w : World) (hS : StrsAt w g ss) (hm : ss.length ≤ 9223372036854775807) :
    Calls Tryd.prog 117 #[.slice (some ⟨g, 0, none⟩) ss.length ss.length, .string v] w fun e w' => e = .returned (.int .i64 (idxS v ss 0)) ∧ w = w' := by
  go_enter Tryd.func117, Tryd.ntmps117
  go_wp2
  go_loop [8] (fun i => ∃ k : Nat, k ≤ ss.length ∧ i = .int .i64 k ∧ idxS v ss 0 = idxS v (ss.drop k) k) (fun i => ss.length - (intOf i).toNat)
  case atStart => exact ⟨0, by omega, rfl, by simp⟩
  case round =>
    obtain ⟨k, hk, rfl, hj⟩ := hrel
    have HJ := Lib.hid hj
    clear hj
    by_cases hlt : k < ss.length
    · have hc := hS k hlt
      have hd : ss.drop k = ss.getD k ⟨#[]⟩ :: ss.drop (k + 1) := by
        rw [List.drop_eq_getElem_cons hlt]; simp [List.getD, hlt]
      have HD := Lib.hid hd
      clear hd
      generalize ss.getD k ⟨#[]⟩ = x at hc HD
      cases e : (v.toList == x.toList)
      · go_wp2
        go_round
        case rel => exact ⟨k + 1, by omega, by go_num, by rw [HJ.out, HD.out, idxS, if_neg (by simp [e])]; rfl⟩
        case measure => simp [intOf]; omega
      · go_wp2
        go_ret
        go_light
        refine ⟨?_, rfl⟩
        rw [HJ.out, HD.out, idxS, if_pos e]
        rfl
    · obtain rfl : k = ss.length := by omega
      go_wp2
      go_ret
      go_light
      refine ⟨?_, rfl⟩
      rw [HJ.out, List.drop_length, idxS]
      rfl
theorem contains_any (g : Nat) (ss : List ByteArray) (v : ByteArray) (w : World) (hS : StrsAt w g ss) (hm : ss.length ≤ 9223372036854775807) :
    Calls Tryd.prog 84 #[.slice (some ⟨g, 0, none⟩) ss.length ss.length, .string v] w fun e w' => e = .returned (.bool (hasS ss v)) ∧ w = w' := by
  have h1 := (idxS_has v ss 0 (by omega)).1
  go_enter Tryd.func84, Tryd.ntmps84
  go_wp2_with (go_at_call 117; refine (sIndex_any _ _ _ _ hS hm).mono ?_; rintro e w1 ⟨rfl, rfl⟩)
  go_ret
  go_light
  refine ⟨?_, rfl⟩
  rw [← h1]
  rfl
theorem StrsAt.below {w w' : World} {g B : Nat} {ss : List ByteArray} (h : StrsAt w g ss) (hb : Below B w w') (hg : g < B) : StrsAt w' g ss := fun j hj => (hb.cell (p := ⟨g, j, none⟩) hg).trans (h j hj)
theorem StrsAt.drewN {w : World} {g n : Nat} {ss : List ByteArray} (h : StrsAt w g ss) : StrsAt (w.drewN n) g ss := h
def str (l : List UInt8) : ByteArray := ⟨l.toArray⟩
def marksS : List ByteArray := [str [60, 61], str [62, 61], str [60, 62], str [40], str [41], str [44], str [42], str [43], str [45], str [61], str [60], str [62]]
/-- P5.3 as numbers. -/
def wordS (s : ByteArray) : Bool := decide (0 < s.size) && letB (bt s 0) && decide (spanM wrdB s s.size 0 = s.size)
def tokM (k : Int) (s : ByteArray) (n : Int) : Int :=
  if k = 1 then (if n = 0 ∧ wordS s = true then 0 else 6)
  else if k = 2 then (if n < 0 then 3 else if s.toList = [] then 0 else 6)
  else if k = 3 then (if n = 0 then 0 else 6)
  else if k = 4 then (if n = 0 ∧ hasS marksS s = true then 0 else 6)
  else 2
set_option maxHeartbeats 1000000 in
theorem check_any (k : Int) (s : ByteArray) (n : Int) (w : World) (hs : s.size ≤ maxLen) (hM : StrsAt w 1 marksS) (hg : 1 < w.heap.size) :
    Calls Tryd.prog 43 #[.agg #[.int .i64 k, .string s, .int .i64 n]] w fun e w' => e = .returned (.int .i64 (tokM k s n)) ∧ Below w.heap.size w w' := by
  have hs : s.size ≤ 9223372036854775807 := hs
  by_cases h1 : k = 1
  · subst h1
    by_cases hn : n = 0
    · subst hn
      by_cases he : s.toList = []
      · have hz := size_nil he
        go_enter Tryd.func43, Tryd.ntmps43
        go_wp2
        go_quiet (first | (go_at_call 80; exact Calls.quiet_of_same ((letter_any _ _).mono fun _ _ h => ⟨h.1, h.2.symm⟩)) | (go_at_call 81; exact Calls.quiet_of_same ((span1_any _ _ (by assumption)).mono fun _ _ h => ⟨h.1, h.2.symm⟩)) | (go_at_call 84; exact Calls.quiet_of_same ((contains_any 1 marksS _ _ (by assumption) (by decide)).mono fun _ _ h => ⟨h.1, h.2.symm⟩)))
        go_wp2
        go_ret
        go_light
        refine ⟨?_, ?_⟩
        · simp [tokM, wordS, hz]
        · (repeat' (first | (with_reducible exact Below.refl _ _) | (with_reducible assumption) | (with_reducible refine Below.alloc ?_ ?_ _) | (with_reducible refine Below.drew ?_) | (with_reducible refine below_drewN ?_) | (with_reducible refine Below.setCell ?_ ?_ _) | (with_reducible refine below_step ?_ ?_ (by with_reducible assumption)) | go_size))
      · have hne : s.toList.isEmpty = false := by simpa using he
        have hpos : 0 < s.size := by
          rw [← toList_len]; exact List.length_pos_iff.2 he
        have hb := get_bt s 0 hpos
        have hp0 : (0 : Int) < s.size := by omega
        cases hl : letB (bt s 0)
        · go_enter Tryd.func43, Tryd.ntmps43
          go_wp2
          go_quiet (first | (go_at_call 80; exact Calls.quiet_of_same ((letter_any _ _).mono fun _ _ h => ⟨h.1, h.2.symm⟩)) | (go_at_call 81; exact Calls.quiet_of_same ((span1_any _ _ (by assumption)).mono fun _ _ h => ⟨h.1, h.2.symm⟩)) | (go_at_call 84; exact Calls.quiet_of_same ((contains_any 1 marksS _ _ (by assumption) (by decide)).mono fun _ _ h => ⟨h.1, h.2.symm⟩)))
          go_wp2
          go_ret
          go_light
          refine ⟨?_, ?_⟩
          · simp [tokM, wordS, hl]
          · (repeat' (first | (with_reducible exact Below.refl _ _) | (with_reducible assumption) | (with_reducible refine Below.alloc ?_ ?_ _) | (with_reducible refine Below.drew ?_) | (with_reducible refine below_drewN ?_) | (with_reducible refine Below.setCell ?_ ?_ _) | (with_reducible refine below_step ?_ ?_ (by with_reducible assumption)) | go_size))
        · cases hsp : decide (spanM wrdB s s.size 0 = s.size)
          · have hsp2 : (((spanM wrdB s s.size 0 : Nat) : Int) == (s.size : Int)) = false := by
              rw [beq_eq_false_iff_ne]; intro h; simp at hsp; omega
            go_enter Tryd.func43, Tryd.ntmps43
            go_wp2
            go_quiet (first | (go_at_call 80; exact Calls.quiet_of_same ((letter_any _ _).mono fun _ _ h => ⟨h.1, h.2.symm⟩)) | (go_at_call 81; exact Calls.quiet_of_same ((span1_any _ _ (by assumption)).mono fun _ _ h => ⟨h.1, h.2.symm⟩)) | (go_at_call 84; exact Calls.quiet_of_same ((contains_any 1 marksS _ _ (by assumption) (by decide)).mono fun _ _ h => ⟨h.1, h.2.symm⟩)))
            go_wp2
            go_ret
            go_light
            refine ⟨?_, ?_⟩
            · simp [tokM, wordS, hl, hsp]
            · (repeat' (first | (with_reducible exact Below.refl _ _) | (with_reducible assumption) | (with_reducible refine Below.alloc ?_ ?_ _) | (with_reducible refine Below.drew ?_) | (with_reducible refine below_drewN ?_) | (with_reducible refine Below.setCell ?_ ?_ _) | (with_reducible refine below_step ?_ ?_ (by with_reducible assumption)) | go_size))
          · have hsp2 : (((spanM wrdB s s.size 0 : Nat) : Int) == (s.size : Int)) = true := by
              simp at hsp; rw [beq_iff_eq]; omega
            go_enter Tryd.func43, Tryd.ntmps43
            go_wp2
            go_quiet (first | (go_at_call 80; exact Calls.quiet_of_same ((letter_any _ _).mono fun _ _ h => ⟨h.1, h.2.symm⟩)) | (go_at_call 81; exact Calls.quiet_of_same ((span1_any _ _ (by assumption)).mono fun _ _ h => ⟨h.1, h.2.symm⟩)) | (go_at_call 84; exact Calls.quiet_of_same ((contains_any 1 marksS _ _ (by assumption) (by decide)).mono fun _ _ h => ⟨h.1, h.2.symm⟩)))
            go_wp2
            go_ret
            go_light
            refine ⟨?_, ?_⟩
            · simp [tokM, wordS, hl, hsp, hpos]
            · (repeat' (first | (with_reducible exact Below.refl _ _) | (with_reducible assumption) | (with_reducible refine Below.alloc ?_ ?_ _) | (with_reducible refine Below.drew ?_) | (with_reducible refine below_drewN ?_) | (with_reducible refine Below.setCell ?_ ?_ _) | (with_reducible refine below_step ?_ ?_ (by with_reducible assumption)) | go_size))
    · have hn0 : (n == 0) = false := by simp [hn]
      go_enter Tryd.func43, Tryd.ntmps43
      go_wp2
      go_quiet (first | (go_at_call 80; exact Calls.quiet_of_same ((letter_any _ _).mono fun _ _ h => ⟨h.1, h.2.symm⟩)) | (go_at_call 81; exact Calls.quiet_of_same ((span1_any _ _ (by assumption)).mono fun _ _ h => ⟨h.1, h.2.symm⟩)) | (go_at_call 84; exact Calls.quiet_of_same ((contains_any 1 marksS _ _ (by assumption) (by decide)).mono fun _ _ h => ⟨h.1, h.2.symm⟩)))
      go_wp2
      go_ret
      go_light
      refine ⟨?_, ?_⟩
      · simp [tokM, hn]
      · (repeat' (first | (with_reducible exact Below.refl _ _) | (with_reducible assumption) | (with_reducible refine Below.alloc ?_ ?_ _) | (with_reducible refine Below.drew ?_) | (with_reducible refine below_drewN ?_) | (with_reducible refine Below.setCell ?_ ?_ _) | (with_reducible refine below_step ?_ ?_ (by with_reducible assumption)) | go_size))
  have hM' : ∀ o, StrsAt (w.alloc o) 1 marksS := fun o => hM.below ((Below.refl _ _).alloc (Nat.le_refl _) o) hg
  by_cases h4 : k = 4
  · subst h4
    by_cases hn : n = 0
    · subst hn
      cases hh : hasS marksS s
      · have HM' := Lib.hid hM'
        clear hM'
        go_enter Tryd.func43, Tryd.ntmps43
        go_wp2
        go_quiet (first | (go_at_call 80; exact Calls.quiet_of_same ((letter_any _ _).mono fun _ _ h => ⟨h.1, h.2.symm⟩)) | (go_at_call 81; exact Calls.quiet_of_same ((span1_any _ _ (by assumption)).mono fun _ _ h => ⟨h.1, h.2.symm⟩)) | (go_at_call 84; exact Calls.quiet_of_same ((contains_any 1 marksS _ _ (StrsAt.drewN (HM'.out _)) (by decide)).mono fun _ _ h => ⟨h.1, h.2.symm⟩)))
        go_wp2
        all_goals
          go_ret
          go_light
          refine ⟨?_, ?_⟩
          · simp_all [tokM, hh]
          · (repeat' (first | (with_reducible exact Below.refl _ _) | (with_reducible assumption) | (with_reducible refine Below.alloc ?_ ?_ _) | (with_reducible refine Below.drew ?_) | (with_reducible refine below_drewN ?_) | (with_reducible refine Below.setCell ?_ ?_ _) | (with_reducible refine below_step ?_ ?_ (by with_reducible assumption)) | go_size))
      · have HM' := Lib.hid hM'
        clear hM'
        go_enter Tryd.func43, Tryd.ntmps43
        go_wp2
        go_quiet (first | (go_at_call 80; exact Calls.quiet_of_same ((letter_any _ _).mono fun _ _ h => ⟨h.1, h.2.symm⟩)) | (go_at_call 81; exact Calls.quiet_of_same ((span1_any _ _ (by assumption)).mono fun _ _ h => ⟨h.1, h.2.symm⟩)) | (go_at_call 84; exact Calls.quiet_of_same ((contains_any 1 marksS _ _ (StrsAt.drewN (HM'.out _)) (by decide)).mono fun _ _ h => ⟨h.1, h.2.symm⟩)))
        go_wp2
        all_goals
          go_ret
          go_light
          refine ⟨?_, ?_⟩
          · simp_all [tokM, hh]
          · (repeat' (first | (with_reducible exact Below.refl _ _) | (with_reducible assumption) | (with_reducible refine Below.alloc ?_ ?_ _) | (with_reducible refine Below.drew ?_) | (with_reducible refine below_drewN ?_) | (with_reducible refine Below.setCell ?_ ?_ _) | (with_reducible refine below_step ?_ ?_ (by with_reducible assumption)) | go_size))
    · have hn0 : (n == 0) = false := by simp [hn]
      clear hM'
      go_enter Tryd.func43, Tryd.ntmps43
      go_wp2
      go_quiet (first | (go_at_call 80; exact Calls.quiet_of_same ((letter_any _ _).mono fun _ _ h => ⟨h.1, h.2.symm⟩)) | (go_at_call 81; exact Calls.quiet_of_same ((span1_any _ _ (by assumption)).mono fun _ _ h => ⟨h.1, h.2.symm⟩)) | (go_at_call 84; exact Calls.quiet_of_same ((contains_any 1 marksS _ _ (by assumption) (by decide)).mono fun _ _ h => ⟨h.1, h.2.symm⟩)))
      go_wp2
      all_goals
        go_ret
        go_light
        refine ⟨?_, ?_⟩
        · simp_all [tokM, hn]
        · (repeat' (first | (with_reducible exact Below.refl _ _) | (with_reducible assumption) | (with_reducible refine Below.alloc ?_ ?_ _) | (with_reducible refine Below.drew ?_) | (with_reducible refine below_drewN ?_) | (with_reducible refine Below.setCell ?_ ?_ _) | (with_reducible refine below_step ?_ ?_ (by with_reducible assumption)) | go_size))
  clear hM'
  by_cases h2 : k = 2
  · subst h2
    go_enter Tryd.func43, Tryd.ntmps43
    go_wp2
    go_wp2
    all_goals
      go_ret
      go_light
      refine ⟨?_, ?_⟩
      · simp_all [tokM]
      · (repeat' (first | (with_reducible exact Below.refl _ _) | (with_reducible assumption) | (with_reducible refine Below.alloc ?_ ?_ _) | (with_reducible refine Below.drew ?_) | (with_reducible refine below_drewN ?_) | (with_reducible refine Below.setCell ?_ ?_ _) | (with_reducible refine below_step ?_ ?_ (by with_reducible assumption)) | go_size))
  by_cases h3 : k = 3
  · subst h3
    go_enter Tryd.func43, Tryd.ntmps43
    go_wp2
    go_wp2
    all_goals
      go_ret
      go_light
      refine ⟨?_, ?_⟩
      · simp_all [tokM]
      · (repeat' (first | (with_reducible exact Below.refl _ _) | (with_reducible assumption) | (with_reducible refine Below.alloc ?_ ?_ _) | (with_reducible refine Below.drew ?_) | (with_reducible refine below_drewN ?_) | (with_reducible refine Below.setCell ?_ ?_ _) | (with_reducible refine below_step ?_ ?_ (by with_reducible assumption)) | go_size))
  · have e1 : (k == 1) = false := by simp [h1]
    have e2 : (k == 2) = false := by simp [h2]
    have e3 : (k == 3) = false := by simp [h3]
    have e4 : (k == 4) = false := by simp [h4]
    go_enter Tryd.func43, Tryd.ntmps43
    go_wp2
    go_wp2
    all_goals
      go_ret
      go_light
      refine ⟨?_, ?_⟩
      · simp_all [tokM]
      · (repeat' (first | (with_reducible exact Below.refl _ _) | (with_reducible assumption) | (with_reducible refine Below.alloc ?_ ?_ _) | (with_reducible refine Below.drew ?_) | (with_reducible refine below_drewN ?_) | (with_reducible refine Below.setCell ?_ ?_ _) | (with_reducible refine below_step ?_ ?_ (by with_reducible assumption)) | go_size))
end Go.Proofs.YtoecmmpjndcolaaDoor
