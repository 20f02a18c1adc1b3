/- free; the reference's modeOf, against, aheadOf, waitsFor. -/
import Derived.Test.YtkehmidldcggcaaDoorLf
import Derived.Test.YtkehmidldcggcaaDoorLb
set_option linter.unusedSimpArgs false
set_option linter.unusedVariables false
namespace Go.Proofs.YtkehmidldcggcaaDoor
open Go.RowKit Go.Joins
theorem free_any (a : Option Addr) (l : List LK) (cap : Nat) (x : LK) (w : World) (hl : LksAt w a l) (hn : l.length ≤ 9223372036854775807) (hT : TabFits w) (hx : modeB x.m = true) (hm : ∀ y ∈ l, modeB y.m = true) :
    Calls Tryd.prog 36 #[.slice a l.length cap, .agg #[.int .i64 x.t, .string x.s, .int .i64 x.m]] w fun e w' => e = .returned (.bool (!l.any (agK x))) ∧ Below w.heap.size w w' := by
  have b1 : ∀ y, Below w.heap.size w (w.alloc y) := fun y => Joins.below_alloc1 w y
  have hcon := fun t => containsFunc_any a l cap 58 #[.pointer (some ⟨w.heap.size, 0, none⟩)] (agK x) (w.alloc (.cells #[.int .i64 x.t, .string x.s, .int .i64 x.m] t)) enters58 (hl.below (b1 _) (Nat.le_refl _)) (free1_pred x _ l _ (by simp) (hT.below (b1 _) hT.lt) (by simp) (by simp) (by simp) hx hm) hn
  have HC := Lib.hid hcon
  have HB := Lib.hid b1
  clear hcon hl b1 hT hm
  obtain ⟨t, s, m⟩ := x
  generalize l.any (agK ⟨t, s, m⟩) = r at HC
  go_enter Tryd.func36, Tryd.ntmps36
  go_wp2_with (go_at_call 32; refine (HC.out _).mono ?_; rintro e w' ⟨rfl, hb'⟩)
  go_ret
  exact ⟨rfl, (HB.out _).trans (hb'.mono (by simp))⟩
/-- The mode in which it is had; 0: it is not. -/
def modeM (txn : Int) (thing : ByteArray) : List LK → Int
  | [] => 0
  | x :: r => if isK txn thing x = true then x.m else modeM txn thing r
theorem drop_cons {l : List LK} {k : Nat} {x : LK} (h : l[k]? = some x) : l.drop k = x :: l.drop (k + 1) := by
  obtain ⟨hk, he⟩ := List.getElem?_eq_some_iff.1 h
  rw [List.drop_eq_getElem_cons hk, he]
set_option maxHeartbeats 1000000 in
theorem modeOf_any (a : Option Addr) (l : List LK) (cap : Nat) (txn : Int) (thing : ByteArray) (w : World) (hl : LksAt w a l) (hn : l.length ≤ 9223372036854775807) :
    Calls Tryd.prog 40 #[.slice a l.length cap, .int .i64 txn, .string thing] w fun e w' => e = .returned (.int .i64 (modeM txn thing l)) ∧ w = w' := by
  have HL := Lib.hid hl
  clear hl
  go_enter Tryd.func40, Tryd.ntmps40
  go_wp2
  go_loop [7] (fun i => ∃ k : Nat, k ≤ l.length ∧ i = .int .i64 k ∧ Hid (modeM txn thing l = modeM txn thing (l.drop k))) (fun i => l.length - (intOf i).toNat)
  case atStart => exact ⟨0, by omega, rfl, Lib.hid (by simp)⟩
  case round =>
    obtain ⟨k, hk, rfl, HJ⟩ := hrel
    by_cases hlt : k < l.length
    · obtain ⟨x, hx⟩ : ∃ x, l[k]? = some x := ⟨l[k], by simp [hlt]⟩
      obtain ⟨b, o, rfl, hb, c0, c1, c2⟩ := HL.out.at hx
      have HD := Lib.hid (drop_cons hx)
      obtain ⟨t, s, m⟩ := x
      simp only at c0 c1 c2
      clear hx
      cases e1 : (t == txn)
      · go_wp2
        go_round
        case rel => exact ⟨k + 1, by omega, by go_num, Lib.hid (by rw [HJ.out, HD.out, modeM, if_neg (by simp [isK, e1])])⟩
        case measure => simp [intOf]; omega
      cases e2 : (s.toList == thing.toList)
      · go_wp2
        go_round
        case rel => exact ⟨k + 1, by omega, by go_num, Lib.hid (by rw [HJ.out, HD.out, modeM, if_neg (by simp [isK, e2])])⟩
        case measure => simp [intOf]; omega
      · go_wp2
        go_ret
        go_light
        refine ⟨?_, rfl⟩
        rw [HJ.out, HD.out, modeM, if_pos (by simp only [isK, e1, e2]; rfl)]
        rfl
    · obtain rfl : k = l.length := by omega
      go_wp2
      go_ret
      go_light
      refine ⟨?_, rfl⟩
      rw [HJ.out, List.drop_length]
      rfl
theorem modeOf_at (a : Option Addr) (l : List LK) (n cap : Nat) (txn : Int) (thing : ByteArray) (w : World) (hln : l.length = n) (hl : LksAt w a l) (hn : n ≤ 9223372036854775807) :
    Calls Tryd.prog 40 #[.slice a n cap, .int .i64 txn, .string thing] w fun e w' => e = .returned (.int .i64 (modeM txn thing l)) ∧ w = w' := by
  subst hln; exact modeOf_any a l cap txn thing w hl hn
theorem find_at (a : Option Addr) (l : List LK) (n cap : Nat) (txn : Int) (thing : ByteArray) (w : World) (hln : l.length = n) (hl : LksAt w a l) (hn : n ≤ 9223372036854775807) :
    Calls Tryd.prog 35 #[.slice a n cap, .int .i64 txn, .string thing] w fun e w' => e = .returned (.int .i64 (findM txn thing l)) ∧ Below w.heap.size w w' := by
  subst hln; exact find_any a l cap txn thing w hl hn
end Go.Proofs.YtkehmidldcggcaaDoor
