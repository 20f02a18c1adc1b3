/- Slices of structs as lists; locks; slices.IndexFunc and ContainsFunc over locks; the lock layer's shape, find, free. -/
import Derived.Test.YtkehmidldcggcaaDoorLa
import Derived.Test.YtkehmidldcggcaaDoorSl
import Derived.Shelf.Abstract
set_option linter.unusedSimpArgs false
set_option linter.unusedVariables false
namespace Go.Proofs.YtkehmidldcggcaaDoor
open Go.RowKit
structure LK where
  t : Int
  s : ByteArray
  m : Int
def LK.cells (x : LK) : List Value := [.int .i64 x.t, .string x.s, .int .i64 x.m]
def LK.val (x : LK) : Value := .agg #[.int .i64 x.t, .string x.s, .int .i64 x.m]
abbrev LksAt (w : World) (a : Option Addr) (l : List LK) : Prop := SlAt w 3 LK.cells a l
theorem lk_cells {w : World} {b o : Nat} {l : List LK} (hc : ∀ j x, l[j]? = some x → ∀ i v, (LK.cells x)[i]? = some v → w.cell? ⟨b, o + j * 3 + i, none⟩ = some v) {j : Nat} {x : LK} (hj : l[j]? = some x) :
    w.cell? ⟨b, o + j * 3, none⟩ = some (.int .i64 x.t) ∧ w.cell? ⟨b, o + j * 3 + 1, none⟩ = some (.string x.s) ∧ w.cell? ⟨b, o + j * 3 + 2, none⟩ = some (.int .i64 x.m) :=
  ⟨hc j x hj 0 _ rfl, hc j x hj 1 _ rfl, hc j x hj 2 _ rfl⟩
/-- What is asked of a predicate: it answers at each element, and leaves the older memory alone. -/
def PredB (g : FuncId) (lb : Array Value) (p : LK → Bool) (l : List LK) (w : World) : Prop :=
  ∀ W, Below w.heap.size w W → ∀ x ∈ l, Calls Tryd.prog g (#[x.val] ++ lb) W fun e w' => e = .returned (.bool (p x)) ∧ Below w.heap.size w w'
def idxF (p : LK → Bool) : List LK → Int → Int
  | [], _ => -1
  | x :: r, k => if p x = true then k else idxF p r (k + 1)
theorem idxF_any (p : LK → Bool) : ∀ (l : List LK) (k : Int), 0 ≤ k → (decide (0 ≤ idxF p l k) = l.any p)
  | [], k, _ => by simp [idxF]
  | x :: r, k, h => by
    unfold idxF
    by_cases e : p x = true
    · simp [e, h]
    · rw [if_neg e, idxF_any p r (k + 1) (by omega)]
      simp [e]
set_option maxHeartbeats 1000000 in
theorem indexFunc_any (a : Option Addr) (l : List LK) (cap : Nat) (g : FuncId) (lb : Array Value) (p : LK → Bool) (w : World) (eg : ∀ args w, (callFunc g args).run Tryd.prog w = .ok (.enter g args) w)
    (hl : LksAt w a l) (hp : PredB g lb p l w) (hn : l.length ≤ 9223372036854775807) :
    Calls Tryd.prog 54 #[.slice a l.length cap, .func (.func g) #[] lb] w fun e w' => e = .returned (.int .i64 (idxF p l 0)) ∧ Below w.heap.size w w' := by
  rcases hl with rfl | ⟨b, o, rfl, hb, hc⟩
  · go_enter Tryd.func54, Tryd.ntmps54
    go_wp2
    go_rounds 1
    all_goals (go_ret; exact ⟨rfl, Below.refl _ _⟩)
  have HC := Lib.hid hc
  have HP := Lib.hid hp
  clear hc hp
  go_enter Tryd.func54, Tryd.ntmps54
  go_wp2
  go_loopw [5, 8] (fun _ i wr => ∃ k : Nat, k ≤ l.length ∧ i = .int .i64 k ∧ Hid (Below w.heap.size w wr) ∧ Hid (idxF p l 0 = idxF p (l.drop k) k)) (fun _ i _ => l.length - (intOf i).toNat)
  case atStart => exact ⟨0, by omega, rfl, Lib.hid (Below.refl _ _), Lib.hid (by simp)⟩
  case round =>
    obtain ⟨k, hk, rfl, HB, HJ⟩ := hrel
    by_cases hlt : k < l.length
    · obtain ⟨x, hx⟩ : ∃ x, l[k]? = some x := ⟨l[k], by simp [hlt]⟩
      have hd : l.drop k = x :: l.drop (k + 1) := by
        rw [List.drop_eq_getElem_cons hlt]
        rw [List.getElem?_eq_getElem hlt] at hx
        rw [Option.some.inj hx]
      have HD := Lib.hid hd
      have hm : x ∈ l := List.mem_of_getElem? hx
      obtain ⟨c0, c1, c2⟩ := lk_cells HC.out hx
      have hcall := HP.out wr HB.out x hm
      unfold LK.val at hcall
      have c0 := (HB.out.cell (p := ⟨b, o + k * 3, none⟩) hb).trans c0
      have c1 := (HB.out.cell (p := ⟨b, o + k * 3 + 1, none⟩) hb).trans c1
      have c2 := (HB.out.cell (p := ⟨b, o + k * 3 + 2, none⟩) hb).trans c2
      clear hd hx hm
      cases e : p x
      · rw [e] at hcall
        go_wp2_with (go_at_fn g; refine hcall.mono ?_; rintro e w' ⟨rfl, hb'⟩)
        go_roundw
        case rel => exact ⟨k + 1, by omega, by go_num, Lib.hid hb', Lib.hid (by rw [HJ.out, HD.out, idxF, if_neg (by simp [e])]; rfl)⟩
        case measure => simp [intOf]; omega
      · rw [e] at hcall
        go_wp2_with (go_at_fn g; refine hcall.mono ?_; rintro e w' ⟨rfl, hb'⟩)
        go_ret
        refine ⟨?_, hb'⟩
        rw [HJ.out, HD.out, idxF, if_pos e]
        rfl
    · obtain rfl : k = l.length := by omega
      go_wp2
      go_ret
      refine ⟨?_, HB.out⟩
      rw [HJ.out, List.drop_length, idxF]
      rfl
theorem containsFunc_any (a : Option Addr) (l : List LK) (cap : Nat) (g : FuncId) (lb : Array Value) (p : LK → Bool) (w : World) (eg : ∀ args w, (callFunc g args).run Tryd.prog w = .ok (.enter g args) w)
    (hl : LksAt w a l) (hp : PredB g lb p l w) (hn : l.length ≤ 9223372036854775807) :
    Calls Tryd.prog 32 #[.slice a l.length cap, .func (.func g) #[] lb] w fun e w' => e = .returned (.bool (l.any p)) ∧ Below w.heap.size w w' := by
  have h1 := idxF_any p l 0 (by omega)
  go_enter Tryd.func32, Tryd.ntmps32
  go_wp2_with (go_at_call 54; refine (indexFunc_any a l cap g lb p _ eg hl hp hn).mono ?_; rintro e w' ⟨rfl, hb'⟩)
  go_ret
  go_light
  refine ⟨?_, hb'⟩
  rw [← h1]
  rfl
end Go.Proofs.YtkehmidldcggcaaDoor
