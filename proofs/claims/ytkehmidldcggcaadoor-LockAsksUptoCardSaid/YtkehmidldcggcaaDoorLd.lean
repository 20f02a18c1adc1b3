/- The lock layer's shape, find, free. -/
import Derived.Test.YtkehmidldcggcaaDoorLc
import Derived.Deep.QuietTactic
import Derived.BigQuiet
set_option linter.unusedSimpArgs false
set_option linter.unusedVariables false
namespace Go.Proofs.YtkehmidldcggcaaDoor
open Go.RowKit
theorem below_step {B : Nat} {a w w' : World} (h : Below B a w) (hB : B ≤ w.heap.size) (hb : Below w.heap.size w w') : Below B a w' := h.trans (hb.mono hB)
theorem below_drewN {B : Nat} {a w : World} {n : Nat} (h : Below B a w) : Below B a (w.drewN n) := h.trans (Joins.below_draws B w n)
/-- P4.3 as numbers. -/
def shapeM (x : LK) : Int := if x.t < 1 ∨ 1048576 < x.t then 3 else if 120 < x.s.size then 1 else if modeB x.m = true then 0 else 2
theorem shape_any (x : LK) (w : World) (hs : x.s.size ≤ maxLen) : Calls Tryd.prog 34 #[.agg #[.int .i64 x.t, .string x.s, .int .i64 x.m]] w fun e w' => e = .returned (.int .i64 (shapeM x)) ∧ Below w.heap.size w w' := by
  have hs : x.s.size ≤ 9223372036854775807 := hs
  obtain ⟨t, s, m⟩ := x
  simp only at hs ⊢
  have hm : modeB m = (decide (1 ≤ m) && decide (m ≤ 5)) := rfl
  go_enter Tryd.func34, Tryd.ntmps34
  go_wp2_with (go_at_call 28; refine (mode_any _ _).mono ?_; rintro e w1 ⟨rfl, rfl⟩)
  all_goals
    go_ret
    go_light
    refine ⟨?_, ?_⟩
    · simp_all [shapeM]; try omega
    · (repeat' (first | (with_reducible exact Below.refl _ _) | (with_reducible assumption) | (with_reducible refine Below.alloc ?_ ?_ _) | (with_reducible refine Below.drew ?_) | (with_reducible refine below_drewN ?_) | (with_reducible refine Below.setCell ?_ ?_ _) | (with_reducible refine below_step ?_ ?_ (by with_reducible assumption)) | go_size))
theorem lockFault_any (x : LK) (w : World) (hs : x.s.size ≤ maxLen) : Calls Tryd.prog 39 #[.agg #[.int .i64 x.t, .string x.s, .int .i64 x.m]] w fun e w' => e = .returned (.int .i64 (shapeM x)) ∧ Below w.heap.size w w' := by
  have hs : x.s.size ≤ 9223372036854775807 := hs
  obtain ⟨t, s, m⟩ := x
  simp only at hs ⊢
  have hm : modeB m = (decide (1 ≤ m) && decide (m ≤ 5)) := rfl
  go_enter Tryd.func39, Tryd.ntmps39
  go_wp2_with (go_at_call 29; refine (in_any _ _ _ _).mono ?_; rintro e w1 ⟨rfl, rfl⟩)
  all_goals
    go_ret
    go_light
    refine ⟨?_, ?_⟩
    · simp_all [shapeM]; try omega
    · (repeat' (first | (with_reducible exact Below.refl _ _) | (with_reducible assumption) | (with_reducible refine Below.alloc ?_ ?_ _) | (with_reducible refine Below.drew ?_) | (with_reducible refine below_drewN ?_) | (with_reducible refine Below.setCell ?_ ?_ _) | (with_reducible refine below_step ?_ ?_ (by with_reducible assumption)) | go_size))
def isK (txn : Int) (thing : ByteArray) (x : LK) : Bool := x.t == txn && x.s.toList == thing.toList
theorem enters57 : ∀ args w, (callFunc 57 args).run Tryd.prog w = .ok (.enter 57 args) w := enters_of Tryd.func57 (by kernel_rfl) rfl
theorem enters58 : ∀ args w, (callFunc 58 args).run Tryd.prog w = .ok (.enter 58 args) w := enters_of Tryd.func58 (by kernel_rfl) rfl
theorem find1_pred (txn : Int) (thing : ByteArray) (B C : Nat) (l : List LK) (w : World) (hB : B < w.heap.size) (hC : C < w.heap.size) (h1 : w.cell? ⟨B, 0, none⟩ = some (.int .i64 txn)) (h2 : w.cell? ⟨C, 0, none⟩ = some (.string thing)) :
    PredB 57 #[.pointer (some ⟨B, 0, none⟩), .pointer (some ⟨C, 0, none⟩)] (isK txn thing) l w := fun W hb x _ => by
  have c1 : W.cell? ⟨B, 0, none⟩ = some (.int .i64 txn) := (hb.cell (p := ⟨B, 0, none⟩) hB).trans h1
  have c2 : W.cell? ⟨C, 0, none⟩ = some (.string thing) := (hb.cell (p := ⟨C, 0, none⟩) hC).trans h2
  have hz := hb.size
  have c1 := fun y => ((Joins.below_alloc1 W y).cell (p := ⟨B, 0, none⟩) (show B < W.heap.size from by omega)).trans c1
  have c2 := fun y => ((Joins.below_alloc1 W y).cell (p := ⟨C, 0, none⟩) (show C < W.heap.size from by omega)).trans c2
  obtain ⟨t, s, m⟩ := x
  show Calls Tryd.prog 57 #[.agg #[.int .i64 t, .string s, .int .i64 m], .pointer (some ⟨B, 0, none⟩), .pointer (some ⟨C, 0, none⟩)] W _
  go_enter Tryd.func57, Tryd.ntmps57
  go_wp2
  all_goals (go_ret; exact ⟨by simp_all [isK], hb.alloc hb.size _⟩)
def findM (txn : Int) (thing : ByteArray) (l : List LK) : Int := idxF (isK txn thing) l 0
theorem find_any (a : Option Addr) (l : List LK) (cap : Nat) (txn : Int) (thing : ByteArray) (w : World) (hl : LksAt w a l) (hn : l.length ≤ 9223372036854775807) :
    Calls Tryd.prog 35 #[.slice a l.length cap, .int .i64 txn, .string thing] w fun e w' => e = .returned (.int .i64 (findM txn thing l)) ∧ Below w.heap.size w w' := by
  have b2 : ∀ x y, Below w.heap.size w ((w.alloc x).alloc y) := fun x y => Joins.below_alloc2 w x y
  have hcon := fun x y => indexFunc_any a l cap 57 #[.pointer (some ⟨w.heap.size, 0, none⟩), .pointer (some ⟨w.heap.size + 1, 0, none⟩)] (isK txn thing) ((w.alloc (.cells #[.int .i64 txn] x)).alloc (.cells #[.string thing] y)) enters57 (hl.below (b2 _ _) (Nat.le_refl _)) (find1_pred txn thing _ _ l _ (by simp; omega) (by simp) (by simp) (by simp)) hn
  have HC := Lib.hid hcon
  have HB := Lib.hid b2
  clear hcon hl b2
  go_enter Tryd.func35, Tryd.ntmps35
  go_wp2_with (go_at_call 54; refine (HC.out _ _).mono ?_; rintro e w' ⟨rfl, hb'⟩)
  go_ret
  exact ⟨rfl, (HB.out _ _).trans (hb'.mono (by simp; omega))⟩
/-- Does what is held stand against what is asked for? -/
def agK (x h : LK) : Bool := h.s.toList == x.s.toList && h.t != x.t && !fitB h.m x.m
theorem TabFits.lt {w : World} (h : TabFits w) : 0 < w.heap.size := by
  have h0 := h 0 0 (by decide) (by decide)
  rcases Nat.lt_or_ge 0 w.heap.size with h | h
  · exact h
  · simp [World.cell?, Array.getElem?_eq_none h] at h0
theorem TabJoins.lt {w : World} (h : TabJoins w) : 1 < w.heap.size := by
  have h0 := h 0 0 (by decide) (by decide)
  rcases Nat.lt_or_ge 1 w.heap.size with h | h
  · exact h
  · simp [World.cell?, Array.getElem?_eq_none h] at h0
theorem free1_pred (x : LK) (B : Nat) (l : List LK) (w : World) (hB : B < w.heap.size) (hT : TabFits w) (h0 : w.cell? ⟨B, 0, none⟩ = some (.int .i64 x.t)) (h1 : w.cell? ⟨B, 1, none⟩ = some (.string x.s)) (h2 : w.cell? ⟨B, 2, none⟩ = some (.int .i64 x.m))
    (hx : modeB x.m = true) (hl : ∀ y ∈ l, modeB y.m = true) :
    PredB 58 #[.pointer (some ⟨B, 0, none⟩)] (agK x) l w := fun W hb y hy => by
  have c0 := (hb.cell (p := ⟨B, 0, none⟩) hB).trans h0
  have c1 := (hb.cell (p := ⟨B, 1, none⟩) hB).trans h1
  have c2 := (hb.cell (p := ⟨B, 2, none⟩) hB).trans h2
  have hz := hb.size
  have c0 := fun y => ((Joins.below_alloc1 W y).cell (p := ⟨B, 0, none⟩) (show B < W.heap.size from by omega)).trans c0
  have c1 := fun y => ((Joins.below_alloc1 W y).cell (p := ⟨B, 1, none⟩) (show B < W.heap.size from by omega)).trans c1
  have c2 := fun y => ((Joins.below_alloc1 W y).cell (p := ⟨B, 2, none⟩) (show B < W.heap.size from by omega)).trans c2
  have hyl := hl y hy
  have hT' : TabFits W := hT.below hb hT.lt
  have hT2 := (hT'.below (Joins.below_alloc1 W (.cells #[.int .i64 y.t, .string y.s, .int .i64 y.m] 36)) hT'.lt)
  obtain ⟨t, s, m⟩ := y
  obtain ⟨xt, xs, xm⟩ := x
  simp only [modeB, Bool.and_eq_true, decide_eq_true_eq] at hyl hx
  have hc := hT2.at (a := m) (b := xm) (by omega) (by omega)
  obtain ⟨m1, m2⟩ := hyl
  obtain ⟨x1, x2⟩ := hx
  simp only at hc c0 c1 c2
  clear hT hT' hT2 hl hy h0 h1 h2
  show Calls Tryd.prog 58 #[.agg #[.int .i64 t, .string s, .int .i64 m], .pointer (some ⟨B, 0, none⟩)] W _
  cases e1 : (s.toList == xs.toList)
  · go_enter Tryd.func58, Tryd.ntmps58
    go_wp2
    go_quiet (fail)
    go_wp2
    all_goals (go_ret; exact ⟨by simp_all [agK], by (repeat' (first | (with_reducible exact Below.refl _ _) | (with_reducible assumption) | (with_reducible refine Below.alloc ?_ ?_ _) | (with_reducible refine Below.drew ?_) | (with_reducible refine below_drewN ?_) | (with_reducible refine Below.setCell ?_ ?_ _) | (with_reducible refine below_step ?_ ?_ (by with_reducible assumption)) | go_size))⟩)
  · cases e2 : (t != xt)
    · go_enter Tryd.func58, Tryd.ntmps58
      go_wp2
      go_quiet (fail)
      go_wp2
      all_goals (go_ret; exact ⟨by simp_all [agK], by (repeat' (first | (with_reducible exact Below.refl _ _) | (with_reducible assumption) | (with_reducible refine Below.alloc ?_ ?_ _) | (with_reducible refine Below.drew ?_) | (with_reducible refine below_drewN ?_) | (with_reducible refine Below.setCell ?_ ?_ _) | (with_reducible refine below_step ?_ ?_ (by with_reducible assumption)) | go_size))⟩)
    · go_enter Tryd.func58, Tryd.ntmps58
      go_wp2
      go_quiet (fail)
      go_wp2
      all_goals (go_ret; exact ⟨by simp_all [agK], by (repeat' (first | (with_reducible exact Below.refl _ _) | (with_reducible assumption) | (with_reducible refine Below.alloc ?_ ?_ _) | (with_reducible refine Below.drew ?_) | (with_reducible refine below_drewN ?_) | (with_reducible refine Below.setCell ?_ ?_ _) | (with_reducible refine below_step ?_ ?_ (by with_reducible assumption)) | go_size))⟩)
end Go.Proofs.YtkehmidldcggcaaDoor
