/- The law LockAsks, walked. -/
import Derived.Test.YtkehmidldcggcaaDoorLz
set_option linter.unusedSimpArgs false
set_option linter.unusedVariables false
namespace Go.Proofs.YtkehmidldcggcaaDoor
open Go.RowKit Go.Joins
theorem Ask_any (a1 a2 : Option Addr) (l1 l2 : List LK) (p1 p2 : Nat) (x : LK) (w : World) (h1 : LksAt w a1 l1) (h2 : LksAt w a2 l2) (n1 : l1.length ≤ 1048576) (n2 : l2.length ≤ 1048576) (q1 : l1.length ≤ p1) (q2 : l2.length ≤ p2) (m1 : ∀ x ∈ l1, x.s.size ≤ maxLen) (m2 : ∀ x ∈ l2, x.s.size ≤ maxLen) (hx : x.s.size ≤ maxLen) (hT : TabFits w) (hJ : TabJoins w) :
    Calls Tryd.prog 18 #[.agg #[.slice a1 l1.length p1, .slice a2 l2.length p2], .agg #[.int .i64 x.t, .string x.s, .int .i64 x.m]] w (AskPost w (askM l1 l2 x)) := by
  by_cases h : lockGood l1 l2 ∧ shapeM x = 0 ∧ l2.any (sameX x) = false
  · exact Ask_good a1 a2 l1 l2 p1 p2 x w h1 h2 n1 n2 q1 q2 m1 m2 hx hT hJ h.1 h.2.1 h.2.2
  · exact Ask_bad a1 a2 l1 l2 p1 p2 x w h1 h2 n1 n2 q1 q2 m1 m2 hx hT hJ h
theorem AskedFor_any (a1 a2 : Option Addr) (l1 l2 : List LK) (p1 p2 : Nat) (x : LK) (w : World) (h1 : LksAt w a1 l1) (h2 : LksAt w a2 l2) (n1 : l1.length ≤ 1048576) (n2 : l2.length ≤ 1048576) (q1 : l1.length ≤ p1) (q2 : l2.length ≤ p2) (m1 : ∀ x ∈ l1, x.s.size ≤ maxLen) (m2 : ∀ x ∈ l2, x.s.size ≤ maxLen) (hx : x.s.size ≤ maxLen) :
    Calls Tryd.prog 19 #[.agg #[.slice a1 l1.length p1, .slice a2 l2.length p2], .agg #[.int .i64 x.t, .string x.s, .int .i64 x.m]] w (AskPost w (askM l1 l2 x)) := by
  by_cases h : lockGood l1 l2 ∧ shapeM x = 0
  · exact AskedFor_good a1 a2 l1 l2 p1 p2 x w h1 h2 n1 n2 q1 q2 m1 m2 hx h.1 h.2
  · exact AskedFor_bad a1 a2 l1 l2 p1 p2 x w h1 h2 n1 n2 q1 q2 m1 m2 hx h
theorem ask_len (l1 l2 : List LK) (x : LK) : (askM l1 l2 x).1.1.length ≤ 201 ∧ (askM l1 l2 x).1.2.length ≤ 201 := by
  by_cases hg : lockGood l1 l2
  · have := hg.1
    unfold askM
    rw [if_neg (fun n => n hg)]
    split
    · simp
    · split
      · simp
      · unfold askR
        have hl := haveM_len (askX l1 x) l1
        split
        · simp; omega
        · split
          · split
            · simp
            · simp; omega
          · split
            · simp
            · simp; omega
  · rw [ask_bad hg]; simp
set_option maxRecDepth 100000 in
set_option maxHeartbeats 2000000 in
theorem law_asks (a1 a2 : Option Addr) (l1 l2 : List LK) (p1 p2 : Nat) (x : LK) (w : World) (h1 : LksAt w a1 l1) (h2 : LksAt w a2 l2) (n1 : l1.length ≤ 1048576) (n2 : l2.length ≤ 1048576) (q1 : l1.length ≤ p1) (q2 : l2.length ≤ p2) (m1 : ∀ x ∈ l1, x.s.size ≤ maxLen) (m2 : ∀ x ∈ l2, x.s.size ≤ maxLen) (hx : x.s.size ≤ maxLen) (hT : TabFits w) (hJ : TabJoins w) :
    Calls Tryd.prog 6 #[.agg #[.slice a1 l1.length p1, .slice a2 l2.length p2], .agg #[.int .i64 x.t, .string x.s, .int .i64 x.m]] w fun e w' => e = .returned (.bool true) ∧ Below w.heap.size w w' := by
  have H1 := Lib.hid h1
  have H2 := Lib.hid h2
  have HT := Lib.hid hT
  have HJ := Lib.hid hJ
  have B2 : Hid (∀ x y, Below w.heap.size w ((w.alloc x).alloc y)) := fun x y => Joins.below_alloc2 w x y
  obtain ⟨c1, c2⟩ := ask_len l1 l2 x
  have HA := fun (b1 b2 : Option Addr) (d1 d2 : Nat) (w1 : World) (g1 : LksAt w1 b1 l1) (g2 : LksAt w1 b2 l2) (e1 : l1.length ≤ d1) (e2 : l2.length ≤ d2) (hb : Below w.heap.size w w1) => Ask_any b1 b2 l1 l2 d1 d2 x w1 g1 g2 n1 n2 e1 e2 m1 m2 hx (hT.below hb hT.lt) (hJ.below hb hJ.lt)
  have HF := fun (w1 : World) (hb : Below w.heap.size w w1) => AskedFor_any a1 a2 l1 l2 p1 p2 x w1 (h1.below hb (Nat.le_refl _)) (h2.below hb (Nat.le_refl _)) n1 n2 q1 q2 m1 m2 hx
  generalize askM l1 l2 x = r at c1 c2 HA HF
  obtain ⟨⟨r1, r2⟩, pb, er⟩ := r
  simp only at c1 c2
  have HA' := Lib.hid HA
  have HF' := Lib.hid HF
  obtain ⟨xt, xs, xm⟩ := x
  clear HA HF h1 h2 hT hJ m1 m2 hx
  go_enter Tryd.func6, Tryd.ntmps6
  go_wp2_with (first
    | (go_at_call 14; refine (copy_any a1 a2 l1 l2 p1 p2 _ (H1.out.below (B2.out _ _) (Nat.le_refl _)) (H2.out.below (B2.out _ _) (Nat.le_refl _)) (by omega) (by omega)).mono ?_; rintro e w1 ⟨⟨b1, b2, d1, d2, rfl, hL1, hL2, le1, le2⟩, hb⟩; have hz := hb.size; (try simp only [World.size_alloc, World.size_setCell, World.size_drew, size_drewN] at hz); (try (have zw1_0 : w.heap.size < w1.heap.size := (by omega))); (try (have cw1_0 := fun o => hb.cell (p := ⟨w.heap.size, o, none⟩) (by (try simp only [World.size_alloc, World.size_setCell, World.size_drew, size_drewN]); omega))); (try (have fw1_0 := fun o => hb.frozen (p := ⟨w.heap.size, o, none⟩) (by (try simp only [World.size_alloc, World.size_setCell, World.size_drew, size_drewN]); omega))); (try (have zw1_1 : w.heap.size + 1 < w1.heap.size := (by omega))); (try (have cw1_1 := fun o => hb.cell (p := ⟨w.heap.size + 1, o, none⟩) (by (try simp only [World.size_alloc, World.size_setCell, World.size_drew, size_drewN]); omega))); (try (have fw1_1 := fun o => hb.frozen (p := ⟨w.heap.size + 1, o, none⟩) (by (try simp only [World.size_alloc, World.size_setCell, World.size_drew, size_drewN]); omega))); have L1 := Lib.hid hL1; have L2 := Lib.hid hL2; have hb1 := hb; clear hL1 hL2)
    | (go_at_call 18; refine (HA'.out b1 b2 d1 d2 _ (L1.out.below (Joins.below_alloc1 w1 _) (Nat.le_refl _)) (L2.out.below (Joins.below_alloc1 w1 _) (Nat.le_refl _)) le1 le2 (by have := B2.out; (repeat' (first | (with_reducible exact Below.refl _ _) | (with_reducible assumption) | (with_reducible refine Below.alloc ?_ ?_ _) | (with_reducible refine Below.drew ?_) | (with_reducible refine below_drewN ?_) | (with_reducible refine Below.setCell ?_ ?_ _) | (with_reducible refine below_step ?_ ?_ (by with_reducible assumption)) | go_size)))).mono ?_; rintro e w2 ⟨⟨f1, f2, g1, g2, rfl, hM1, hM2⟩, hb⟩; have hz := hb.size; (try simp only [World.size_alloc, World.size_setCell, World.size_drew, size_drewN] at hz); (try (have zw2_0 : w.heap.size < w2.heap.size := (by omega))); (try (have cw2_0 := fun o => hb.cell (p := ⟨w.heap.size, o, none⟩) (by (try simp only [World.size_alloc, World.size_setCell, World.size_drew, size_drewN]); omega))); (try (have fw2_0 := fun o => hb.frozen (p := ⟨w.heap.size, o, none⟩) (by (try simp only [World.size_alloc, World.size_setCell, World.size_drew, size_drewN]); omega))); (try (have zw2_1 : w.heap.size + 1 < w2.heap.size := (by omega))); (try (have cw2_1 := fun o => hb.cell (p := ⟨w.heap.size + 1, o, none⟩) (by (try simp only [World.size_alloc, World.size_setCell, World.size_drew, size_drewN]); omega))); (try (have fw2_1 := fun o => hb.frozen (p := ⟨w.heap.size + 1, o, none⟩) (by (try simp only [World.size_alloc, World.size_setCell, World.size_drew, size_drewN]); omega))); (try (have zw2_2 : w1.heap.size < w2.heap.size := (by omega))); (try (have cw2_2 := fun o => hb.cell (p := ⟨w1.heap.size, o, none⟩) (by (try simp only [World.size_alloc, World.size_setCell, World.size_drew, size_drewN]); omega))); (try (have fw2_2 := fun o => hb.frozen (p := ⟨w1.heap.size, o, none⟩) (by (try simp only [World.size_alloc, World.size_setCell, World.size_drew, size_drewN]); omega))); have M1 := Lib.hid hM1; have M2 := Lib.hid hM2; have hb2 := hb; clear hM1 hM2)
    | (go_at_call 19; refine (HF'.out _ (by have := B2.out; (repeat' (first | (with_reducible exact Below.refl _ _) | (with_reducible assumption) | (with_reducible refine Below.alloc ?_ ?_ _) | (with_reducible refine Below.drew ?_) | (with_reducible refine below_drewN ?_) | (with_reducible refine Below.setCell ?_ ?_ _) | (with_reducible refine below_step ?_ ?_ (by with_reducible assumption)) | go_size)))).mono ?_; rintro e w3 ⟨⟨i1, i2, j1, j2, rfl, hN1, hN2⟩, hb⟩; have hz := hb.size; (try simp only [World.size_alloc, World.size_setCell, World.size_drew, size_drewN] at hz); (try (have zw3_0 : w.heap.size < w3.heap.size := (by omega))); (try (have cw3_0 := fun o => hb.cell (p := ⟨w.heap.size, o, none⟩) (by (try simp only [World.size_alloc, World.size_setCell, World.size_drew, size_drewN]); omega))); (try (have fw3_0 := fun o => hb.frozen (p := ⟨w.heap.size, o, none⟩) (by (try simp only [World.size_alloc, World.size_setCell, World.size_drew, size_drewN]); omega))); (try (have zw3_1 : w.heap.size + 1 < w3.heap.size := (by omega))); (try (have cw3_1 := fun o => hb.cell (p := ⟨w.heap.size + 1, o, none⟩) (by (try simp only [World.size_alloc, World.size_setCell, World.size_drew, size_drewN]); omega))); (try (have fw3_1 := fun o => hb.frozen (p := ⟨w.heap.size + 1, o, none⟩) (by (try simp only [World.size_alloc, World.size_setCell, World.size_drew, size_drewN]); omega))); (try (have zw3_2 : w1.heap.size < w3.heap.size := (by omega))); (try (have cw3_2 := fun o => hb.cell (p := ⟨w1.heap.size, o, none⟩) (by (try simp only [World.size_alloc, World.size_setCell, World.size_drew, size_drewN]); omega))); (try (have fw3_2 := fun o => hb.frozen (p := ⟨w1.heap.size, o, none⟩) (by (try simp only [World.size_alloc, World.size_setCell, World.size_drew, size_drewN]); omega))); (try (have zw3_3 : w2.heap.size < w3.heap.size := (by omega))); (try (have cw3_3 := fun o => hb.cell (p := ⟨w2.heap.size, o, none⟩) (by (try simp only [World.size_alloc, World.size_setCell, World.size_drew, size_drewN]); omega))); (try (have fw3_3 := fun o => hb.frozen (p := ⟨w2.heap.size, o, none⟩) (by (try simp only [World.size_alloc, World.size_setCell, World.size_drew, size_drewN]); omega))); have N1 := Lib.hid hN1; have N2 := Lib.hid hN2; have hb3 := hb; clear hN1 hN2))
  have z1 := hb1.size
  have z2 := hb2.size
  have z3 := hb3.size
  simp only [World.size_alloc] at z1 z2 z3
  have b0 := B2.out (.cells #[.slice a1 l1.length p1, .slice a2 l2.length p2] 30) (.cells #[.int .i64 xt, .string xs, .int .i64 xm] 36)
  go_wp2_with (first
    | (go_at_call 17; ((with_reducible refine (sameLocks_any f1 f2 i1 i2 r1 r2 g1 g2 j1 j2 _ (M1.out.below (B := w2.heap.size) (by (repeat' (first | (with_reducible exact Below.refl _ _) | (with_reducible assumption) | (with_reducible refine Below.alloc ?_ ?_ _) | (with_reducible refine Below.drew ?_) | (with_reducible refine below_drewN ?_) | (with_reducible refine Below.setCell ?_ ?_ _) | (with_reducible refine below_step ?_ ?_ (by with_reducible assumption)) | go_size))) (Nat.le_refl _)) (M2.out.below (B := w2.heap.size) (by (repeat' (first | (with_reducible exact Below.refl _ _) | (with_reducible assumption) | (with_reducible refine Below.alloc ?_ ?_ _) | (with_reducible refine Below.drew ?_) | (with_reducible refine below_drewN ?_) | (with_reducible refine Below.setCell ?_ ?_ _) | (with_reducible refine below_step ?_ ?_ (by with_reducible assumption)) | go_size))) (Nat.le_refl _)) (N1.out.below (B := w3.heap.size) (by (repeat' (first | (with_reducible exact Below.refl _ _) | (with_reducible assumption) | (with_reducible refine Below.alloc ?_ ?_ _) | (with_reducible refine Below.drew ?_) | (with_reducible refine below_drewN ?_) | (with_reducible refine Below.setCell ?_ ?_ _) | (with_reducible refine below_step ?_ ?_ (by with_reducible assumption)) | go_size))) (Nat.le_refl _)) (N2.out.below (B := w3.heap.size) (by (repeat' (first | (with_reducible exact Below.refl _ _) | (with_reducible assumption) | (with_reducible refine Below.alloc ?_ ?_ _) | (with_reducible refine Below.drew ?_) | (with_reducible refine below_drewN ?_) | (with_reducible refine Below.setCell ?_ ?_ _) | (with_reducible refine below_step ?_ ?_ (by with_reducible assumption)) | go_size))) (Nat.le_refl _)) (by omega) (by omega)).mono ?_); rintro e w5 ⟨rfl, hb5⟩; have z5 := hb5.size; (try simp only [World.size_alloc] at z5); have k5a := fun o => hb5.cell (p := ⟨w.heap.size, o, none⟩) (by (try simp only [World.size_alloc, World.size_setCell, World.size_drew, size_drewN]); omega); have k5b := fun o => hb5.cell (p := ⟨w1.heap.size, o, none⟩) (by (try simp only [World.size_alloc, World.size_setCell, World.size_drew, size_drewN]); omega)))
    | (go_at_call 17; ((with_reducible refine (sameLocks_any b1 b2 a1 a2 l1 l2 d1 d2 p1 p2 _ (L1.out.below (B := w1.heap.size) (by (repeat' (first | (with_reducible exact Below.refl _ _) | (with_reducible assumption) | (with_reducible refine Below.alloc ?_ ?_ _) | (with_reducible refine Below.drew ?_) | (with_reducible refine below_drewN ?_) | (with_reducible refine Below.setCell ?_ ?_ _) | (with_reducible refine below_step ?_ ?_ (by with_reducible assumption)) | go_size))) (Nat.le_refl _)) (L2.out.below (B := w1.heap.size) (by (repeat' (first | (with_reducible exact Below.refl _ _) | (with_reducible assumption) | (with_reducible refine Below.alloc ?_ ?_ _) | (with_reducible refine Below.drew ?_) | (with_reducible refine below_drewN ?_) | (with_reducible refine Below.setCell ?_ ?_ _) | (with_reducible refine below_step ?_ ?_ (by with_reducible assumption)) | go_size))) (Nat.le_refl _)) (H1.out.below (by (repeat' (first | (with_reducible exact Below.refl _ _) | (with_reducible assumption) | (with_reducible refine Below.alloc ?_ ?_ _) | (with_reducible refine Below.drew ?_) | (with_reducible refine below_drewN ?_) | (with_reducible refine Below.setCell ?_ ?_ _) | (with_reducible refine below_step ?_ ?_ (by with_reducible assumption)) | go_size))) (Nat.le_refl _)) (H2.out.below (by (repeat' (first | (with_reducible exact Below.refl _ _) | (with_reducible assumption) | (with_reducible refine Below.alloc ?_ ?_ _) | (with_reducible refine Below.drew ?_) | (with_reducible refine below_drewN ?_) | (with_reducible refine Below.setCell ?_ ?_ _) | (with_reducible refine below_step ?_ ?_ (by with_reducible assumption)) | go_size))) (Nat.le_refl _)) (by omega) (by omega)).mono ?_); rintro e w6 ⟨rfl, hb6⟩)))
  go_ret
  go_light
  exact ⟨rfl, by (repeat' (first | (with_reducible exact Below.refl _ _) | (with_reducible assumption) | (with_reducible refine Below.alloc ?_ ?_ _) | (with_reducible refine Below.drew ?_) | (with_reducible refine below_drewN ?_) | (with_reducible refine Below.setCell ?_ ?_ _) | (with_reducible refine below_step ?_ ?_ (by with_reducible assumption)) | go_size))⟩
end Go.Proofs.YtkehmidldcggcaaDoor
