/- The program's Ask. -/
import Derived.Test.YtkehmidldcggcaaDoorLt
import Derived.Test.YtkehmidldcggcaaDoorLv
set_option linter.unusedSimpArgs false
set_option linter.unusedVariables false
namespace Go.Proofs.YtkehmidldcggcaaDoor
open Go.RowKit Go.Joins
theorem entersA1 : ∀ args w, (callFunc 43 args).run Tryd.prog w = .ok (.enter 43 args) w := enters_of Tryd.func43 (by kernel_rfl) rfl
theorem ask1_pred (q : LK) (B : Nat) (l : List LK) (w : World) (hB : B < w.heap.size) (h1 : w.cell? ⟨B, 0, none⟩ = some (.int .i64 q.t)) :
    PredB 43 #[.pointer (some ⟨B, 0, none⟩)] (sameX q) l w := fun W hb x _ => by
  have c1 := (hb.cell (p := ⟨B, 0, none⟩) hB).trans h1
  have hz := hb.size
  have c1 := fun y => ((Joins.below_alloc1 W y).cell (p := ⟨B, 0, none⟩) (show B < W.heap.size from by omega)).trans c1
  obtain ⟨t, s, m⟩ := x
  obtain ⟨qt, qs, qm⟩ := q
  show Calls Tryd.prog 43 #[.agg #[.int .i64 t, .string s, .int .i64 m], .pointer (some ⟨B, 0, none⟩)] W _
  simp only at c1
  go_enter Tryd.func43, Tryd.ntmps43
  go_wp2
  all_goals (go_ret; exact ⟨by simp_all [sameX], hb.alloc hb.size _⟩)
set_option maxRecDepth 100000 in
set_option maxHeartbeats 4000000 in
theorem Ask_bad (a1 a2 : Option Addr) (l1 l2 : List LK) (p1 p2 : Nat) (x : LK) (w : World) (h1 : LksAt w a1 l1) (h2 : LksAt w a2 l2) (n1 : l1.length ≤ 1048576) (n2 : l2.length ≤ 1048576) (q1 : l1.length ≤ p1) (q2 : l2.length ≤ p2) (m1 : ∀ x ∈ l1, x.s.size ≤ maxLen) (m2 : ∀ x ∈ l2, x.s.size ≤ maxLen) (hx : x.s.size ≤ maxLen) (hT : TabFits w) (hJ : TabJoins w)
    (hbad : ¬(lockGood l1 l2 ∧ shapeM x = 0 ∧ l2.any (sameX x) = false)) :
    Calls Tryd.prog 18 #[.agg #[.slice a1 l1.length p1, .slice a2 l2.length p2], .agg #[.int .i64 x.t, .string x.s, .int .i64 x.m]] w (AskPost w (askM l1 l2 x)) := by
  have H1 := Lib.hid h1
  have H2 := Lib.hid h2
  have M1 := Lib.hid m1
  have M2 := Lib.hid m2
  have HT := Lib.hid hT
  have HJ := Lib.hid hJ
  have HX := Lib.hid hx
  have HB := Lib.hid hbad
  have B3 : Hid (∀ x y z, Below w.heap.size w (((w.alloc x).alloc y).alloc z)) := fun x y z => Joins.below_alloc3 w x y z
  clear h1 h2 m1 m2 hT hJ hx hbad
  have HCk := Lib.hid (fun x y z => check_any a1 a2 l1 l2 p1 p2 (((w.alloc x).alloc y).alloc z) (H1.out.below (B3.out x y z) (Nat.le_refl _)) (H2.out.below (B3.out x y z) (Nat.le_refl _)) n1 n2 q1 q2 M1.out M2.out (HT.out.below (B3.out x y z) HT.out.lt) (HJ.out.below (B3.out x y z) HJ.out.lt))
  by_cases hg : lockGood l1 l2
  · rw [chk_yes hg] at HCk
    have G := Lib.hid hg
    clear hg
    by_cases hs : shapeM x = 0
    · have hw : l2.any (sameX x) = true := by
        cases e : l2.any (sameX x)
        · exact absurd ⟨G.out, hs, e⟩ HB.out
        · rfl
      have AR := Lib.hid (ask_twice G.out hs hw)
      obtain ⟨xt, xs, xm⟩ := x
      have HS := fun w1 => shape_any ⟨xt, xs, xm⟩ w1 HX.out
      rw [hs] at HS
      have HS := Lib.hid HS
      have HCo := fun w1 (hb : Below w.heap.size w w1) B hB hc => containsFunc_any a2 l2 p2 43 #[.pointer (some ⟨B, 0, none⟩)] (sameX ⟨xt, xs, xm⟩) w1 entersA1 (H2.out.below hb (Nat.le_refl _)) (ask1_pred ⟨xt, xs, xm⟩ B l2 w1 hB hc) (by omega)
      rw [hw] at HCo
      have HCo := Lib.hid HCo
      clear hs hw
      go_enter Tryd.func18, Tryd.ntmps18
      go_wp2_with (first
        | (go_at_call 15; refine (HCk.out _ _ _).mono ?_; rintro e w1 ⟨rfl, hb⟩; have hz := hb.size; (try simp only [World.size_alloc, World.size_setCell, World.size_drew, size_drewN] at hz); (try (have zw1_0 : w.heap.size < w1.heap.size := (by omega))); (try (have cw1_0 := fun o => hb.cell (p := ⟨w.heap.size, o, none⟩) (by (try simp only [World.size_alloc, World.size_setCell, World.size_drew, size_drewN]); omega))); (try (have fw1_0 := fun o => hb.frozen (p := ⟨w.heap.size, o, none⟩) (by (try simp only [World.size_alloc, World.size_setCell, World.size_drew, size_drewN]); omega))); (try (have zw1_1 : w.heap.size + 1 < w1.heap.size := (by omega))); (try (have cw1_1 := fun o => hb.cell (p := ⟨w.heap.size + 1, o, none⟩) (by (try simp only [World.size_alloc, World.size_setCell, World.size_drew, size_drewN]); omega))); (try (have fw1_1 := fun o => hb.frozen (p := ⟨w.heap.size + 1, o, none⟩) (by (try simp only [World.size_alloc, World.size_setCell, World.size_drew, size_drewN]); omega))); (try (have zw1_2 : w.heap.size + 1 + 1 < w1.heap.size := (by omega))); (try (have cw1_2 := fun o => hb.cell (p := ⟨w.heap.size + 1 + 1, o, none⟩) (by (try simp only [World.size_alloc, World.size_setCell, World.size_drew, size_drewN]); omega))); (try (have fw1_2 := fun o => hb.frozen (p := ⟨w.heap.size + 1 + 1, o, none⟩) (by (try simp only [World.size_alloc, World.size_setCell, World.size_drew, size_drewN]); omega))); have hb1 := hb)
        | (go_at_call 34; refine (HS.out _).mono ?_; rintro e w2 ⟨rfl, hb⟩; have hz := hb.size; (try simp only [World.size_alloc, World.size_setCell, World.size_drew, size_drewN] at hz); (try (have zw2_0 : w.heap.size < w2.heap.size := (by omega))); (try (have cw2_0 := fun o => hb.cell (p := ⟨w.heap.size, o, none⟩) (by (try simp only [World.size_alloc, World.size_setCell, World.size_drew, size_drewN]); omega))); (try (have fw2_0 := fun o => hb.frozen (p := ⟨w.heap.size, o, none⟩) (by (try simp only [World.size_alloc, World.size_setCell, World.size_drew, size_drewN]); omega))); (try (have zw2_1 : w.heap.size + 1 < w2.heap.size := (by omega))); (try (have cw2_1 := fun o => hb.cell (p := ⟨w.heap.size + 1, o, none⟩) (by (try simp only [World.size_alloc, World.size_setCell, World.size_drew, size_drewN]); omega))); (try (have fw2_1 := fun o => hb.frozen (p := ⟨w.heap.size + 1, o, none⟩) (by (try simp only [World.size_alloc, World.size_setCell, World.size_drew, size_drewN]); omega))); (try (have zw2_2 : w.heap.size + 1 + 1 < w2.heap.size := (by omega))); (try (have cw2_2 := fun o => hb.cell (p := ⟨w.heap.size + 1 + 1, o, none⟩) (by (try simp only [World.size_alloc, World.size_setCell, World.size_drew, size_drewN]); omega))); (try (have fw2_2 := fun o => hb.frozen (p := ⟨w.heap.size + 1 + 1, o, none⟩) (by (try simp only [World.size_alloc, World.size_setCell, World.size_drew, size_drewN]); omega))); have hb2 := hb)
        | (go_at_call 32; refine (HCo.out _ (by have := B3.out; (repeat' (first | (with_reducible exact Below.refl _ _) | (with_reducible assumption) | (with_reducible refine Below.alloc ?_ ?_ _) | (with_reducible refine Below.drew ?_) | (with_reducible refine below_drewN ?_) | (with_reducible refine Below.setCell ?_ ?_ _) | (with_reducible refine below_step ?_ ?_ (by with_reducible assumption)) | go_size))) (w.heap.size + 1) (by omega) (by go_simp)).mono ?_; rintro e w3 ⟨rfl, hb⟩; have hz := hb.size; (try simp only [World.size_alloc, World.size_setCell, World.size_drew, size_drewN] at hz); (try (have zw3_0 : w.heap.size < w3.heap.size := (by omega))); (try (have cw3_0 := fun o => hb.cell (p := ⟨w.heap.size, o, none⟩) (by (try simp only [World.size_alloc, World.size_setCell, World.size_drew, size_drewN]); omega))); (try (have fw3_0 := fun o => hb.frozen (p := ⟨w.heap.size, o, none⟩) (by (try simp only [World.size_alloc, World.size_setCell, World.size_drew, size_drewN]); omega))); (try (have zw3_1 : w.heap.size + 1 < w3.heap.size := (by omega))); (try (have cw3_1 := fun o => hb.cell (p := ⟨w.heap.size + 1, o, none⟩) (by (try simp only [World.size_alloc, World.size_setCell, World.size_drew, size_drewN]); omega))); (try (have fw3_1 := fun o => hb.frozen (p := ⟨w.heap.size + 1, o, none⟩) (by (try simp only [World.size_alloc, World.size_setCell, World.size_drew, size_drewN]); omega))); (try (have zw3_2 : w.heap.size + 1 + 1 < w3.heap.size := (by omega))); (try (have cw3_2 := fun o => hb.cell (p := ⟨w.heap.size + 1 + 1, o, none⟩) (by (try simp only [World.size_alloc, World.size_setCell, World.size_drew, size_drewN]); omega))); (try (have fw3_2 := fun o => hb.frozen (p := ⟨w.heap.size + 1 + 1, o, none⟩) (by (try simp only [World.size_alloc, World.size_setCell, World.size_drew, size_drewN]); omega))); have hb3 := hb))
      ((try simp only [Exit.inBlock, Exit.then]); go_light; refine bodyPost_ret (by simp [results, Tryd.results18, go_sem, *]; try rfl) rfl ?_)
      rw [AR.out]
      exact ⟨⟨none, none, 0, 0, rfl, .inl rfl, .inl rfl⟩, by have := B3.out; (repeat' (first | (with_reducible exact Below.refl _ _) | (with_reducible assumption) | (with_reducible refine Below.alloc ?_ ?_ _) | (with_reducible refine Below.drew ?_) | (with_reducible refine below_drewN ?_) | (with_reducible refine Below.setCell ?_ ?_ _) | (with_reducible refine below_step ?_ ?_ (by with_reducible assumption)) | go_size))⟩
    · have AR := Lib.hid (ask_shape G.out hs)
      obtain ⟨xt, xs, xm⟩ := x
      have e1' : (shapeM ⟨xt, xs, xm⟩ != 0) = true := by simpa using hs
      have HS := Lib.hid (fun w1 => shape_any ⟨xt, xs, xm⟩ w1 HX.out)
      clear hs
      go_enter Tryd.func18, Tryd.ntmps18
      go_wp2_with (first
        | (go_at_call 15; refine (HCk.out _ _ _).mono ?_; rintro e w1 ⟨rfl, hb⟩; have hz := hb.size; (try simp only [World.size_alloc, World.size_setCell, World.size_drew, size_drewN] at hz); (try (have zw1_0 : w.heap.size < w1.heap.size := (by omega))); (try (have cw1_0 := fun o => hb.cell (p := ⟨w.heap.size, o, none⟩) (by (try simp only [World.size_alloc, World.size_setCell, World.size_drew, size_drewN]); omega))); (try (have fw1_0 := fun o => hb.frozen (p := ⟨w.heap.size, o, none⟩) (by (try simp only [World.size_alloc, World.size_setCell, World.size_drew, size_drewN]); omega))); (try (have zw1_1 : w.heap.size + 1 < w1.heap.size := (by omega))); (try (have cw1_1 := fun o => hb.cell (p := ⟨w.heap.size + 1, o, none⟩) (by (try simp only [World.size_alloc, World.size_setCell, World.size_drew, size_drewN]); omega))); (try (have fw1_1 := fun o => hb.frozen (p := ⟨w.heap.size + 1, o, none⟩) (by (try simp only [World.size_alloc, World.size_setCell, World.size_drew, size_drewN]); omega))); (try (have zw1_2 : w.heap.size + 1 + 1 < w1.heap.size := (by omega))); (try (have cw1_2 := fun o => hb.cell (p := ⟨w.heap.size + 1 + 1, o, none⟩) (by (try simp only [World.size_alloc, World.size_setCell, World.size_drew, size_drewN]); omega))); (try (have fw1_2 := fun o => hb.frozen (p := ⟨w.heap.size + 1 + 1, o, none⟩) (by (try simp only [World.size_alloc, World.size_setCell, World.size_drew, size_drewN]); omega))); have hb1 := hb)
        | (go_at_call 34; refine (HS.out _).mono ?_; rintro e w2 ⟨rfl, hb⟩; have hz := hb.size; (try simp only [World.size_alloc, World.size_setCell, World.size_drew, size_drewN] at hz); (try (have zw2_0 : w.heap.size < w2.heap.size := (by omega))); (try (have cw2_0 := fun o => hb.cell (p := ⟨w.heap.size, o, none⟩) (by (try simp only [World.size_alloc, World.size_setCell, World.size_drew, size_drewN]); omega))); (try (have fw2_0 := fun o => hb.frozen (p := ⟨w.heap.size, o, none⟩) (by (try simp only [World.size_alloc, World.size_setCell, World.size_drew, size_drewN]); omega))); (try (have zw2_1 : w.heap.size + 1 < w2.heap.size := (by omega))); (try (have cw2_1 := fun o => hb.cell (p := ⟨w.heap.size + 1, o, none⟩) (by (try simp only [World.size_alloc, World.size_setCell, World.size_drew, size_drewN]); omega))); (try (have fw2_1 := fun o => hb.frozen (p := ⟨w.heap.size + 1, o, none⟩) (by (try simp only [World.size_alloc, World.size_setCell, World.size_drew, size_drewN]); omega))); (try (have zw2_2 : w.heap.size + 1 + 1 < w2.heap.size := (by omega))); (try (have cw2_2 := fun o => hb.cell (p := ⟨w.heap.size + 1 + 1, o, none⟩) (by (try simp only [World.size_alloc, World.size_setCell, World.size_drew, size_drewN]); omega))); (try (have fw2_2 := fun o => hb.frozen (p := ⟨w.heap.size + 1 + 1, o, none⟩) (by (try simp only [World.size_alloc, World.size_setCell, World.size_drew, size_drewN]); omega))); have hb2 := hb))
      ((try simp only [Exit.inBlock, Exit.then]); go_light; refine bodyPost_ret (by simp [results, Tryd.results18, go_sem, *]; try rfl) rfl ?_)
      rw [AR.out]
      exact ⟨⟨none, none, 0, 0, rfl, .inl rfl, .inl rfl⟩, by have := B3.out; (repeat' (first | (with_reducible exact Below.refl _ _) | (with_reducible assumption) | (with_reducible refine Below.alloc ?_ ?_ _) | (with_reducible refine Below.drew ?_) | (with_reducible refine below_drewN ?_) | (with_reducible refine Below.setCell ?_ ?_ _) | (with_reducible refine below_step ?_ ?_ (by with_reducible assumption)) | go_size))⟩
  · rw [chk_no hg] at HCk
    have AR := Lib.hid (ask_bad (x := x) hg)
    clear hg
    obtain ⟨xt, xs, xm⟩ := x
    go_enter Tryd.func18, Tryd.ntmps18
    go_wp2_with (go_at_call 15; refine (HCk.out _ _ _).mono ?_; rintro e w1 ⟨rfl, hb⟩; have hz := hb.size; (try simp only [World.size_alloc, World.size_setCell, World.size_drew, size_drewN] at hz); (try (have zw1_0 : w.heap.size < w1.heap.size := (by omega))); (try (have cw1_0 := fun o => hb.cell (p := ⟨w.heap.size, o, none⟩) (by (try simp only [World.size_alloc, World.size_setCell, World.size_drew, size_drewN]); omega))); (try (have fw1_0 := fun o => hb.frozen (p := ⟨w.heap.size, o, none⟩) (by (try simp only [World.size_alloc, World.size_setCell, World.size_drew, size_drewN]); omega))); (try (have zw1_1 : w.heap.size + 1 < w1.heap.size := (by omega))); (try (have cw1_1 := fun o => hb.cell (p := ⟨w.heap.size + 1, o, none⟩) (by (try simp only [World.size_alloc, World.size_setCell, World.size_drew, size_drewN]); omega))); (try (have fw1_1 := fun o => hb.frozen (p := ⟨w.heap.size + 1, o, none⟩) (by (try simp only [World.size_alloc, World.size_setCell, World.size_drew, size_drewN]); omega))); (try (have zw1_2 : w.heap.size + 1 + 1 < w1.heap.size := (by omega))); (try (have cw1_2 := fun o => hb.cell (p := ⟨w.heap.size + 1 + 1, o, none⟩) (by (try simp only [World.size_alloc, World.size_setCell, World.size_drew, size_drewN]); omega))); (try (have fw1_2 := fun o => hb.frozen (p := ⟨w.heap.size + 1 + 1, o, none⟩) (by (try simp only [World.size_alloc, World.size_setCell, World.size_drew, size_drewN]); omega))))
    ((try simp only [Exit.inBlock, Exit.then]); go_light; refine bodyPost_ret (by simp [results, Tryd.results18, go_sem, *]; try rfl) rfl ?_)
    rw [AR.out]
    exact ⟨⟨none, none, 0, 0, rfl, .inl rfl, .inl rfl⟩, by have := B3.out; (repeat' (first | (with_reducible exact Below.refl _ _) | (with_reducible assumption) | (with_reducible refine Below.alloc ?_ ?_ _) | (with_reducible refine Below.drew ?_) | (with_reducible refine below_drewN ?_) | (with_reducible refine Below.setCell ?_ ?_ _) | (with_reducible refine below_step ?_ ?_ (by with_reducible assumption)) | go_size))⟩
end Go.Proofs.YtkehmidldcggcaaDoor
