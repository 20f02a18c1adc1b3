/- The program's first; the closures of Check. -/
import Derived.Test.YtkehmidldcggcaaDoorLp
import Derived.Outline
set_option linter.unusedSimpArgs false
set_option linter.unusedVariables false
namespace Go.Proofs.YtkehmidldcggcaaDoor
open Go.RowKit Go.Joins
theorem entersF1 : ∀ args w, (callFunc 59 args).run Tryd.prog w = .ok (.enter 59 args) w := enters_of Tryd.func59 (by kernel_rfl) rfl
theorem entersC1 : ∀ args w, (callFunc 33 args).run Tryd.prog w = .ok (.enter 33 args) w := enters_of Tryd.func33 (by kernel_rfl) rfl
theorem entersC2 : ∀ args w, (callFunc 37 args).run Tryd.prog w = .ok (.enter 37 args) w := enters_of Tryd.func37 (by kernel_rfl) rfl
theorem first1_pred (q : LK) (B : Nat) (l : List LK) (w : World) (hB : B < w.heap.size) (h1 : w.cell? ⟨B, 1, none⟩ = some (.string q.s)) :
    PredB 59 #[.pointer (some ⟨B, 0, none⟩)] (sameT q) l w := fun W hb x _ => by
  have c1 := (hb.cell (p := ⟨B, 1, none⟩) hB).trans h1
  have hz := hb.size
  have c1 := fun y => ((Joins.below_alloc1 W y).cell (p := ⟨B, 1, none⟩) (show B < W.heap.size from by omega)).trans c1
  obtain ⟨t, s, m⟩ := x
  obtain ⟨qt, qs, qm⟩ := q
  show Calls Tryd.prog 59 #[.agg #[.int .i64 t, .string s, .int .i64 m], .pointer (some ⟨B, 0, none⟩)] W _
  simp only at c1
  go_enter Tryd.func59, Tryd.ntmps59
  go_wp2
  all_goals (go_ret; exact ⟨by simp_all [sameT], hb.alloc hb.size _⟩)
theorem check2_pred (q : LK) (B : Nat) (l : List LK) (w : World) (hB : B < w.heap.size) (h1 : w.cell? ⟨B, 0, none⟩ = some (.int .i64 q.t)) :
    PredB 37 #[.pointer (some ⟨B, 0, none⟩)] (sameX q) l w := fun W hb x _ => by
  have c1 := (hb.cell (p := ⟨B, 0, none⟩) hB).trans h1
  have hz := hb.size
  have c1 := fun y => ((Joins.below_alloc1 W y).cell (p := ⟨B, 0, none⟩) (show B < W.heap.size from by omega)).trans c1
  obtain ⟨t, s, m⟩ := x
  obtain ⟨qt, qs, qm⟩ := q
  show Calls Tryd.prog 37 #[.agg #[.int .i64 t, .string s, .int .i64 m], .pointer (some ⟨B, 0, none⟩)] W _
  simp only at c1
  go_enter Tryd.func37, Tryd.ntmps37
  go_wp2
  all_goals (go_ret; exact ⟨by simp_all [sameX], hb.alloc hb.size _⟩)
theorem check1_pred (l : List LK) (w : World) (hm : ∀ x ∈ l, x.s.size ≤ maxLen) : PredB 33 #[] (fun x => shapeM x != 0) l w := fun W hb x hx => by
  have hs := hm x hx
  obtain ⟨t, s, m⟩ := x
  show Calls Tryd.prog 33 #[.agg #[.int .i64 t, .string s, .int .i64 m]] W _
  have hz := hb.size
  clear hx hm
  simp only at hs
  go_enter Tryd.func33, Tryd.ntmps33
  go_wp2_with (go_at_call 34; refine (shape_any ⟨t, s, m⟩ _ hs).mono ?_; rintro e w' ⟨rfl, hb'⟩)
  go_ret
  exact ⟨rfl, by (repeat' (first | (with_reducible exact Below.refl _ _) | (with_reducible assumption) | (with_reducible refine Below.alloc ?_ ?_ _) | (with_reducible refine Below.drew ?_) | (with_reducible refine below_drewN ?_) | (with_reducible refine Below.setCell ?_ ?_ _) | (with_reducible refine below_step ?_ ?_ (by with_reducible assumption)) | go_size))⟩
theorem containsFunc_at (a : Option Addr) (l : List LK) (n cap : Nat) (g : FuncId) (lb : Array Value) (p : LK → Bool) (w : World) (eg : ∀ args w, (callFunc g args).run Tryd.prog w = .ok (.enter g args) w)
    (hln : l.length = n) (hl : LksAt w a l) (hp : PredB g lb p l w) (hn : n ≤ 9223372036854775807) :
    Calls Tryd.prog 32 #[.slice a n cap, .func (.func g) #[] lb] w fun e w' => e = .returned (.bool (l.any p)) ∧ Below w.heap.size w w' := by
  subst hln; exact containsFunc_any a l cap g lb p w eg hl hp hn
set_option maxRecDepth 100000 in
set_option maxHeartbeats 2000000 in
theorem first_any (a1 a2 : Option Addr) (l1 l2 : List LK) (p1 p2 : Nat) (i : Nat) (q : LK) (w : World) (h1 : LksAt w a1 l1) (h2 : LksAt w a2 l2) (n1 : l1.length ≤ 2097152) (n2 : l2.length ≤ 2097152) (q2 : l2.length ≤ p2)
    (hT : TabFits w) (hi : l2[i]? = some q) (hq : modeB q.m = true) (hm : ∀ y ∈ l1, modeB y.m = true) :
    Calls Tryd.prog 38 #[.agg #[.slice a1 l1.length p1, .slice a2 l2.length p2], .int .i64 i] w fun e w' => e = .returned (.bool (firstM l1 l2 i q)) ∧ Below w.heap.size w w' := by
  have hil : i < l2.length := (List.getElem?_eq_some_iff.1 hi).1
  obtain ⟨b, o, rfl, hb, r0, r1, r2⟩ := h2.at hi
  have H1 := Lib.hid h1
  have H2 := Lib.hid h2
  have QI := Lib.hid hi
  have HQ := Lib.hid hq
  have HM := Lib.hid hm
  have HT := Lib.hid hT
  obtain ⟨qt, qs, qm⟩ := q
  simp only at r0 r1 r2
  have i3 : (0 : Int) ≤ (i : Int) := by omega
  have i4 : (i : Int) < (l2.length : Int) := by omega
  have i5 : (i : Int) ≤ (p2 : Int) := by omega
  have r0 := fun x => ((Joins.below_alloc1 w x).cell (p := ⟨b, o + i * 3, none⟩) hb).trans r0
  have r1 := fun x => ((Joins.below_alloc1 w x).cell (p := ⟨b, o + i * 3 + 1, none⟩) hb).trans r1
  have r2 := fun x => ((Joins.below_alloc1 w x).cell (p := ⟨b, o + i * 3 + 2, none⟩) hb).trans r2
  have KL : Hid ((l2.take i).length = i) := Lib.hid (by rw [List.length_take]; omega)
  have B2 : Hid (∀ x y, Below w.heap.size w ((w.alloc x).alloc y)) := fun x y => Joins.below_alloc2 w x y
  clear h1 h2 hi hq hm hT
  have EF : Hid (firstM l1 l2 i ⟨qt, qs, qm⟩ = (!l1.any (agK ⟨qt, qs, qm⟩) && (decide (0 ≤ findM qt qs l1) || !(l2.take i).any (sameT ⟨qt, qs, qm⟩)))) := Lib.hid rfl
  have HF := fun w1 (hb : Below w.heap.size w w1) => free_any a1 l1 p1 ⟨qt, qs, qm⟩ w1 (H1.out.below hb (Nat.le_refl _)) (by omega) (HT.out.below hb HT.out.lt) HQ.out HM.out
  have HF := Lib.hid HF
  cases e1 : l1.any (agK ⟨qt, qs, qm⟩)
  · rw [e1] at HF
    by_cases e2 : 0 ≤ findM qt qs l1
    · have e2' : decide ((0 : Int) ≤ findM qt qs l1) = true := by simpa using e2
      have HR : Hid (firstM l1 l2 i ⟨qt, qs, qm⟩ = true) := Lib.hid (by rw [EF.out, e1, e2']; rfl)
      clear e1
      go_enter Tryd.func38, Tryd.ntmps38
      go_wp2_with (first | (go_at_call 36; refine (HF.out _ (B2.out _ _)).mono ?_; rintro e w1 ⟨rfl, hb⟩; have hz := hb.size; (try simp only [World.size_alloc, World.size_setCell, World.size_drew, size_drewN] at hz); (try (have zw1_0 : w.heap.size < w1.heap.size := (by omega))); (try (have cw1_0 := fun o => hb.cell (p := ⟨w.heap.size, o, none⟩) (by (try simp only [World.size_alloc, World.size_setCell, World.size_drew, size_drewN]); omega))); (try (have fw1_0 := fun o => hb.frozen (p := ⟨w.heap.size, o, none⟩) (by (try simp only [World.size_alloc, World.size_setCell, World.size_drew, size_drewN]); omega))); (try (have zw1_1 : w.heap.size + 1 < w1.heap.size := (by omega))); (try (have cw1_1 := fun o => hb.cell (p := ⟨w.heap.size + 1, o, none⟩) (by (try simp only [World.size_alloc, World.size_setCell, World.size_drew, size_drewN]); omega))); (try (have fw1_1 := fun o => hb.frozen (p := ⟨w.heap.size + 1, o, none⟩) (by (try simp only [World.size_alloc, World.size_setCell, World.size_drew, size_drewN]); omega)))) | (go_at_call 35; refine (find_any a1 l1 p1 qt qs _ (H1.out.below (by have := B2.out; (repeat' (first | (with_reducible exact Below.refl _ _) | (with_reducible assumption) | (with_reducible refine Below.alloc ?_ ?_ _) | (with_reducible refine Below.drew ?_) | (with_reducible refine below_drewN ?_) | (with_reducible refine Below.setCell ?_ ?_ _) | (with_reducible refine below_step ?_ ?_ (by with_reducible assumption)) | go_size))) (Nat.le_refl _)) (by omega)).mono ?_; rintro e w2 ⟨rfl, hb⟩; have hz := hb.size; (try simp only [World.size_alloc, World.size_setCell, World.size_drew, size_drewN] at hz); (try (have zw2_0 : w.heap.size < w2.heap.size := (by omega))); (try (have cw2_0 := fun o => hb.cell (p := ⟨w.heap.size, o, none⟩) (by (try simp only [World.size_alloc, World.size_setCell, World.size_drew, size_drewN]); omega))); (try (have fw2_0 := fun o => hb.frozen (p := ⟨w.heap.size, o, none⟩) (by (try simp only [World.size_alloc, World.size_setCell, World.size_drew, size_drewN]); omega))); (try (have zw2_1 : w.heap.size + 1 < w2.heap.size := (by omega))); (try (have cw2_1 := fun o => hb.cell (p := ⟨w.heap.size + 1, o, none⟩) (by (try simp only [World.size_alloc, World.size_setCell, World.size_drew, size_drewN]); omega))); (try (have fw2_1 := fun o => hb.frozen (p := ⟨w.heap.size + 1, o, none⟩) (by (try simp only [World.size_alloc, World.size_setCell, World.size_drew, size_drewN]); omega)))))
      go_ret
      go_light
      exact ⟨by rw [HR.out]; rfl, by have := B2.out; (repeat' (first | (with_reducible exact Below.refl _ _) | (with_reducible assumption) | (with_reducible refine Below.alloc ?_ ?_ _) | (with_reducible refine Below.drew ?_) | (with_reducible refine below_drewN ?_) | (with_reducible refine Below.setCell ?_ ?_ _) | (with_reducible refine below_step ?_ ?_ (by with_reducible assumption)) | go_size))⟩
    · have e2' : decide ((0 : Int) ≤ findM qt qs l1) = false := by simpa using e2
      have HR : Hid (firstM l1 l2 i ⟨qt, qs, qm⟩ = !(l2.take i).any (sameT ⟨qt, qs, qm⟩)) := Lib.hid (by rw [EF.out, e1, e2']; rfl)
      clear e1
      go_enter Tryd.func38, Tryd.ntmps38
      go_wp2_with (first | (go_at_call 36; refine (HF.out _ (B2.out _ _)).mono ?_; rintro e w1 ⟨rfl, hb⟩; have hz := hb.size; (try simp only [World.size_alloc, World.size_setCell, World.size_drew, size_drewN] at hz); (try (have zw1_0 : w.heap.size < w1.heap.size := (by omega))); (try (have cw1_0 := fun o => hb.cell (p := ⟨w.heap.size, o, none⟩) (by (try simp only [World.size_alloc, World.size_setCell, World.size_drew, size_drewN]); omega))); (try (have fw1_0 := fun o => hb.frozen (p := ⟨w.heap.size, o, none⟩) (by (try simp only [World.size_alloc, World.size_setCell, World.size_drew, size_drewN]); omega))); (try (have zw1_1 : w.heap.size + 1 < w1.heap.size := (by omega))); (try (have cw1_1 := fun o => hb.cell (p := ⟨w.heap.size + 1, o, none⟩) (by (try simp only [World.size_alloc, World.size_setCell, World.size_drew, size_drewN]); omega))); (try (have fw1_1 := fun o => hb.frozen (p := ⟨w.heap.size + 1, o, none⟩) (by (try simp only [World.size_alloc, World.size_setCell, World.size_drew, size_drewN]); omega)))) | (go_at_call 35; refine (find_any a1 l1 p1 qt qs _ (H1.out.below (by have := B2.out; (repeat' (first | (with_reducible exact Below.refl _ _) | (with_reducible assumption) | (with_reducible refine Below.alloc ?_ ?_ _) | (with_reducible refine Below.drew ?_) | (with_reducible refine below_drewN ?_) | (with_reducible refine Below.setCell ?_ ?_ _) | (with_reducible refine below_step ?_ ?_ (by with_reducible assumption)) | go_size))) (Nat.le_refl _)) (by omega)).mono ?_; rintro e w2 ⟨rfl, hb⟩; have hz := hb.size; (try simp only [World.size_alloc, World.size_setCell, World.size_drew, size_drewN] at hz); (try (have zw2_0 : w.heap.size < w2.heap.size := (by omega))); (try (have cw2_0 := fun o => hb.cell (p := ⟨w.heap.size, o, none⟩) (by (try simp only [World.size_alloc, World.size_setCell, World.size_drew, size_drewN]); omega))); (try (have fw2_0 := fun o => hb.frozen (p := ⟨w.heap.size, o, none⟩) (by (try simp only [World.size_alloc, World.size_setCell, World.size_drew, size_drewN]); omega))); (try (have zw2_1 : w.heap.size + 1 < w2.heap.size := (by omega))); (try (have cw2_1 := fun o => hb.cell (p := ⟨w.heap.size + 1, o, none⟩) (by (try simp only [World.size_alloc, World.size_setCell, World.size_drew, size_drewN]); omega))); (try (have fw2_1 := fun o => hb.frozen (p := ⟨w.heap.size + 1, o, none⟩) (by (try simp only [World.size_alloc, World.size_setCell, World.size_drew, size_drewN]); omega)))) | (go_at_call 32; refine (containsFunc_at _ (l2.take i) i p2 59 _ (sameT ⟨qt, qs, qm⟩) _ entersF1 KL.out ((H2.out.below (by have := B2.out; (repeat' (first | (with_reducible exact Below.refl _ _) | (with_reducible assumption) | (with_reducible refine Below.alloc ?_ ?_ _) | (with_reducible refine Below.drew ?_) | (with_reducible refine below_drewN ?_) | (with_reducible refine Below.setCell ?_ ?_ _) | (with_reducible refine below_step ?_ ?_ (by with_reducible assumption)) | go_size))) (Nat.le_refl _)).take i) (first1_pred ⟨qt, qs, qm⟩ (w.heap.size + 1) _ _ (by omega) (by go_simp)) (by omega)).mono ?_; rintro e w3 ⟨rfl, hb⟩; have hz := hb.size; (try simp only [World.size_alloc, World.size_setCell, World.size_drew, size_drewN] at hz); (try (have zw3_0 : w.heap.size < w3.heap.size := (by omega))); (try (have cw3_0 := fun o => hb.cell (p := ⟨w.heap.size, o, none⟩) (by (try simp only [World.size_alloc, World.size_setCell, World.size_drew, size_drewN]); omega))); (try (have fw3_0 := fun o => hb.frozen (p := ⟨w.heap.size, o, none⟩) (by (try simp only [World.size_alloc, World.size_setCell, World.size_drew, size_drewN]); omega))); (try (have zw3_1 : w.heap.size + 1 < w3.heap.size := (by omega))); (try (have cw3_1 := fun o => hb.cell (p := ⟨w.heap.size + 1, o, none⟩) (by (try simp only [World.size_alloc, World.size_setCell, World.size_drew, size_drewN]); omega))); (try (have fw3_1 := fun o => hb.frozen (p := ⟨w.heap.size + 1, o, none⟩) (by (try simp only [World.size_alloc, World.size_setCell, World.size_drew, size_drewN]); omega)))))
      go_ret
      go_light
      exact ⟨by rw [HR.out]; rfl, by have := B2.out; (repeat' (first | (with_reducible exact Below.refl _ _) | (with_reducible assumption) | (with_reducible refine Below.alloc ?_ ?_ _) | (with_reducible refine Below.drew ?_) | (with_reducible refine below_drewN ?_) | (with_reducible refine Below.setCell ?_ ?_ _) | (with_reducible refine below_step ?_ ?_ (by with_reducible assumption)) | go_size))⟩
  · rw [e1] at HF
    have HR : Hid (firstM l1 l2 i ⟨qt, qs, qm⟩ = false) := Lib.hid (by rw [EF.out, e1]; rfl)
    clear e1
    go_enter Tryd.func38, Tryd.ntmps38
    go_wp2_with (go_at_call 36; refine (HF.out _ (B2.out _ _)).mono ?_; rintro e w1 ⟨rfl, hb⟩; have hz := hb.size; (try simp only [World.size_alloc, World.size_setCell, World.size_drew, size_drewN] at hz); (try (have zw1_0 : w.heap.size < w1.heap.size := (by omega))); (try (have cw1_0 := fun o => hb.cell (p := ⟨w.heap.size, o, none⟩) (by (try simp only [World.size_alloc, World.size_setCell, World.size_drew, size_drewN]); omega))); (try (have fw1_0 := fun o => hb.frozen (p := ⟨w.heap.size, o, none⟩) (by (try simp only [World.size_alloc, World.size_setCell, World.size_drew, size_drewN]); omega))); (try (have zw1_1 : w.heap.size + 1 < w1.heap.size := (by omega))); (try (have cw1_1 := fun o => hb.cell (p := ⟨w.heap.size + 1, o, none⟩) (by (try simp only [World.size_alloc, World.size_setCell, World.size_drew, size_drewN]); omega))); (try (have fw1_1 := fun o => hb.frozen (p := ⟨w.heap.size + 1, o, none⟩) (by (try simp only [World.size_alloc, World.size_setCell, World.size_drew, size_drewN]); omega))))
    go_ret
    go_light
    exact ⟨by rw [HR.out]; rfl, by have := B2.out; (repeat' (first | (with_reducible exact Below.refl _ _) | (with_reducible assumption) | (with_reducible refine Below.alloc ?_ ?_ _) | (with_reducible refine Below.drew ?_) | (with_reducible refine below_drewN ?_) | (with_reducible refine Below.setCell ?_ ?_ _) | (with_reducible refine below_step ?_ ?_ (by with_reducible assumption)) | go_size))⟩
theorem first_at (a1 a2 : Option Addr) (l1 l2 : List LK) (m1 m2 p1 p2 : Nat) (i : Nat) (q : LK) (w : World) (e1 : l1.length = m1) (e2 : l2.length = m2) (h1 : LksAt w a1 l1) (h2 : LksAt w a2 l2) (n1 : m1 ≤ 2097152) (n2 : m2 ≤ 2097152) (q2 : m2 ≤ p2)
    (hT : TabFits w) (hi : l2[i]? = some q) (hq : modeB q.m = true) (hm : ∀ y ∈ l1, modeB y.m = true) :
    Calls Tryd.prog 38 #[.agg #[.slice a1 m1 p1, .slice a2 m2 p2], .int .i64 i] w fun e w' => e = .returned (.bool (firstM l1 l2 i q)) ∧ Below w.heap.size w w' := by
  subst e1; subst e2; exact first_any a1 a2 l1 l2 p1 p2 i q w h1 h2 n1 n2 q2 hT hi hq hm
end Go.Proofs.YtkehmidldcggcaaDoor
