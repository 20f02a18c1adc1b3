/- The program's Check of lock states. -/
import Derived.Test.YtkehmidldcggcaaDoorLl
set_option linter.unusedSimpArgs false
set_option linter.unusedVariables false
namespace Go.Proofs.YtkehmidldcggcaaDoor
open Go.RowKit Go.Joins
set_option maxRecDepth 100000 in
set_option maxHeartbeats 4000000 in
theorem check_any (a1 a2 : Option Addr) (l1 l2 : List LK) (p1 p2 : Nat) (w : World) (h1 : LksAt w a1 l1) (h2 : LksAt w a2 l2) (n1 : l1.length ≤ 1048576) (n2 : l2.length ≤ 1048576) (q1 : l1.length ≤ p1) (q2 : l2.length ≤ p2) (m1 : ∀ x ∈ l1, x.s.size ≤ maxLen) (m2 : ∀ x ∈ l2, x.s.size ≤ maxLen) (hT : TabFits w) (hJ : TabJoins w) :
    Calls Tryd.prog 15 #[.agg #[.slice a1 l1.length p1, .slice a2 l2.length p2]] w fun e w' => e = .returned (.int .i64 (chkM l1 l2)) ∧ Below w.heap.size w w' := by
  have H1 := Lib.hid h1
  have H2 := Lib.hid h2
  have M1 := Lib.hid m1
  have M2 := Lib.hid m2
  have HT := Lib.hid hT
  have HJ := Lib.hid hJ
  clear h1 h2 m1 m2 hT hJ
  by_cases hs : 200 < l1.length + l2.length
  · go_enter Tryd.func15, Tryd.ntmps15
    go_wp2
    go_ret
    go_light
    exact ⟨by rw [chk_many hs]; rfl, by (repeat' (first | (with_reducible exact Below.refl _ _) | (with_reducible assumption) | (with_reducible refine Below.alloc ?_ ?_ _) | (with_reducible refine Below.drew ?_) | (with_reducible refine below_drewN ?_) | (with_reducible refine Below.setCell ?_ ?_ _) | (with_reducible refine below_step ?_ ?_ (by with_reducible assumption)) | go_size))⟩
  have hs' : l1.length + l2.length ≤ 200 := by omega
  clear hs
  have B1 : Hid (∀ x, Below w.heap.size w (w.alloc x)) := fun x => Joins.below_alloc1 w x
  have HC := Lib.hid (fun x => containsFunc_any a1 l1 p1 33 #[] (fun x => shapeM x != 0) (w.alloc x) entersC1 (H1.out.below (B1.out x) (Nat.le_refl _)) (check1_pred l1 _ M1.out) (by omega))
  cases e0 : l1.any (fun x => shapeM x != 0)
  · rw [e0] at HC
    have HS : Hid (∀ x ∈ l1, shapeM x = 0) := Lib.hid (fun x hx => by have := List.any_eq_false.1 e0 x hx; simpa using this)
    have HM : Hid (∀ x ∈ l1, modeB x.m = true) := Lib.hid (fun x hx => (shape_mode (HS.out x hx)).1)
    clear e0
    go_enter Tryd.func15, Tryd.ntmps15
    go_wp2_with (go_at_call 32; refine (HC.out _).mono ?_; rintro e w1 ⟨rfl, hb1⟩; have hz := hb1.size; (try simp only [World.size_alloc, World.size_setCell, World.size_drew, size_drewN] at hz); (try (have zw1_0 : w.heap.size < w1.heap.size := (by omega))); (try (have cw1_0 := fun o => hb1.cell (p := ⟨w.heap.size, o, none⟩) (by (try simp only [World.size_alloc, World.size_setCell, World.size_drew, size_drewN]); omega))); (try (have fw1_0 := fun o => hb1.frozen (p := ⟨w.heap.size, o, none⟩) (by (try simp only [World.size_alloc, World.size_setCell, World.size_drew, size_drewN]); omega))))
    have k00 : w1.cell? ⟨w.heap.size, 0, none⟩ = some (.slice a1 l1.length p1) := cell_later hb1 (by simp)
    have k01 : w1.cell? ⟨w.heap.size, 1, none⟩ = some (.slice a2 l2.length p2) := cell_later hb1 (by simp)
    have hz1 := hb1.size
    simp at hz1
    have B0 : Hid (w1.heap[w.heap.size]? = some (.cells #[.slice a1 l1.length p1, .slice a2 l2.length p2] 30 (0, 0))) := Lib.hid ((hb1.block _ (by simp)).trans (new_at _ _ _ rfl))
    have BE : Hid (Below w.heap.size w w1) := Lib.hid ((B1.out _).trans (hb1.mono (by simp)))
    clear hb1
    go_loopw [22] (fun i wr => ∃ k : Nat, k ≤ l1.length ∧ i = .int .i64 k ∧ Hid (wr.heap[w.heap.size]? = some (.cells #[.slice a1 l1.length p1, .slice a2 l2.length p2] 30 (0, 0)) ∧ Below w.heap.size w wr ∧ w.heap.size + 1 ≤ wr.heap.size ∧ ∀ j x, j < k → l1[j]? = some x → heldGood l1 j x)) (fun i _ => l1.length - (intOf i).toNat)
    case atStart => exact ⟨0, by omega, rfl, Lib.hid ⟨B0.out, BE.out, by omega, fun j _ hj => absurd hj (Nat.not_lt_zero _)⟩⟩
    case round =>
      clear k00 k01 B0 BE hz cw1_0 fw1_0 zw1_0 hz1
      obtain ⟨k, hk, rfl, HI⟩ := hrel
      by_cases hlt : k < l1.length
      · obtain ⟨b0, bel, sz, -⟩ := HI.out
        obtain ⟨h, hx⟩ : ∃ h, l1[k]? = some h := ⟨l1[k], by simp [hlt]⟩
        have hmx := HM.out h (List.mem_of_getElem? hx)
        obtain ⟨b, o, rfl, hb, c0, c1', c2'⟩ := H1.out.at hx
        obtain ⟨ht, hs', hm⟩ := h
        simp only at c0 c1' c2' hmx
        have HMX := Lib.hid hmx
        have k0 := Joins.cell_of_block b0 0
        simp at k0
        have c0 := (bel.cell (p := ⟨b, o + k * 3, none⟩) hb).trans c0
        have c1 := (bel.cell (p := ⟨b, o + k * 3 + 1, none⟩) hb).trans c1'
        have c2 := (bel.cell (p := ⟨b, o + k * 3 + 2, none⟩) hb).trans c2'
        have i1 : (0 : Int) ≤ (k : Int) := by omega
        have i2 : (k : Int) < (l1.length : Int) := by omega
        have B0 := Lib.hid b0
        have bW := bel.alloc (by omega) (.cells #[.int .i64 ht, .string hs', .int .i64 hm] 36)
        have BE := Lib.hid bel
        clear b0 bel hmx
        go_wp2
        have t0 : (wr.alloc (.cells #[.int .i64 ht, .string hs', .int .i64 hm] 36)).cell? ⟨wr.heap.size, 0, none⟩ = some (.int .i64 ht) := by simp
        have t1 : (wr.alloc (.cells #[.int .i64 ht, .string hs', .int .i64 hm] 36)).cell? ⟨wr.heap.size, 1, none⟩ = some (.string hs') := by simp
        have t2 : (wr.alloc (.cells #[.int .i64 ht, .string hs', .int .i64 hm] 36)).cell? ⟨wr.heap.size, 2, none⟩ = some (.int .i64 hm) := by simp
        have k0 := (cell_later (Joins.below_alloc1 wr (.cells #[.int .i64 ht, .string hs', .int .i64 hm] 36)) k0)
        have zW : wr.heap.size < (wr.alloc (.cells #[.int .i64 ht, .string hs', .int .i64 hm] 36)).heap.size := by simp
        have WB := Lib.hid (Below.heap_alloc wr (.cells #[.int .i64 ht, .string hs', .int .i64 hm] 36) w.heap.size (by omega))
        generalize hW : wr.alloc (.cells #[.int .i64 ht, .string hs', .int .i64 hm] 36) = W at bW t0 t1 t2 k0 zW WB ⊢
        have HX := Lib.hid hx
        have bW' := Lib.hid bW
        have kp : (k : Int) ≤ (p1 : Int) := by omega
        have KL : Hid ((l1.take k).length = k) := Lib.hid (by rw [List.length_take]; omega)
        have HL1 := Lib.hid ((H1.out.below bW.drew (Nat.le_refl _)).take k)
        clear hx bW hW
        refine wp_cut (fun w' : World => w'.cell? ⟨wr.heap.size, 0, none⟩ = some (.int .i64 ht) ∧ w'.cell? ⟨wr.heap.size, 1, none⟩ = some (.string hs') ∧ w'.cell? ⟨wr.heap.size, 2, none⟩ = some (.int .i64 hm) ∧ w'.cell? ⟨w.heap.size, 0, none⟩ = some (.slice (some ⟨b, o, none⟩) l1.length p1)) 16 (by kernel_rfl) (by kernel_rfl) (fun inv => ?_)
        ((refine anyT_take (i := 0) (v := ?_) rfl (by kernel_rfl) (by kernel_rfl) (by kernel_rfl) (fun _ _ _ h => h) (Or.inl ⟨by rfl, ?_⟩) ⟨t0, t1, t2, k0⟩ inv (fun inv => ?_); rotate_left; (· (intro w hSw; (try dsimp only at hSw); go_simp; with_reducible rfl)); (try simp only [Act.put, List.getElem_toArray, List.getElem_cons_zero, List.getElem_cons_succ, List.setIfInBounds_toArray, List.set_cons_zero, List.set_cons_succ])); (refine anyT_take (i := 1) (v := ?_) rfl (by kernel_rfl) (by kernel_rfl) (by kernel_rfl) (fun _ _ _ h => h) (Or.inl ⟨by rfl, ?_⟩) ⟨t0, t1, t2, k0⟩ inv (fun inv => ?_); rotate_left; (· (intro w hSw; (try dsimp only at hSw); go_simp; with_reducible rfl)); (try simp only [Act.put, List.getElem_toArray, List.getElem_cons_zero, List.getElem_cons_succ, List.setIfInBounds_toArray, List.set_cons_zero, List.set_cons_succ])); (refine anyT_take (i := 2) (v := ?_) rfl (by kernel_rfl) (by kernel_rfl) (by kernel_rfl) (fun _ _ _ h => h) (Or.inl ⟨by rfl, ?_⟩) ⟨t0, t1, t2, k0⟩ inv (fun inv => ?_); rotate_left; (· (intro w hSw; (try dsimp only at hSw); go_simp; with_reducible rfl)); (try simp only [Act.put, List.getElem_toArray, List.getElem_cons_zero, List.getElem_cons_succ, List.setIfInBounds_toArray, List.set_cons_zero, List.set_cons_succ])); (refine anyT_take (i := 3) (v := ?_) rfl (by kernel_rfl) (by kernel_rfl) (by kernel_rfl) (fun _ _ _ h => h) (Or.inl ⟨by rfl, ?_⟩) ⟨t0, t1, t2, k0⟩ inv (fun inv => ?_); rotate_left; (· (intro w hSw; (try dsimp only at hSw); go_simp; with_reducible rfl)); (try simp only [Act.put, List.getElem_toArray, List.getElem_cons_zero, List.getElem_cons_succ, List.setIfInBounds_toArray, List.set_cons_zero, List.set_cons_succ])); (refine anyT_take (i := 4) (v := ?_) rfl (by kernel_rfl) (by kernel_rfl) (by kernel_rfl) (fun _ _ _ h => h) (Or.inl ⟨by rfl, ?_⟩) ⟨t0, t1, t2, k0⟩ inv (fun inv => ?_); rotate_left; (· (intro w hSw; (try dsimp only at hSw); go_simp; with_reducible rfl)); (try simp only [Act.put, List.getElem_toArray, List.getElem_cons_zero, List.getElem_cons_succ, List.setIfInBounds_toArray, List.set_cons_zero, List.set_cons_succ])); (refine anyT_take (i := 5) (v := ?_) rfl (by kernel_rfl) (by kernel_rfl) (by kernel_rfl) (fun _ _ _ h => h) (Or.inl ⟨by rfl, ?_⟩) ⟨t0, t1, t2, k0⟩ inv (fun inv => ?_); rotate_left; (· (intro w hSw; (try dsimp only at hSw); go_simp; with_reducible rfl)); (try simp only [Act.put, List.getElem_toArray, List.getElem_cons_zero, List.getElem_cons_succ, List.setIfInBounds_toArray, List.set_cons_zero, List.set_cons_succ])); (refine anyT_take (i := 6) (v := ?_) rfl (by kernel_rfl) (by kernel_rfl) (by kernel_rfl) (fun _ _ _ h => h) (Or.inl ⟨by rfl, ?_⟩) ⟨t0, t1, t2, k0⟩ inv (fun inv => ?_); rotate_left; (· (intro w hSw; (try dsimp only at hSw); go_simp; with_reducible rfl)); (try simp only [Act.put, List.getElem_toArray, List.getElem_cons_zero, List.getElem_cons_succ, List.setIfInBounds_toArray, List.set_cons_zero, List.set_cons_succ])); (refine anyT_take (i := 7) (v := ?_) rfl (by kernel_rfl) (by kernel_rfl) (by kernel_rfl) (fun _ _ _ h => h) (Or.inl ⟨by rfl, ?_⟩) ⟨t0, t1, t2, k0⟩ inv (fun inv => ?_); rotate_left; (· (intro w hSw; (try dsimp only at hSw); go_simp; with_reducible rfl)); (try simp only [Act.put, List.getElem_toArray, List.getElem_cons_zero, List.getElem_cons_succ, List.setIfInBounds_toArray, List.set_cons_zero, List.set_cons_succ])))
        (refine anyT_step (i := 8) rfl (by kernel_rfl) (by decide) inv (fun K hK => ?_); go_simp; go_at_call 35; refine (find_at _ (l1.take k) k p1 ht hs' _ KL.out HL1.out (by omega)).mono ?_; rintro e w2 ⟨rfl, hbw2⟩; have hz := hbw2.size; (try simp only [World.size_alloc, World.size_setCell, World.size_drew, size_drewN] at hz); (refine hK _ _ ⟨cell_later hbw2 t0, cell_later hbw2 t1, cell_later hbw2 t2, cell_later hbw2 k0⟩ (fun inv => ?_); clear hK K; (try simp only [Act.put, List.getElem_toArray, List.getElem_cons_zero, List.getElem_cons_succ, List.setIfInBounds_toArray, List.set_cons_zero, List.set_cons_succ])))
        have t0 := cell_later hbw2 t0
        have t1 := cell_later hbw2 t1
        have t2 := cell_later hbw2 t2
        have k0 := cell_later hbw2 k0
        by_cases e2 : 0 ≤ findM ht hs' (l1.take k)
        · have e2d : decide ((0 : Int) ≤ findM ht hs' (l1.take k)) = true := by simpa using e2
          have E2 := Lib.hid e2
          clear e2
          ((refine anyT_take (i := 9) (v := ?_) rfl (by kernel_rfl) (by kernel_rfl) (by kernel_rfl) (fun _ _ _ h => h) (Or.inl ⟨by rfl, ?_⟩) ⟨t0, t1, t2, k0⟩ inv (fun inv => ?_); rotate_left; (· (intro w hSw; (try dsimp only at hSw); go_simp; with_reducible rfl)); (try simp only [Act.put, List.getElem_toArray, List.getElem_cons_zero, List.getElem_cons_succ, List.setIfInBounds_toArray, List.set_cons_zero, List.set_cons_succ])); (refine anyT_take (i := 10) (v := ?_) rfl (by kernel_rfl) (by kernel_rfl) (by kernel_rfl) (fun _ _ _ h => h) (Or.inl ⟨by rfl, ?_⟩) ⟨t0, t1, t2, k0⟩ inv (fun inv => ?_); rotate_left; (· (intro w hSw; (try dsimp only at hSw); go_simp; with_reducible rfl)); (try simp only [Act.put, List.getElem_toArray, List.getElem_cons_zero, List.getElem_cons_succ, List.setIfInBounds_toArray, List.set_cons_zero, List.set_cons_succ])))
          ((refine anyT_take (i := 11) (v := _) rfl (by kernel_rfl) (by kernel_rfl) (by kernel_rfl) (fun _ _ _ h => h) (Or.inr ⟨by rfl, rfl⟩) ⟨t0, t1, t2, k0⟩ inv (fun inv => ?_); (try simp only [Act.put, List.getElem_toArray, List.getElem_cons_zero, List.getElem_cons_succ, List.setIfInBounds_toArray, List.set_cons_zero, List.set_cons_succ])); (refine anyT_take (i := 12) (v := _) rfl (by kernel_rfl) (by kernel_rfl) (by kernel_rfl) (fun _ _ _ h => h) (Or.inr ⟨by rfl, rfl⟩) ⟨t0, t1, t2, k0⟩ inv (fun inv => ?_); (try simp only [Act.put, List.getElem_toArray, List.getElem_cons_zero, List.getElem_cons_succ, List.setIfInBounds_toArray, List.set_cons_zero, List.set_cons_succ])); (refine anyT_take (i := 13) (v := _) rfl (by kernel_rfl) (by kernel_rfl) (by kernel_rfl) (fun _ _ _ h => h) (Or.inr ⟨by rfl, rfl⟩) ⟨t0, t1, t2, k0⟩ inv (fun inv => ?_); (try simp only [Act.put, List.getElem_toArray, List.getElem_cons_zero, List.getElem_cons_succ, List.setIfInBounds_toArray, List.set_cons_zero, List.set_cons_succ])); (refine anyT_take (i := 14) (v := _) rfl (by kernel_rfl) (by kernel_rfl) (by kernel_rfl) (fun _ _ _ h => h) (Or.inr ⟨by rfl, rfl⟩) ⟨t0, t1, t2, k0⟩ inv (fun inv => ?_); (try simp only [Act.put, List.getElem_toArray, List.getElem_cons_zero, List.getElem_cons_succ, List.setIfInBounds_toArray, List.set_cons_zero, List.set_cons_succ])); (refine anyT_take (i := 15) (v := _) rfl (by kernel_rfl) (by kernel_rfl) (by kernel_rfl) (fun _ _ _ h => h) (Or.inr ⟨by rfl, rfl⟩) ⟨t0, t1, t2, k0⟩ inv (fun inv => ?_); (try simp only [Act.put, List.getElem_toArray, List.getElem_cons_zero, List.getElem_cons_succ, List.setIfInBounds_toArray, List.set_cons_zero, List.set_cons_succ])))
          (refine anyT_end (by kernel_rfl) ?_; simp only [List.drop_succ_cons, List.drop_zero])
          go_wp2
          go_ret
          go_light
          exact ⟨by rw [chk_held HX.out (fun h => by have h1 : findM ht hs' (l1.take k) < 0 := h.1; have := E2.out; omega)]; rfl, by have bW := bW'.out; (repeat' (first | (with_reducible exact Below.refl _ _) | (with_reducible assumption) | (with_reducible refine Below.alloc ?_ ?_ _) | (with_reducible refine Below.drew ?_) | (with_reducible refine below_drewN ?_) | (with_reducible refine Below.setCell ?_ ?_ _) | (with_reducible refine below_step ?_ ?_ (by with_reducible assumption)) | go_size))⟩
        · have e2d : decide ((0 : Int) ≤ findM ht hs' (l1.take k)) = false := by simpa using e2
          have E2 := Lib.hid e2
          clear e2
          ((refine anyT_take (i := 9) (v := ?_) rfl (by kernel_rfl) (by kernel_rfl) (by kernel_rfl) (fun _ _ _ h => h) (Or.inl ⟨by rfl, ?_⟩) ⟨t0, t1, t2, k0⟩ inv (fun inv => ?_); rotate_left; (· (intro w hSw; (try dsimp only at hSw); go_simp; with_reducible rfl)); (try simp only [Act.put, List.getElem_toArray, List.getElem_cons_zero, List.getElem_cons_succ, List.setIfInBounds_toArray, List.set_cons_zero, List.set_cons_succ])); (refine anyT_take (i := 10) (v := ?_) rfl (by kernel_rfl) (by kernel_rfl) (by kernel_rfl) (fun _ _ _ h => h) (Or.inl ⟨by rfl, ?_⟩) ⟨t0, t1, t2, k0⟩ inv (fun inv => ?_); rotate_left; (· (intro w hSw; (try dsimp only at hSw); go_simp; with_reducible rfl)); (try simp only [Act.put, List.getElem_toArray, List.getElem_cons_zero, List.getElem_cons_succ, List.setIfInBounds_toArray, List.set_cons_zero, List.set_cons_succ])); (refine anyT_take (i := 11) (v := ?_) rfl (by kernel_rfl) (by kernel_rfl) (by kernel_rfl) (fun _ _ _ h => h) (Or.inl ⟨by rfl, ?_⟩) ⟨t0, t1, t2, k0⟩ inv (fun inv => ?_); rotate_left; (· (intro w hSw; (try dsimp only at hSw); go_simp; with_reducible rfl)); (try simp only [Act.put, List.getElem_toArray, List.getElem_cons_zero, List.getElem_cons_succ, List.setIfInBounds_toArray, List.set_cons_zero, List.set_cons_succ])); (refine anyT_take (i := 12) (v := ?_) rfl (by kernel_rfl) (by kernel_rfl) (by kernel_rfl) (fun _ _ _ h => h) (Or.inl ⟨by rfl, ?_⟩) ⟨t0, t1, t2, k0⟩ inv (fun inv => ?_); rotate_left; (· (intro w hSw; (try dsimp only at hSw); go_simp; with_reducible rfl)); (try simp only [Act.put, List.getElem_toArray, List.getElem_cons_zero, List.getElem_cons_succ, List.setIfInBounds_toArray, List.set_cons_zero, List.set_cons_succ])); (refine anyT_take (i := 13) (v := ?_) rfl (by kernel_rfl) (by kernel_rfl) (by kernel_rfl) (fun _ _ _ h => h) (Or.inl ⟨by rfl, ?_⟩) ⟨t0, t1, t2, k0⟩ inv (fun inv => ?_); rotate_left; (· (intro w hSw; (try dsimp only at hSw); go_simp; with_reducible rfl)); (try simp only [Act.put, List.getElem_toArray, List.getElem_cons_zero, List.getElem_cons_succ, List.setIfInBounds_toArray, List.set_cons_zero, List.set_cons_succ])))
          have bW2 : Below w.heap.size w w2 := by have bW := bW'.out; (repeat' (first | (with_reducible exact Below.refl _ _) | (with_reducible assumption) | (with_reducible refine Below.alloc ?_ ?_ _) | (with_reducible refine Below.drew ?_) | (with_reducible refine below_drewN ?_) | (with_reducible refine Below.setCell ?_ ?_ _) | (with_reducible refine below_step ?_ ?_ (by with_reducible assumption)) | go_size))
          have HF := free_any (some ⟨b, o, none⟩) l1 p1 ⟨ht, hs', hm⟩ w2 (H1.out.below bW2 (Nat.le_refl _)) (by omega) (HT.out.below bW2 HT.out.lt) HMX.out HM.out
          cases e3 : l1.any (agK ⟨ht, hs', hm⟩)
          · rw [e3] at HF
            have E3 := Lib.hid e3
            have HF := Lib.hid HF
            clear e3
            (refine anyT_step (i := 14) rfl (by kernel_rfl) (by decide) inv (fun K hK => ?_); go_simp; go_at_call 36; refine (HF.out).mono ?_; rintro e w3 ⟨rfl, hbw3⟩; have hz := hbw3.size; (try simp only [World.size_alloc, World.size_setCell, World.size_drew, size_drewN] at hz); (refine hK _ _ ⟨cell_later hbw3 t0, cell_later hbw3 t1, cell_later hbw3 t2, cell_later hbw3 k0⟩ (fun inv => ?_); clear hK K; (try simp only [Act.put, List.getElem_toArray, List.getElem_cons_zero, List.getElem_cons_succ, List.setIfInBounds_toArray, List.set_cons_zero, List.set_cons_succ])))
            have t0 := cell_later hbw3 t0
            have t1 := cell_later hbw3 t1
            have t2 := cell_later hbw3 t2
            have k0 := cell_later hbw3 k0
            ((refine anyT_take (i := 15) (v := ?_) rfl (by kernel_rfl) (by kernel_rfl) (by kernel_rfl) (fun _ _ _ h => h) (Or.inl ⟨by rfl, ?_⟩) ⟨t0, t1, t2, k0⟩ inv (fun inv => ?_); rotate_left; (· (intro w hSw; (try dsimp only at hSw); go_simp; with_reducible rfl)); (try simp only [Act.put, List.getElem_toArray, List.getElem_cons_zero, List.getElem_cons_succ, List.setIfInBounds_toArray, List.set_cons_zero, List.set_cons_succ])))
            (refine anyT_end (by kernel_rfl) ?_; simp only [List.drop_succ_cons, List.drop_zero])
            go_wp2
            go_roundw
            case rel =>
              have bW := bW'.out
              have z2 := hbw2.size
              have z3 := hbw3.size
              simp at z2
              refine ⟨k + 1, by omega, by go_num, Lib.hid ⟨?_, by (repeat' (first | (with_reducible exact Below.refl _ _) | (with_reducible assumption) | (with_reducible refine Below.alloc ?_ ?_ _) | (with_reducible refine Below.drew ?_) | (with_reducible refine below_drewN ?_) | (with_reducible refine Below.setCell ?_ ?_ _) | (with_reducible refine below_step ?_ ?_ (by with_reducible assumption)) | go_size)), by omega, ?_⟩⟩
              · refine (hbw3.block _ (by omega)).trans ((hbw2.block _ (by first | omega | (simp; omega))).trans ?_)
                exact WB.out.trans B0.out
              · intro j x hj hx
                rcases Nat.lt_or_eq_of_le (Nat.le_of_lt_succ hj) with hj' | rfl
                · exact HI.out.2.2.2 j x hj' hx
                · obtain rfl := Option.some.inj (hx.symm.trans HX.out)
                  exact ⟨by have := E2.out; show findM ht hs' (l1.take j) < 0; omega, E3.out⟩
            case measure => simp [intOf]; omega
          · rw [e3] at HF
            have E3 := Lib.hid e3
            have HF := Lib.hid HF
            clear e3
            (refine anyT_step (i := 14) rfl (by kernel_rfl) (by decide) inv (fun K hK => ?_); go_simp; go_at_call 36; refine (HF.out).mono ?_; rintro e w3 ⟨rfl, hbw3⟩; have hz := hbw3.size; (try simp only [World.size_alloc, World.size_setCell, World.size_drew, size_drewN] at hz); (refine hK _ _ ⟨cell_later hbw3 t0, cell_later hbw3 t1, cell_later hbw3 t2, cell_later hbw3 k0⟩ (fun inv => ?_); clear hK K; (try simp only [Act.put, List.getElem_toArray, List.getElem_cons_zero, List.getElem_cons_succ, List.setIfInBounds_toArray, List.set_cons_zero, List.set_cons_succ])))
            have t0 := cell_later hbw3 t0
            have t1 := cell_later hbw3 t1
            have t2 := cell_later hbw3 t2
            have k0 := cell_later hbw3 k0
            ((refine anyT_take (i := 15) (v := ?_) rfl (by kernel_rfl) (by kernel_rfl) (by kernel_rfl) (fun _ _ _ h => h) (Or.inl ⟨by rfl, ?_⟩) ⟨t0, t1, t2, k0⟩ inv (fun inv => ?_); rotate_left; (· (intro w hSw; (try dsimp only at hSw); go_simp; with_reducible rfl)); (try simp only [Act.put, List.getElem_toArray, List.getElem_cons_zero, List.getElem_cons_succ, List.setIfInBounds_toArray, List.set_cons_zero, List.set_cons_succ])))
            (refine anyT_end (by kernel_rfl) ?_; simp only [List.drop_succ_cons, List.drop_zero])
            go_wp2
            go_ret
            go_light
            exact ⟨by rw [chk_held HX.out (fun h => by have h1 := h.2; rw [E3.out] at h1; cases h1)]; rfl, by have bW := bW'.out; (repeat' (first | (with_reducible exact Below.refl _ _) | (with_reducible assumption) | (with_reducible refine Below.alloc ?_ ?_ _) | (with_reducible refine Below.drew ?_) | (with_reducible refine below_drewN ?_) | (with_reducible refine Below.setCell ?_ ?_ _) | (with_reducible refine below_step ?_ ?_ (by with_reducible assumption)) | go_size))⟩
      · obtain rfl : k = l1.length := by omega
        obtain ⟨b0, bel, sz, hheld⟩ := HI.out
        have k0 := Joins.cell_of_block b0 0
        have k1 := Joins.cell_of_block b0 1
        simp at k0 k1
        have HH := Lib.hid hheld
        have B0 := Lib.hid b0
        have BE := Lib.hid bel
        clear HI hheld b0 bel
        rename World => wo
        go_wp2
        go_loopw [48] (fun i wr => ∃ k : Nat, k ≤ l2.length ∧ i = .int .i64 k ∧ Hid (wr.heap[w.heap.size]? = some (.cells #[.slice a1 l1.length p1, .slice a2 l2.length p2] 30 (0, 0)) ∧ Below w.heap.size w wr ∧ w.heap.size + 1 ≤ wr.heap.size ∧ ∀ j x, j < k → l2[j]? = some x → queueGood l1 l2 j x)) (fun i _ => l2.length - (intOf i).toNat)
        case atStart => exact ⟨0, by omega, rfl, Lib.hid ⟨B0.out, BE.out, sz, fun j _ hj => absurd hj (Nat.not_lt_zero _)⟩⟩
        case round =>
          clear k0 k1 B0 BE
          obtain ⟨k, hk, rfl, HI⟩ := hrel
          by_cases hlt : k < l2.length
          · obtain ⟨b0, bel, sz2, -⟩ := HI.out
            obtain ⟨h, hx⟩ : ∃ h, l2[k]? = some h := ⟨l2[k], by simp [hlt]⟩
            obtain ⟨b, o, rfl, hb, c0, c1', c2'⟩ := H2.out.at hx
            obtain ⟨ht, hs', hm⟩ := h
            simp only at c0 c1' c2'
            have k0 := Joins.cell_of_block b0 0
            have k1 := Joins.cell_of_block b0 1
            simp at k0 k1
            have c0 := (bel.cell (p := ⟨b, o + k * 3, none⟩) hb).trans c0
            have c1 := (bel.cell (p := ⟨b, o + k * 3 + 1, none⟩) hb).trans c1'
            have c2 := (bel.cell (p := ⟨b, o + k * 3 + 2, none⟩) hb).trans c2'
            have i1 : (0 : Int) ≤ (k : Int) := by omega
            have i2 : (k : Int) < (l2.length : Int) := by omega
            have kp : (k : Int) ≤ (p2 : Int) := by omega
            have B0 := Lib.hid b0
            have hsz : hs'.size ≤ maxLen := M2.out _ (List.mem_of_getElem? hx)
            have HX := Lib.hid hx
            have KL : Hid ((l2.take k).length = k) := Lib.hid (by rw [List.length_take]; omega)
            have k0 := (cell_later (Joins.below_alloc1 wr (.cells #[.int .i64 ht, .string hs', .int .i64 hm] 36)) k0)
            have k1 := (cell_later (Joins.below_alloc1 wr (.cells #[.int .i64 ht, .string hs', .int .i64 hm] 36)) k1)
            have t0 : (wr.alloc (.cells #[.int .i64 ht, .string hs', .int .i64 hm] 36)).cell? ⟨wr.heap.size, 0, none⟩ = some (.int .i64 ht) := by simp
            have t1 : (wr.alloc (.cells #[.int .i64 ht, .string hs', .int .i64 hm] 36)).cell? ⟨wr.heap.size, 1, none⟩ = some (.string hs') := by simp
            have t2 : (wr.alloc (.cells #[.int .i64 ht, .string hs', .int .i64 hm] 36)).cell? ⟨wr.heap.size, 2, none⟩ = some (.int .i64 hm) := by simp
            have bW := bel
            clear b0 hx hb
            by_cases e1 : shapeM ⟨ht, hs', hm⟩ = 0
            · have e1' : (shapeM ⟨ht, hs', hm⟩ != 0) = false := by simpa using e1
              have HMX : Hid (modeB hm = true) := Lib.hid (shape_mode e1).1
              cases e2 : (l2.take k).any (sameX ⟨ht, hs', hm⟩)
              · have E2 := Lib.hid e2
                rcases find_mode ht hs' l1 with ⟨f1, -, -⟩ | ⟨j, y, f1, f2, -, f4⟩
                · have F1 := Lib.hid f1
                  have HB : Hid (findM ht hs' l1 < 0 ∨ (joinB (modeM ht hs' l1) hm = hm ∧ modeM ht hs' l1 ≠ hm)) := Lib.hid (.inl (by omega))
                  clear f1
                  go_wp2_with (first | (go_at_call 34; refine (shape_any ⟨ht, hs', hm⟩ _ hsz).mono ?_; rintro e w1 ⟨rfl, hb1⟩; have hz := hb1.size; (try simp only [World.size_alloc, World.size_setCell, World.size_drew, size_drewN] at hz); have t0 := cell_later hb1 t0; have t1 := cell_later hb1 t1; have t2 := cell_later hb1 t2; have k0 := cell_later hb1 k0; have k1 := cell_later hb1 k1; have z1 : wr.heap.size < w1.heap.size := (by omega)) | (go_at_call 32; refine (containsFunc_at _ (l2.take k) k p2 37 _ (sameX ⟨ht, hs', hm⟩) _ entersC2 KL.out ((H2.out.below (by (repeat' (first | (with_reducible exact Below.refl _ _) | (with_reducible assumption) | (with_reducible refine Below.alloc ?_ ?_ _) | (with_reducible refine Below.drew ?_) | (with_reducible refine below_drewN ?_) | (with_reducible refine Below.setCell ?_ ?_ _) | (with_reducible refine below_step ?_ ?_ (by with_reducible assumption)) | go_size))) (Nat.le_refl _)).take k) (check2_pred ⟨ht, hs', hm⟩ wr.heap.size _ _ (by omega) (by go_simp)) (by omega)).mono ?_; rw [e2]; rintro e w2 ⟨rfl, hb2⟩; have hz2 := hb2.size; have t0 := cell_later hb2 t0; have t1 := cell_later hb2 t1; have t2 := cell_later hb2 t2; have k0 := cell_later hb2 k0; have k1 := cell_later hb2 k1) | (go_at_call 35; have HFi := find_any a1 l1 p1 ht hs' _ (H1.out.below (show Below w.heap.size w w2 by (repeat' (first | (with_reducible exact Below.refl _ _) | (with_reducible assumption) | (with_reducible refine Below.alloc ?_ ?_ _) | (with_reducible refine Below.drew ?_) | (with_reducible refine below_drewN ?_) | (with_reducible refine Below.setCell ?_ ?_ _) | (with_reducible refine below_step ?_ ?_ (by with_reducible assumption)) | go_size))) (Nat.le_refl _)) (by omega); rw [F1.out] at HFi; refine HFi.mono ?_; clear HFi; rintro e w3 ⟨rfl, hb3⟩; have hz3 := hb3.size; have t0 := cell_later hb3 t0; have t1 := cell_later hb3 t1; have t2 := cell_later hb3 t2; have k0 := cell_later hb3 k0; have k1 := cell_later hb3 k1))
                  have bW3 : Below w.heap.size w w3 := by (repeat' (first | (with_reducible exact Below.refl _ _) | (with_reducible assumption) | (with_reducible refine Below.alloc ?_ ?_ _) | (with_reducible refine Below.drew ?_) | (with_reducible refine below_drewN ?_) | (with_reducible refine Below.setCell ?_ ?_ _) | (with_reducible refine below_step ?_ ?_ (by with_reducible assumption)) | go_size))
                  have hz4 := hb1.size
                  simp only [World.size_alloc] at hz4
                  have B3 : Hid (w3.heap[w.heap.size]? = some (.cells #[.slice a1 l1.length p1, .slice (some ⟨b, o, none⟩) l2.length p2] 30 (0, 0))) := Lib.hid ((hb3.block _ (by omega)).trans ((hb2.block _ (by omega)).trans ((hb1.block _ (by simp only [World.size_alloc]; omega)).trans ((Below.heap_alloc _ _ _ (by omega)).trans B0.out))))
                  have X3 := Lib.hid bW3
                  have Z3 : w.heap.size + 1 ≤ w3.heap.size := by omega
                  clear bW3 hb1 hb2 hb3 hz hz2 hz3 hz4 z1 bel bW c0 c1 c2 c1' c2'
                  go_quiet (fail)
                  generalize hq1 : w3.drewN nq = w4
                  have h3 : w4.heap = w3.heap := by rw [← hq1]; rfl
                  have X4 : Hid (Below w.heap.size w w4) := by rw [← hq1]; exact below_drewN X3.out
                  have k0 : w4.cell? ⟨w.heap.size, 0, none⟩ = some (.slice a1 l1.length p1) := (World.cell?_of_block (by rw [h3])).trans k0
                  have k1 : w4.cell? ⟨w.heap.size, 1, none⟩ = some (.slice (some ⟨b, o, none⟩) l2.length p2) := (World.cell?_of_block (by rw [h3])).trans k1
                  have B4 : Hid (w4.heap[w.heap.size]? = some (.cells #[.slice a1 l1.length p1, .slice (some ⟨b, o, none⟩) l2.length p2] 30 (0, 0))) := by rw [h3]; exact B3
                  have Z4 : w.heap.size + 1 ≤ w4.heap.size := by rw [h3]; exact Z3
                  have FI := Lib.hid (first_any _ (some ⟨b, o, none⟩) l1 l2 p1 p2 k ⟨ht, hs', hm⟩ w4 (H1.out.below X4.out (Nat.le_refl _)) (H2.out.below X4.out (Nat.le_refl _)) (by omega) (by omega) q2 (HT.out.below X4.out HT.out.lt) HX.out HMX.out HM.out)
                  clear hq1 h3 X3 B3 Z3 t0 t1 t2
                  cases e5 : firstM l1 l2 k ⟨ht, hs', hm⟩
                  · rw [e5] at FI
                    have E5 := Lib.hid e5
                    clear e5
                    go_wp2_with (go_at_call 38; refine FI.out.mono ?_; rintro e w5 ⟨rfl, hb5⟩)
                    go_roundw
                    case rel =>
                      refine ⟨k + 1, by omega, by go_num, Lib.hid ⟨(hb5.block _ (by omega)).trans B4.out, by have := X4.out; (repeat' (first | (with_reducible exact Below.refl _ _) | (with_reducible assumption) | (with_reducible refine Below.alloc ?_ ?_ _) | (with_reducible refine Below.drew ?_) | (with_reducible refine below_drewN ?_) | (with_reducible refine Below.setCell ?_ ?_ _) | (with_reducible refine below_step ?_ ?_ (by with_reducible assumption)) | go_size)), by have := hb5.size; omega, ?_⟩⟩
                      intro i x hi hx
                      rcases Nat.lt_or_eq_of_le (Nat.le_of_lt_succ hi) with hi' | rfl
                      · exact HI.out.2.2.2 i x hi' hx
                      · obtain rfl := Option.some.inj (hx.symm.trans HX.out)
                        exact ⟨e1, E2.out, HB.out, E5.out⟩
                    case measure => simp [intOf]; omega
                  · rw [e5] at FI
                    have E5 := Lib.hid e5
                    clear e5
                    go_wp2_with (go_at_call 38; refine FI.out.mono ?_; rintro e w5 ⟨rfl, hb5⟩)
                    go_ret
                    go_light
                    exact ⟨by rw [chk_queue HX.out (fun h => by have h1 := h.2.2.2; rw [E5.out] at h1; cases h1)]; rfl, by have := X4.out; (repeat' (first | (with_reducible exact Below.refl _ _) | (with_reducible assumption) | (with_reducible refine Below.alloc ?_ ?_ _) | (with_reducible refine Below.drew ?_) | (with_reducible refine below_drewN ?_) | (with_reducible refine Below.setCell ?_ ?_ _) | (with_reducible refine below_step ?_ ?_ (by with_reducible assumption)) | go_size))⟩
                · have F1 := Lib.hid f1
                  obtain ⟨bj, oj, rfl, hbj, -, -, d2⟩ := H1.out.at f2
                  have hjl := (List.getElem?_eq_some_iff.1 f2).1
                  obtain ⟨y1, y2⟩ := modeB_iff.1 (HM.out y (List.mem_of_getElem? f2))
                  obtain ⟨m1, m2⟩ := modeB_iff.1 HMX.out
                  obtain ⟨yt, ys, ym⟩ := y
                  simp only at d2 y1 y2 f4
                  have j1 : (0 : Int) ≤ (j : Int) := by omega
                  have j2 : (j : Int) < (l1.length : Int) := by omega
                  have F4 := Lib.hid f4
                  clear f1 f2 f4
                  go_wp2_with (first | (go_at_call 34; refine (shape_any ⟨ht, hs', hm⟩ _ hsz).mono ?_; rintro e w1 ⟨rfl, hb1⟩; have hz := hb1.size; (try simp only [World.size_alloc, World.size_setCell, World.size_drew, size_drewN] at hz); have t0 := cell_later hb1 t0; have t1 := cell_later hb1 t1; have t2 := cell_later hb1 t2; have k0 := cell_later hb1 k0; have k1 := cell_later hb1 k1; have z1 : wr.heap.size < w1.heap.size := (by omega)) | (go_at_call 32; refine (containsFunc_at _ (l2.take k) k p2 37 _ (sameX ⟨ht, hs', hm⟩) _ entersC2 KL.out ((H2.out.below (by (repeat' (first | (with_reducible exact Below.refl _ _) | (with_reducible assumption) | (with_reducible refine Below.alloc ?_ ?_ _) | (with_reducible refine Below.drew ?_) | (with_reducible refine below_drewN ?_) | (with_reducible refine Below.setCell ?_ ?_ _) | (with_reducible refine below_step ?_ ?_ (by with_reducible assumption)) | go_size))) (Nat.le_refl _)).take k) (check2_pred ⟨ht, hs', hm⟩ wr.heap.size _ _ (by omega) (by go_simp)) (by omega)).mono ?_; rw [e2]; rintro e w2 ⟨rfl, hb2⟩; have hz2 := hb2.size; have t0 := cell_later hb2 t0; have t1 := cell_later hb2 t1; have t2 := cell_later hb2 t2; have k0 := cell_later hb2 k0; have k1 := cell_later hb2 k1) | (go_at_call 35; have HFi := find_any _ l1 p1 ht hs' _ (H1.out.below (show Below w.heap.size w w2 by (repeat' (first | (with_reducible exact Below.refl _ _) | (with_reducible assumption) | (with_reducible refine Below.alloc ?_ ?_ _) | (with_reducible refine Below.drew ?_) | (with_reducible refine below_drewN ?_) | (with_reducible refine Below.setCell ?_ ?_ _) | (with_reducible refine below_step ?_ ?_ (by with_reducible assumption)) | go_size))) (Nat.le_refl _)) (by omega); rw [F1.out] at HFi; refine HFi.mono ?_; clear HFi; rintro e w3 ⟨rfl, hb3⟩; have hz3 := hb3.size; have t0 := cell_later hb3 t0; have t1 := cell_later hb3 t1; have t2 := cell_later hb3 t2; have k0 := cell_later hb3 k0; have k1 := cell_later hb3 k1))
                  have bW3 : Below w.heap.size w w3 := by (repeat' (first | (with_reducible exact Below.refl _ _) | (with_reducible assumption) | (with_reducible refine Below.alloc ?_ ?_ _) | (with_reducible refine Below.drew ?_) | (with_reducible refine below_drewN ?_) | (with_reducible refine Below.setCell ?_ ?_ _) | (with_reducible refine below_step ?_ ?_ (by with_reducible assumption)) | go_size))
                  have hz4 := hb1.size
                  simp only [World.size_alloc] at hz4
                  have B3 : Hid (w3.heap[w.heap.size]? = some (.cells #[.slice (some ⟨bj, oj, none⟩) l1.length p1, .slice (some ⟨b, o, none⟩) l2.length p2] 30 (0, 0))) := Lib.hid ((hb3.block _ (by omega)).trans ((hb2.block _ (by omega)).trans ((hb1.block _ (by simp only [World.size_alloc]; omega)).trans ((Below.heap_alloc _ _ _ (by omega)).trans B0.out))))
                  have X3 := Lib.hid bW3
                  have Z3 : w.heap.size + 1 ≤ w3.heap.size := by omega
                  have d2 := (bW3.cell (p := ⟨bj, oj + j * 3 + 2, none⟩) hbj).trans d2
                  have jc := (HJ.out.below bW3 HJ.out.lt).at (a := ym) (b := hm) (by omega) (by omega)
                  have m3 : (0 : Int) ≤ ym := by omega
                  have m4 : ym < 6 := by omega
                  have m5 : (0 : Int) ≤ hm := by omega
                  have m6 : hm < 6 := by omega
                  clear bW3 hb1 hb2 hb3 hz hz2 hz3 hz4 z1 bel bW c0 c1 c2 c1' c2'
                  by_cases e3 : joinB ym hm = hm
                  · have e3d : (joinB ym hm != hm) = false := by simpa using e3
                    by_cases e4 : ym = hm
                    · have e4d : (ym == hm) = true := by simpa using e4
                      have HB : Hid (¬(findM ht hs' l1 < 0 ∨ (joinB (modeM ht hs' l1) hm = hm ∧ modeM ht hs' l1 ≠ hm))) := Lib.hid (by rw [F1.out, F4.out]; exact fun h => h.elim (fun h => by omega) (fun h => h.2 e4))
                      have E3 := Lib.hid e3
                      have E4 := Lib.hid e4
                      clear e3 e4
                      go_quiet (fail)
                      go_wp2
                      go_ret
                      go_light
                      exact ⟨by rw [chk_queue HX.out (fun h => HB.out h.2.2.1)]; rfl, below_drewN X3.out⟩
                    · have e4d : (ym == hm) = false := by simpa using e4
                      have HB : Hid (findM ht hs' l1 < 0 ∨ (joinB (modeM ht hs' l1) hm = hm ∧ modeM ht hs' l1 ≠ hm)) := Lib.hid (by rw [F4.out]; exact .inr ⟨e3, e4⟩)
                      clear e3 e4
                      go_quiet (fail)
                      generalize hq1 : w3.drewN nq = w4
                      have h3 : w4.heap = w3.heap := by rw [← hq1]; rfl
                      have X4 : Hid (Below w.heap.size w w4) := by rw [← hq1]; exact below_drewN X3.out
                      have k0 : w4.cell? ⟨w.heap.size, 0, none⟩ = some (.slice (some ⟨bj, oj, none⟩) l1.length p1) := (World.cell?_of_block (by rw [h3])).trans k0
                      have k1 : w4.cell? ⟨w.heap.size, 1, none⟩ = some (.slice (some ⟨b, o, none⟩) l2.length p2) := (World.cell?_of_block (by rw [h3])).trans k1
                      have B4 : Hid (w4.heap[w.heap.size]? = some (.cells #[.slice (some ⟨bj, oj, none⟩) l1.length p1, .slice (some ⟨b, o, none⟩) l2.length p2] 30 (0, 0))) := by rw [h3]; exact B3
                      have Z4 : w.heap.size + 1 ≤ w4.heap.size := by rw [h3]; exact Z3
                      have FI := Lib.hid (first_any _ (some ⟨b, o, none⟩) l1 l2 p1 p2 k ⟨ht, hs', hm⟩ w4 (H1.out.below X4.out (Nat.le_refl _)) (H2.out.below X4.out (Nat.le_refl _)) (by omega) (by omega) q2 (HT.out.below X4.out HT.out.lt) HX.out HMX.out HM.out)
                      clear hq1 h3 X3 B3 Z3 t0 t1 t2
                      cases e5 : firstM l1 l2 k ⟨ht, hs', hm⟩
                      · rw [e5] at FI
                        have E5 := Lib.hid e5
                        clear e5
                        go_wp2_with (go_at_call 38; refine FI.out.mono ?_; rintro e w5 ⟨rfl, hb5⟩)
                        go_roundw
                        case rel =>
                          refine ⟨k + 1, by omega, by go_num, Lib.hid ⟨(hb5.block _ (by omega)).trans B4.out, by have := X4.out; (repeat' (first | (with_reducible exact Below.refl _ _) | (with_reducible assumption) | (with_reducible refine Below.alloc ?_ ?_ _) | (with_reducible refine Below.drew ?_) | (with_reducible refine below_drewN ?_) | (with_reducible refine Below.setCell ?_ ?_ _) | (with_reducible refine below_step ?_ ?_ (by with_reducible assumption)) | go_size)), by have := hb5.size; omega, ?_⟩⟩
                          intro i x hi hx
                          rcases Nat.lt_or_eq_of_le (Nat.le_of_lt_succ hi) with hi' | rfl
                          · exact HI.out.2.2.2 i x hi' hx
                          · obtain rfl := Option.some.inj (hx.symm.trans HX.out)
                            exact ⟨e1, E2.out, HB.out, E5.out⟩
                        case measure => simp [intOf]; omega
                      · rw [e5] at FI
                        have E5 := Lib.hid e5
                        clear e5
                        go_wp2_with (go_at_call 38; refine FI.out.mono ?_; rintro e w5 ⟨rfl, hb5⟩)
                        go_ret
                        go_light
                        exact ⟨by rw [chk_queue HX.out (fun h => by have h1 := h.2.2.2; rw [E5.out] at h1; cases h1)]; rfl, by have := X4.out; (repeat' (first | (with_reducible exact Below.refl _ _) | (with_reducible assumption) | (with_reducible refine Below.alloc ?_ ?_ _) | (with_reducible refine Below.drew ?_) | (with_reducible refine below_drewN ?_) | (with_reducible refine Below.setCell ?_ ?_ _) | (with_reducible refine below_step ?_ ?_ (by with_reducible assumption)) | go_size))⟩
                  · have e3d : (joinB ym hm != hm) = true := by simpa using e3
                    have HB : Hid (¬(findM ht hs' l1 < 0 ∨ (joinB (modeM ht hs' l1) hm = hm ∧ modeM ht hs' l1 ≠ hm))) := Lib.hid (by rw [F1.out, F4.out]; exact fun h => h.elim (fun h => by omega) (fun h => e3 h.1))
                    clear e3
                    go_quiet (fail)
                    go_wp2
                    go_ret
                    go_light
                    exact ⟨by rw [chk_queue HX.out (fun h => HB.out h.2.2.1)]; rfl, below_drewN X3.out⟩
              · have E2 := Lib.hid e2
                go_wp2_with (first | (go_at_call 34; refine (shape_any ⟨ht, hs', hm⟩ _ hsz).mono ?_; rintro e w1 ⟨rfl, hb1⟩; have hz := hb1.size; (try simp only [World.size_alloc, World.size_setCell, World.size_drew, size_drewN] at hz); have t0 := cell_later hb1 t0; have t1 := cell_later hb1 t1; have t2 := cell_later hb1 t2; have k0 := cell_later hb1 k0; have k1 := cell_later hb1 k1; have z1 : wr.heap.size < w1.heap.size := (by omega)) | (go_at_call 32; refine (containsFunc_at _ (l2.take k) k p2 37 _ (sameX ⟨ht, hs', hm⟩) _ entersC2 KL.out ((H2.out.below (by (repeat' (first | (with_reducible exact Below.refl _ _) | (with_reducible assumption) | (with_reducible refine Below.alloc ?_ ?_ _) | (with_reducible refine Below.drew ?_) | (with_reducible refine below_drewN ?_) | (with_reducible refine Below.setCell ?_ ?_ _) | (with_reducible refine below_step ?_ ?_ (by with_reducible assumption)) | go_size))) (Nat.le_refl _)).take k) (check2_pred ⟨ht, hs', hm⟩ wr.heap.size _ _ (by omega) (by go_simp)) (by omega)).mono ?_; rw [e2]; rintro e w2 ⟨rfl, hb2⟩; have hz2 := hb2.size; have t0 := cell_later hb2 t0; have t1 := cell_later hb2 t1; have t2 := cell_later hb2 t2; have k0 := cell_later hb2 k0; have k1 := cell_later hb2 k1))
                go_ret
                go_light
                exact ⟨by rw [chk_queue HX.out (fun h => by have h1 := h.2.1; rw [E2.out] at h1; cases h1)]; rfl, by (repeat' (first | (with_reducible exact Below.refl _ _) | (with_reducible assumption) | (with_reducible refine Below.alloc ?_ ?_ _) | (with_reducible refine Below.drew ?_) | (with_reducible refine below_drewN ?_) | (with_reducible refine Below.setCell ?_ ?_ _) | (with_reducible refine below_step ?_ ?_ (by with_reducible assumption)) | go_size))⟩
            · have e1' : (shapeM ⟨ht, hs', hm⟩ != 0) = true := by simpa using e1
              go_wp2_with (go_at_call 34; refine (shape_any ⟨ht, hs', hm⟩ _ hsz).mono ?_; rintro e w1 ⟨rfl, hb1⟩; have hz := hb1.size; (try simp only [World.size_alloc, World.size_setCell, World.size_drew, size_drewN] at hz); have t0 := cell_later hb1 t0; have t1 := cell_later hb1 t1; have t2 := cell_later hb1 t2; have k0 := cell_later hb1 k0; have k1 := cell_later hb1 k1; have z1 : wr.heap.size < w1.heap.size := (by omega))
              go_ret
              go_light
              exact ⟨by rw [chk_queue HX.out (fun h => e1 h.1)]; rfl, by (repeat' (first | (with_reducible exact Below.refl _ _) | (with_reducible assumption) | (with_reducible refine Below.alloc ?_ ?_ _) | (with_reducible refine Below.drew ?_) | (with_reducible refine below_drewN ?_) | (with_reducible refine Below.setCell ?_ ?_ _) | (with_reducible refine below_step ?_ ?_ (by with_reducible assumption)) | go_size))⟩
          · obtain rfl : k = l2.length := by omega
            obtain ⟨b0, bel, sz2, hq⟩ := HI.out
            have HQ := Lib.hid hq
            have BE := Lib.hid bel
            clear HI hq b0 bel
            go_wp2
            go_ret
            go_light
            exact ⟨by rw [chk_yes_of (by omega) HS.out (fun j x hj => HH.out j x hj) (fun j x hj => HQ.out j x hj)]; rfl, BE.out⟩
  · rw [e0] at HC
    have E0 := Lib.hid e0
    clear e0
    go_enter Tryd.func15, Tryd.ntmps15
    go_wp2_with (go_at_call 32; refine (HC.out _).mono ?_; rintro e w1 ⟨rfl, hb1⟩)
    go_ret
    go_light
    exact ⟨by rw [chk_shape E0.out]; rfl, by have := B1.out; (repeat' (first | (with_reducible exact Below.refl _ _) | (with_reducible assumption) | (with_reducible refine Below.alloc ?_ ?_ _) | (with_reducible refine Below.drew ?_) | (with_reducible refine below_drewN ?_) | (with_reducible refine Below.setCell ?_ ?_ _) | (with_reducible refine below_step ?_ ?_ (by with_reducible assumption)) | go_size))⟩
end Go.Proofs.YtkehmidldcggcaaDoor
