/- The reference's LocksFault. -/
import Derived.Test.YtkehmidldcggcaaDoorLp
import Derived.Outline
set_option linter.unusedSimpArgs false
set_option linter.unusedVariables false
namespace Go.Proofs.YtkehmidldcggcaaDoor
open Go.RowKit Go.Joins
theorem slice_form {w : World} {base n : Nat} {v : Value} {l : List Value} (h : w.ownsRow base 3 1 v n l) : ∃ a c, v = .slice a n c := by
  rcases Joins.ownsRow_forms h with ⟨rfl, hv⟩ | ⟨g2, cap2, rfl⟩
  · exact ⟨none, 0, by rw [hv]⟩
  · exact ⟨_, _, rfl⟩
set_option maxRecDepth 100000 in
set_option maxHeartbeats 4000000 in
theorem locksFault_any (a1 a2 : Option Addr) (l1 l2 : List LK) (p1 p2 : Nat) (w : World) (h1 : LksAt w a1 l1) (h2 : LksAt w a2 l2) (n1 : l1.length ≤ 1048576) (n2 : l2.length ≤ 1048576) (q1 : l1.length ≤ p1) (q2 : l2.length ≤ p2) (m1 : ∀ x ∈ l1, x.s.size ≤ maxLen) (m2 : ∀ x ∈ l2, x.s.size ≤ maxLen) :
    Calls Tryd.prog 16 #[.agg #[.slice a1 l1.length p1, .slice a2 l2.length p2]] w fun e w' => e = .returned (.int .i64 (chkM l1 l2)) ∧ Below w.heap.size w w' := by
  have H1 := Lib.hid h1
  have H2 := Lib.hid h2
  have M1 := Lib.hid m1
  have M2 := Lib.hid m2
  clear h1 h2 m1 m2
  by_cases hs : 200 < l1.length + l2.length
  · go_enter Tryd.func16, Tryd.ntmps16
    go_wp2
    go_ret
    go_light
    exact ⟨by rw [chk_many hs]; rfl, by (repeat' (first | (with_reducible exact Below.refl _ _) | (with_reducible assumption) | (with_reducible refine Below.alloc ?_ ?_ _) | (with_reducible refine Below.drew ?_) | (with_reducible refine below_drewN ?_) | (with_reducible refine Below.setCell ?_ ?_ _) | (with_reducible refine below_step ?_ ?_ (by with_reducible assumption)) | go_size))⟩
  have hs' : l1.length + l2.length ≤ 200 := by omega
  clear hs
  go_enter Tryd.func16, Tryd.ntmps16
  go_wp2
  go_loopw [3] (fun i wr => ∃ k : Nat, k ≤ l1.length ∧ i = .int .i64 k ∧ Hid (wr.heap[w.heap.size]? = some (.cells #[.slice a1 l1.length p1, .slice a2 l2.length p2] 30 (0, 0)) ∧ Below w.heap.size w wr ∧ w.heap.size + 1 ≤ wr.heap.size ∧ ∀ j x, j < k → l1[j]? = some x → heldRef l1 j x)) (fun i _ => l1.length - (intOf i).toNat)
  case atStart => exact ⟨0, by omega, rfl, Lib.hid ⟨new_at _ _ _ rfl, Joins.below_alloc1 _ _, by simp, fun j _ hj => absurd hj (Nat.not_lt_zero _)⟩⟩
  case round =>
    obtain ⟨k, hk, rfl, HI⟩ := hrel
    by_cases hlt : k < l1.length
    · obtain ⟨b0, bel, sz, -⟩ := HI.out
      obtain ⟨h, hx⟩ : ∃ h, l1[k]? = some h := ⟨l1[k], by simp [hlt]⟩
      obtain ⟨b, o, rfl, hb, c0, c1', c2'⟩ := H1.out.at hx
      obtain ⟨ht, hs', hm⟩ := h
      simp only at c0 c1' c2'
      have k0 := Joins.cell_of_block b0 0
      have k1 := Joins.cell_of_block b0 1
      simp at k0 k1
      have c0 := (bel.cell (p := ⟨b, o + k * 3, none⟩) hb).trans c0
      have c1 := (bel.cell (p := ⟨b, o + k * 3 + 1, none⟩) hb).trans c1'
      have c2 := (bel.cell (p := ⟨b, o + k * 3 + 2, none⟩) hb).trans c2'
      have i1 : (0 : Int) ≤ (k : Int) := by omega
      have i2 : (k : Int) < (l1.length : Int) := by omega
      have B0 := Lib.hid b0
      have BE := Lib.hid bel
      have bel' := bel
      clear b0 bel
      go_wp2
      have bW := bel'.alloc (by omega) (.cells #[.int .i64 ht, .string hs', .int .i64 hm] 36)
      have t0 : (wr.alloc (.cells #[.int .i64 ht, .string hs', .int .i64 hm] 36)).cell? ⟨wr.heap.size, 0, none⟩ = some (.int .i64 ht) := by simp
      have t1 : (wr.alloc (.cells #[.int .i64 ht, .string hs', .int .i64 hm] 36)).cell? ⟨wr.heap.size, 1, none⟩ = some (.string hs') := by simp
      have t2 : (wr.alloc (.cells #[.int .i64 ht, .string hs', .int .i64 hm] 36)).cell? ⟨wr.heap.size, 2, none⟩ = some (.int .i64 hm) := by simp
      have k0 := (cell_later (Joins.below_alloc1 wr (.cells #[.int .i64 ht, .string hs', .int .i64 hm] 36)) k0)
      have zW : wr.heap.size < (wr.alloc (.cells #[.int .i64 ht, .string hs', .int .i64 hm] 36)).heap.size := by simp
      have WB := Lib.hid (Below.heap_alloc wr (.cells #[.int .i64 ht, .string hs', .int .i64 hm] 36) w.heap.size (by omega))
      generalize hW : wr.alloc (.cells #[.int .i64 ht, .string hs', .int .i64 hm] 36) = W at bW t0 t1 t2 k0 zW WB ⊢
      have hsz : hs'.size ≤ maxLen := M1.out _ (List.mem_of_getElem? hx)
      have HX := Lib.hid hx
      have bW' := Lib.hid bW
      have HL := Lib.hid (H1.out.below bel' (Nat.le_refl _))
      clear hx bW bel'
      by_cases e1 : shapeM ⟨ht, hs', hm⟩ = 0
      · have e1' : (shapeM ⟨ht, hs', hm⟩ != 0) = false := by simpa using e1
        have kp : (k : Int) ≤ (p1 : Int) := by omega
        have kl : (l1.take k).length = k := by rw [List.length_take]; omega
        have KL := Lib.hid kl
        clear kl
        refine wp_cut (fun w' : World => w'.cell? ⟨wr.heap.size, 0, none⟩ = some (.int .i64 ht) ∧ w'.cell? ⟨wr.heap.size, 1, none⟩ = some (.string hs') ∧ w'.cell? ⟨wr.heap.size, 2, none⟩ = some (.int .i64 hm) ∧ w'.cell? ⟨w.heap.size, 0, none⟩ = some (.slice (some ⟨b, o, none⟩) l1.length p1)) 22 (by kernel_rfl) (by kernel_rfl) (fun inv => ?_)
        ((refine anyT_take (i := 0) (v := ?_) rfl (by kernel_rfl) (by kernel_rfl) (by kernel_rfl) (fun _ _ _ h => h) (Or.inl ⟨by rfl, ?_⟩) ⟨t0, t1, t2, k0⟩ inv (fun inv => ?_); rotate_left; (· (intro w hSw; (try dsimp only at hSw); go_simp; with_reducible rfl)); (try simp only [Act.put, List.getElem_toArray, List.getElem_cons_zero, List.getElem_cons_succ, List.setIfInBounds_toArray, List.set_cons_zero, List.set_cons_succ])))
        (refine anyT_step (i := 1) rfl (by kernel_rfl) (by decide) inv (fun K hK => ?_); go_simp; go_at_call 39; refine (lockFault_any ⟨ht, hs', hm⟩ _ hsz).mono ?_; rintro e w1 ⟨rfl, hbw1⟩; have hz := hbw1.size; (try simp only [World.size_alloc, World.size_setCell, World.size_drew, size_drewN] at hz); (refine hK _ _ ⟨cell_later hbw1 t0, cell_later hbw1 t1, cell_later hbw1 t2, cell_later hbw1 k0⟩ (fun inv => ?_); clear hK K; (try simp only [Act.put, List.getElem_toArray, List.getElem_cons_zero, List.getElem_cons_succ, List.setIfInBounds_toArray, List.set_cons_zero, List.set_cons_succ])))
        have t0 := cell_later hbw1 t0
        have t1 := cell_later hbw1 t1
        have t2 := cell_later hbw1 t2
        have k0 := cell_later hbw1 k0
        have HL1 := Lib.hid ((H1.out.below (show Below w.heap.size w w1 by have bW := bW'.out; (repeat' (first | (with_reducible exact Below.refl _ _) | (with_reducible assumption) | (with_reducible refine Below.alloc ?_ ?_ _) | (with_reducible refine Below.drew ?_) | (with_reducible refine below_drewN ?_) | (with_reducible refine Below.setCell ?_ ?_ _) | (with_reducible refine below_step ?_ ?_ (by with_reducible assumption)) | go_size))) (Nat.le_refl _)).take k)
        ((refine anyT_take (i := 2) (v := ?_) rfl (by kernel_rfl) (by kernel_rfl) (by kernel_rfl) (fun _ _ _ h => h) (Or.inl ⟨by rfl, ?_⟩) ⟨t0, t1, t2, k0⟩ inv (fun inv => ?_); rotate_left; (· (intro w hSw; (try dsimp only at hSw); go_simp; with_reducible rfl)); (try simp only [Act.put, List.getElem_toArray, List.getElem_cons_zero, List.getElem_cons_succ, List.setIfInBounds_toArray, List.set_cons_zero, List.set_cons_succ])); (refine anyT_take (i := 3) (v := ?_) rfl (by kernel_rfl) (by kernel_rfl) (by kernel_rfl) (fun _ _ _ h => h) (Or.inl ⟨by rfl, ?_⟩) ⟨t0, t1, t2, k0⟩ inv (fun inv => ?_); rotate_left; (· (intro w hSw; (try dsimp only at hSw); go_simp; with_reducible rfl)); (try simp only [Act.put, List.getElem_toArray, List.getElem_cons_zero, List.getElem_cons_succ, List.setIfInBounds_toArray, List.set_cons_zero, List.set_cons_succ])); (refine anyT_take (i := 4) (v := ?_) rfl (by kernel_rfl) (by kernel_rfl) (by kernel_rfl) (fun _ _ _ h => h) (Or.inl ⟨by rfl, ?_⟩) ⟨t0, t1, t2, k0⟩ inv (fun inv => ?_); rotate_left; (· (intro w hSw; (try dsimp only at hSw); go_simp; with_reducible rfl)); (try simp only [Act.put, List.getElem_toArray, List.getElem_cons_zero, List.getElem_cons_succ, List.setIfInBounds_toArray, List.set_cons_zero, List.set_cons_succ])); (refine anyT_take (i := 5) (v := ?_) rfl (by kernel_rfl) (by kernel_rfl) (by kernel_rfl) (fun _ _ _ h => h) (Or.inl ⟨by rfl, ?_⟩) ⟨t0, t1, t2, k0⟩ inv (fun inv => ?_); rotate_left; (· (intro w hSw; (try dsimp only at hSw); go_simp; with_reducible rfl)); (try simp only [Act.put, List.getElem_toArray, List.getElem_cons_zero, List.getElem_cons_succ, List.setIfInBounds_toArray, List.set_cons_zero, List.set_cons_succ])); (refine anyT_take (i := 6) (v := ?_) rfl (by kernel_rfl) (by kernel_rfl) (by kernel_rfl) (fun _ _ _ h => h) (Or.inl ⟨by rfl, ?_⟩) ⟨t0, t1, t2, k0⟩ inv (fun inv => ?_); rotate_left; (· (intro w hSw; (try dsimp only at hSw); go_simp; with_reducible rfl)); (try simp only [Act.put, List.getElem_toArray, List.getElem_cons_zero, List.getElem_cons_succ, List.setIfInBounds_toArray, List.set_cons_zero, List.set_cons_succ])); (refine anyT_take (i := 7) (v := ?_) rfl (by kernel_rfl) (by kernel_rfl) (by kernel_rfl) (fun _ _ _ h => h) (Or.inl ⟨by rfl, ?_⟩) ⟨t0, t1, t2, k0⟩ inv (fun inv => ?_); rotate_left; (· (intro w hSw; (try dsimp only at hSw); go_simp; with_reducible rfl)); (try simp only [Act.put, List.getElem_toArray, List.getElem_cons_zero, List.getElem_cons_succ, List.setIfInBounds_toArray, List.set_cons_zero, List.set_cons_succ])); (refine anyT_take (i := 8) (v := ?_) rfl (by kernel_rfl) (by kernel_rfl) (by kernel_rfl) (fun _ _ _ h => h) (Or.inl ⟨by rfl, ?_⟩) ⟨t0, t1, t2, k0⟩ inv (fun inv => ?_); rotate_left; (· (intro w hSw; (try dsimp only at hSw); go_simp; with_reducible rfl)); (try simp only [Act.put, List.getElem_toArray, List.getElem_cons_zero, List.getElem_cons_succ, List.setIfInBounds_toArray, List.set_cons_zero, List.set_cons_succ])); (refine anyT_take (i := 9) (v := ?_) rfl (by kernel_rfl) (by kernel_rfl) (by kernel_rfl) (fun _ _ _ h => h) (Or.inl ⟨by rfl, ?_⟩) ⟨t0, t1, t2, k0⟩ inv (fun inv => ?_); rotate_left; (· (intro w hSw; (try dsimp only at hSw); go_simp; with_reducible rfl)); (try simp only [Act.put, List.getElem_toArray, List.getElem_cons_zero, List.getElem_cons_succ, List.setIfInBounds_toArray, List.set_cons_zero, List.set_cons_succ])); (refine anyT_take (i := 10) (v := ?_) rfl (by kernel_rfl) (by kernel_rfl) (by kernel_rfl) (fun _ _ _ h => h) (Or.inl ⟨by rfl, ?_⟩) ⟨t0, t1, t2, k0⟩ inv (fun inv => ?_); rotate_left; (· (intro w hSw; (try dsimp only at hSw); go_simp; with_reducible rfl)); (try simp only [Act.put, List.getElem_toArray, List.getElem_cons_zero, List.getElem_cons_succ, List.setIfInBounds_toArray, List.set_cons_zero, List.set_cons_succ])); (refine anyT_take (i := 11) (v := ?_) rfl (by kernel_rfl) (by kernel_rfl) (by kernel_rfl) (fun _ _ _ h => h) (Or.inl ⟨by rfl, ?_⟩) ⟨t0, t1, t2, k0⟩ inv (fun inv => ?_); rotate_left; (· (intro w hSw; (try dsimp only at hSw); go_simp; with_reducible rfl)); (try simp only [Act.put, List.getElem_toArray, List.getElem_cons_zero, List.getElem_cons_succ, List.setIfInBounds_toArray, List.set_cons_zero, List.set_cons_succ])))
        by_cases e2 : 0 < modeM ht hs' (l1.take k)
        · (refine anyT_step (i := 12) rfl (by kernel_rfl) (by decide) inv (fun K hK => ?_); go_simp; go_at_call 40; refine (modeOf_at _ (l1.take k) k p1 ht hs' _ KL.out HL1.out (by omega)).mono ?_; rintro e w' ⟨rfl, rfl⟩; (refine hK _ _ ⟨t0, t1, t2, k0⟩ (fun inv => ?_); clear hK K; (try simp only [Act.put, List.getElem_toArray, List.getElem_cons_zero, List.getElem_cons_succ, List.setIfInBounds_toArray, List.set_cons_zero, List.set_cons_succ])))
          ((refine anyT_take (i := 13) (v := ?_) rfl (by kernel_rfl) (by kernel_rfl) (by kernel_rfl) (fun _ _ _ h => h) (Or.inl ⟨by rfl, ?_⟩) ⟨t0, t1, t2, k0⟩ inv (fun inv => ?_); rotate_left; (· (intro w hSw; (try dsimp only at hSw); go_simp; with_reducible rfl)); (try simp only [Act.put, List.getElem_toArray, List.getElem_cons_zero, List.getElem_cons_succ, List.setIfInBounds_toArray, List.set_cons_zero, List.set_cons_succ])); (refine anyT_take (i := 14) (v := ?_) rfl (by kernel_rfl) (by kernel_rfl) (by kernel_rfl) (fun _ _ _ h => h) (Or.inl ⟨by rfl, ?_⟩) ⟨t0, t1, t2, k0⟩ inv (fun inv => ?_); rotate_left; (· (intro w hSw; (try dsimp only at hSw); go_simp; with_reducible rfl)); (try simp only [Act.put, List.getElem_toArray, List.getElem_cons_zero, List.getElem_cons_succ, List.setIfInBounds_toArray, List.set_cons_zero, List.set_cons_succ])); (refine anyT_take (i := 15) (v := ?_) rfl (by kernel_rfl) (by kernel_rfl) (by kernel_rfl) (fun _ _ _ h => h) (Or.inl ⟨by rfl, ?_⟩) ⟨t0, t1, t2, k0⟩ inv (fun inv => ?_); rotate_left; (· (intro w hSw; (try dsimp only at hSw); go_simp; with_reducible rfl)); (try simp only [Act.put, List.getElem_toArray, List.getElem_cons_zero, List.getElem_cons_succ, List.setIfInBounds_toArray, List.set_cons_zero, List.set_cons_succ])))
          ((refine anyT_take (i := 16) (v := _) rfl (by kernel_rfl) (by kernel_rfl) (by kernel_rfl) (fun _ _ _ h => h) (Or.inr ⟨by rfl, rfl⟩) ⟨t0, t1, t2, k0⟩ inv (fun inv => ?_); (try simp only [Act.put, List.getElem_toArray, List.getElem_cons_zero, List.getElem_cons_succ, List.setIfInBounds_toArray, List.set_cons_zero, List.set_cons_succ])); (refine anyT_take (i := 17) (v := _) rfl (by kernel_rfl) (by kernel_rfl) (by kernel_rfl) (fun _ _ _ h => h) (Or.inr ⟨by rfl, rfl⟩) ⟨t0, t1, t2, k0⟩ inv (fun inv => ?_); (try simp only [Act.put, List.getElem_toArray, List.getElem_cons_zero, List.getElem_cons_succ, List.setIfInBounds_toArray, List.set_cons_zero, List.set_cons_succ])); (refine anyT_take (i := 18) (v := _) rfl (by kernel_rfl) (by kernel_rfl) (by kernel_rfl) (fun _ _ _ h => h) (Or.inr ⟨by rfl, rfl⟩) ⟨t0, t1, t2, k0⟩ inv (fun inv => ?_); (try simp only [Act.put, List.getElem_toArray, List.getElem_cons_zero, List.getElem_cons_succ, List.setIfInBounds_toArray, List.set_cons_zero, List.set_cons_succ])); (refine anyT_take (i := 19) (v := _) rfl (by kernel_rfl) (by kernel_rfl) (by kernel_rfl) (fun _ _ _ h => h) (Or.inr ⟨by rfl, rfl⟩) ⟨t0, t1, t2, k0⟩ inv (fun inv => ?_); (try simp only [Act.put, List.getElem_toArray, List.getElem_cons_zero, List.getElem_cons_succ, List.setIfInBounds_toArray, List.set_cons_zero, List.set_cons_succ])); (refine anyT_take (i := 20) (v := _) rfl (by kernel_rfl) (by kernel_rfl) (by kernel_rfl) (fun _ _ _ h => h) (Or.inr ⟨by rfl, rfl⟩) ⟨t0, t1, t2, k0⟩ inv (fun inv => ?_); (try simp only [Act.put, List.getElem_toArray, List.getElem_cons_zero, List.getElem_cons_succ, List.setIfInBounds_toArray, List.set_cons_zero, List.set_cons_succ])); (refine anyT_take (i := 21) (v := _) rfl (by kernel_rfl) (by kernel_rfl) (by kernel_rfl) (fun _ _ _ h => h) (Or.inr ⟨by rfl, rfl⟩) ⟨t0, t1, t2, k0⟩ inv (fun inv => ?_); (try simp only [Act.put, List.getElem_toArray, List.getElem_cons_zero, List.getElem_cons_succ, List.setIfInBounds_toArray, List.set_cons_zero, List.set_cons_succ])))
          (refine anyT_end (by kernel_rfl) ?_; simp only [List.drop_succ_cons, List.drop_zero])
          go_wp2
          go_ret
          go_light
          exact ⟨by rw [chk_ref_held HX.out (fun h => by have : modeM ht hs' (l1.take k) ≤ 0 := h.2.1; omega)]; rfl, by have bW := bW'.out; (repeat' (first | (with_reducible exact Below.refl _ _) | (with_reducible assumption) | (with_reducible refine Below.alloc ?_ ?_ _) | (with_reducible refine Below.drew ?_) | (with_reducible refine below_drewN ?_) | (with_reducible refine Below.setCell ?_ ?_ _) | (with_reducible refine below_step ?_ ?_ (by with_reducible assumption)) | go_size))⟩
        · have e2' : modeM ht hs' (l1.take k) ≤ 0 := by omega
          have e2d : decide ((0 : Int) < modeM ht hs' (l1.take k)) = false := by simpa using e2'
          have E2 := Lib.hid e2'
          clear e2 e2'
          (refine anyT_step (i := 12) rfl (by kernel_rfl) (by decide) inv (fun K hK => ?_); go_simp; go_at_call 40; refine (modeOf_at _ (l1.take k) k p1 ht hs' _ KL.out HL1.out (by omega)).mono ?_; rintro e w' ⟨rfl, rfl⟩; (refine hK _ _ ⟨t0, t1, t2, k0⟩ (fun inv => ?_); clear hK K; (try simp only [Act.put, List.getElem_toArray, List.getElem_cons_zero, List.getElem_cons_succ, List.setIfInBounds_toArray, List.set_cons_zero, List.set_cons_succ])))
          ((refine anyT_take (i := 13) (v := ?_) rfl (by kernel_rfl) (by kernel_rfl) (by kernel_rfl) (fun _ _ _ h => h) (Or.inl ⟨by rfl, ?_⟩) ⟨t0, t1, t2, k0⟩ inv (fun inv => ?_); rotate_left; (· (intro w hSw; (try dsimp only at hSw); go_simp; with_reducible rfl)); (try simp only [Act.put, List.getElem_toArray, List.getElem_cons_zero, List.getElem_cons_succ, List.setIfInBounds_toArray, List.set_cons_zero, List.set_cons_succ])); (refine anyT_take (i := 14) (v := ?_) rfl (by kernel_rfl) (by kernel_rfl) (by kernel_rfl) (fun _ _ _ h => h) (Or.inl ⟨by rfl, ?_⟩) ⟨t0, t1, t2, k0⟩ inv (fun inv => ?_); rotate_left; (· (intro w hSw; (try dsimp only at hSw); go_simp; with_reducible rfl)); (try simp only [Act.put, List.getElem_toArray, List.getElem_cons_zero, List.getElem_cons_succ, List.setIfInBounds_toArray, List.set_cons_zero, List.set_cons_succ])); (refine anyT_take (i := 15) (v := ?_) rfl (by kernel_rfl) (by kernel_rfl) (by kernel_rfl) (fun _ _ _ h => h) (Or.inl ⟨by rfl, ?_⟩) ⟨t0, t1, t2, k0⟩ inv (fun inv => ?_); rotate_left; (· (intro w hSw; (try dsimp only at hSw); go_simp; with_reducible rfl)); (try simp only [Act.put, List.getElem_toArray, List.getElem_cons_zero, List.getElem_cons_succ, List.setIfInBounds_toArray, List.set_cons_zero, List.set_cons_succ])); (refine anyT_take (i := 16) (v := ?_) rfl (by kernel_rfl) (by kernel_rfl) (by kernel_rfl) (fun _ _ _ h => h) (Or.inl ⟨by rfl, ?_⟩) ⟨t0, t1, t2, k0⟩ inv (fun inv => ?_); rotate_left; (· (intro w hSw; (try dsimp only at hSw); go_simp; with_reducible rfl)); (try simp only [Act.put, List.getElem_toArray, List.getElem_cons_zero, List.getElem_cons_succ, List.setIfInBounds_toArray, List.set_cons_zero, List.set_cons_succ])); (refine anyT_take (i := 17) (v := ?_) rfl (by kernel_rfl) (by kernel_rfl) (by kernel_rfl) (fun _ _ _ h => h) (Or.inl ⟨by rfl, ?_⟩) ⟨t0, t1, t2, k0⟩ inv (fun inv => ?_); rotate_left; (· (intro w hSw; (try dsimp only at hSw); go_simp; with_reducible rfl)); (try simp only [Act.put, List.getElem_toArray, List.getElem_cons_zero, List.getElem_cons_succ, List.setIfInBounds_toArray, List.set_cons_zero, List.set_cons_succ])); (refine anyT_take (i := 18) (v := ?_) rfl (by kernel_rfl) (by kernel_rfl) (by kernel_rfl) (fun _ _ _ h => h) (Or.inl ⟨by rfl, ?_⟩) ⟨t0, t1, t2, k0⟩ inv (fun inv => ?_); rotate_left; (· (intro w hSw; (try dsimp only at hSw); go_simp; with_reducible rfl)); (try simp only [Act.put, List.getElem_toArray, List.getElem_cons_zero, List.getElem_cons_succ, List.setIfInBounds_toArray, List.set_cons_zero, List.set_cons_succ])))
          have HL2 := Lib.hid (H1.out.below (show Below w.heap.size w w1 by have bW := bW'.out; (repeat' (first | (with_reducible exact Below.refl _ _) | (with_reducible assumption) | (with_reducible refine Below.alloc ?_ ?_ _) | (with_reducible refine Below.drew ?_) | (with_reducible refine below_drewN ?_) | (with_reducible refine Below.setCell ?_ ?_ _) | (with_reducible refine below_step ?_ ?_ (by with_reducible assumption)) | go_size))) (Nat.le_refl _))
          have al := agM_len ⟨ht, hs', hm⟩ l1
          by_cases e3 : agM ⟨ht, hs', hm⟩ l1 = []
          · (refine anyT_step (i := 19) rfl (by kernel_rfl) (by decide) inv (fun K hK => ?_); go_simp; go_at_call 41; refine (against_any _ l1 _ ⟨ht, hs', hm⟩ _ HL2.out (by omega)).mono ?_; rintro e w2 ⟨⟨v1, rfl, own1⟩, hbw2⟩; have hz := hbw2.size; (try simp only [World.size_alloc, World.size_setCell, World.size_drew, size_drewN] at hz); (refine hK _ _ ⟨cell_later hbw2 t0, cell_later hbw2 t1, cell_later hbw2 t2, cell_later hbw2 k0⟩ (fun inv => ?_); clear hK K; (try simp only [Act.put, List.getElem_toArray, List.getElem_cons_zero, List.getElem_cons_succ, List.setIfInBounds_toArray, List.set_cons_zero, List.set_cons_succ])))
            have t0 := cell_later hbw2 t0
            have t1 := cell_later hbw2 t1
            have t2 := cell_later hbw2 t2
            have k0 := cell_later hbw2 k0
            rw [e3] at own1
            simp only [List.length_nil] at own1
            rcases Joins.ownsRow_forms own1 with ⟨rfl, hv⟩ | ⟨g2, cap2, rfl⟩
            all_goals
              clear own1
              ((refine anyT_take (i := 20) (v := ?_) rfl (by kernel_rfl) (by kernel_rfl) (by kernel_rfl) (fun _ _ _ h => h) (Or.inl ⟨by rfl, ?_⟩) ⟨t0, t1, t2, k0⟩ inv (fun inv => ?_); rotate_left; (· (intro w hSw; (try dsimp only at hSw); go_simp; with_reducible rfl)); (try simp only [Act.put, List.getElem_toArray, List.getElem_cons_zero, List.getElem_cons_succ, List.setIfInBounds_toArray, List.set_cons_zero, List.set_cons_succ])); (refine anyT_take (i := 21) (v := ?_) rfl (by kernel_rfl) (by kernel_rfl) (by kernel_rfl) (fun _ _ _ h => h) (Or.inl ⟨by rfl, ?_⟩) ⟨t0, t1, t2, k0⟩ inv (fun inv => ?_); rotate_left; (· (intro w hSw; (try dsimp only at hSw); go_simp; with_reducible rfl)); (try simp only [Act.put, List.getElem_toArray, List.getElem_cons_zero, List.getElem_cons_succ, List.setIfInBounds_toArray, List.set_cons_zero, List.set_cons_succ])))
              (refine anyT_end (by kernel_rfl) ?_; simp only [List.drop_succ_cons, List.drop_zero])
              go_wp2
              go_roundw
              case rel =>
                have bW := bW'.out
                refine ⟨k + 1, by omega, by go_num, Lib.hid ⟨?_, by (repeat' (first | (with_reducible exact Below.refl _ _) | (with_reducible assumption) | (with_reducible refine Below.alloc ?_ ?_ _) | (with_reducible refine Below.drew ?_) | (with_reducible refine below_drewN ?_) | (with_reducible refine Below.setCell ?_ ?_ _) | (with_reducible refine below_step ?_ ?_ (by with_reducible assumption)) | go_size)), ?_, ?_⟩⟩
                · refine (hbw2.block _ (by first | omega | (simp; omega))).trans ((hbw1.block _ (by first | omega | (simp; omega))).trans ?_)
                  exact WB.out.trans B0.out
                · have := hbw2.size
                  have := hbw1.size
                  simp at *
                  omega
                · intro j x hj hx
                  rcases Nat.lt_or_eq_of_le (Nat.le_of_lt_succ hj) with hj' | rfl
                  · exact HI.out.2.2.2 j x hj' hx
                  · obtain rfl := Option.some.inj (hx.symm.trans HX.out)
                    exact ⟨e1, E2.out, e3⟩
              case measure => simp [intOf]; omega
          · obtain ⟨m, hm'⟩ : ∃ m, (agM ⟨ht, hs', hm⟩ l1).length = m + 1 := ⟨(agM ⟨ht, hs', hm⟩ l1).length - 1, by have := List.length_pos_iff.2 e3; omega⟩
            have E3 := Lib.hid e3
            have mp : (0 : Int) < (m : Int) + 1 := by omega
            (refine anyT_step (i := 19) rfl (by kernel_rfl) (by decide) inv (fun K hK => ?_); go_simp; go_at_call 41; refine (against_any _ l1 _ ⟨ht, hs', hm⟩ _ HL2.out (by omega)).mono ?_; rintro e w2 ⟨⟨v1, rfl, own1⟩, hbw2⟩; have hz := hbw2.size; (try simp only [World.size_alloc, World.size_setCell, World.size_drew, size_drewN] at hz); (refine hK _ _ ⟨cell_later hbw2 t0, cell_later hbw2 t1, cell_later hbw2 t2, cell_later hbw2 k0⟩ (fun inv => ?_); clear hK K; (try simp only [Act.put, List.getElem_toArray, List.getElem_cons_zero, List.getElem_cons_succ, List.setIfInBounds_toArray, List.set_cons_zero, List.set_cons_succ])))
            have t0 := cell_later hbw2 t0
            have t1 := cell_later hbw2 t1
            have t2 := cell_later hbw2 t2
            have k0 := cell_later hbw2 k0
            rw [hm'] at own1
            rcases Joins.ownsRow_forms own1 with ⟨-, hv⟩ | ⟨g2, cap2, rfl⟩
            · omega
            clear own1 hm' al e3
            ((refine anyT_take (i := 20) (v := ?_) rfl (by kernel_rfl) (by kernel_rfl) (by kernel_rfl) (fun _ _ _ h => h) (Or.inl ⟨by rfl, ?_⟩) ⟨t0, t1, t2, k0⟩ inv (fun inv => ?_); rotate_left; (· (intro w hSw; (try dsimp only at hSw); go_simp; with_reducible rfl)); (try simp only [Act.put, List.getElem_toArray, List.getElem_cons_zero, List.getElem_cons_succ, List.setIfInBounds_toArray, List.set_cons_zero, List.set_cons_succ])); (refine anyT_take (i := 21) (v := ?_) rfl (by kernel_rfl) (by kernel_rfl) (by kernel_rfl) (fun _ _ _ h => h) (Or.inl ⟨by rfl, ?_⟩) ⟨t0, t1, t2, k0⟩ inv (fun inv => ?_); rotate_left; (· (intro w hSw; (try dsimp only at hSw); go_simp; with_reducible rfl)); (try simp only [Act.put, List.getElem_toArray, List.getElem_cons_zero, List.getElem_cons_succ, List.setIfInBounds_toArray, List.set_cons_zero, List.set_cons_succ])))
            (refine anyT_end (by kernel_rfl) ?_; simp only [List.drop_succ_cons, List.drop_zero])
            go_wp2
            go_ret
            go_light
            exact ⟨by rw [chk_ref_held HX.out (fun h => E3.out h.2.2)]; rfl, by have bW := bW'.out; (repeat' (first | (with_reducible exact Below.refl _ _) | (with_reducible assumption) | (with_reducible refine Below.alloc ?_ ?_ _) | (with_reducible refine Below.drew ?_) | (with_reducible refine below_drewN ?_) | (with_reducible refine Below.setCell ?_ ?_ _) | (with_reducible refine below_step ?_ ?_ (by with_reducible assumption)) | go_size))⟩
      · refine wp_cut (fun w' : World => w'.cell? ⟨wr.heap.size, 0, none⟩ = some (.int .i64 ht) ∧ w'.cell? ⟨wr.heap.size, 1, none⟩ = some (.string hs') ∧ w'.cell? ⟨wr.heap.size, 2, none⟩ = some (.int .i64 hm) ∧ w'.cell? ⟨w.heap.size, 0, none⟩ = some (.slice (some ⟨b, o, none⟩) l1.length p1)) 22 (by kernel_rfl) (by kernel_rfl) (fun inv => ?_)
        ((refine anyT_take (i := 0) (v := ?_) rfl (by kernel_rfl) (by kernel_rfl) (by kernel_rfl) (fun _ _ _ h => h) (Or.inl ⟨by rfl, ?_⟩) ⟨t0, t1, t2, k0⟩ inv (fun inv => ?_); rotate_left; (· (intro w hSw; (try dsimp only at hSw); go_simp; with_reducible rfl)); (try simp only [Act.put, List.getElem_toArray, List.getElem_cons_zero, List.getElem_cons_succ, List.setIfInBounds_toArray, List.set_cons_zero, List.set_cons_succ])))
        (refine anyT_step (i := 1) rfl (by kernel_rfl) (by decide) inv (fun K hK => ?_); go_simp; go_at_call 39; refine (lockFault_any ⟨ht, hs', hm⟩ _ hsz).mono ?_; rintro e w1 ⟨rfl, hbw1⟩; have hz := hbw1.size; (try simp only [World.size_alloc, World.size_setCell, World.size_drew, size_drewN] at hz); (refine hK _ _ ⟨cell_later hbw1 t0, cell_later hbw1 t1, cell_later hbw1 t2, cell_later hbw1 k0⟩ (fun inv => ?_); clear hK K; (try simp only [Act.put, List.getElem_toArray, List.getElem_cons_zero, List.getElem_cons_succ, List.setIfInBounds_toArray, List.set_cons_zero, List.set_cons_succ])))
        have t0 := cell_later hbw1 t0
        have t1 := cell_later hbw1 t1
        have t2 := cell_later hbw1 t2
        have k0 := cell_later hbw1 k0
        have e1' : (shapeM ⟨ht, hs', hm⟩ != 0) = true := by simpa using e1
        ((refine anyT_take (i := 2) (v := ?_) rfl (by kernel_rfl) (by kernel_rfl) (by kernel_rfl) (fun _ _ _ h => h) (Or.inl ⟨by rfl, ?_⟩) ⟨t0, t1, t2, k0⟩ inv (fun inv => ?_); rotate_left; (· (intro w hSw; (try dsimp only at hSw); go_simp; with_reducible rfl)); (try simp only [Act.put, List.getElem_toArray, List.getElem_cons_zero, List.getElem_cons_succ, List.setIfInBounds_toArray, List.set_cons_zero, List.set_cons_succ])); (refine anyT_take (i := 3) (v := ?_) rfl (by kernel_rfl) (by kernel_rfl) (by kernel_rfl) (fun _ _ _ h => h) (Or.inl ⟨by rfl, ?_⟩) ⟨t0, t1, t2, k0⟩ inv (fun inv => ?_); rotate_left; (· (intro w hSw; (try dsimp only at hSw); go_simp; with_reducible rfl)); (try simp only [Act.put, List.getElem_toArray, List.getElem_cons_zero, List.getElem_cons_succ, List.setIfInBounds_toArray, List.set_cons_zero, List.set_cons_succ])))
        ((refine anyT_take (i := 4) (v := _) rfl (by kernel_rfl) (by kernel_rfl) (by kernel_rfl) (fun _ _ _ h => h) (Or.inr ⟨by rfl, rfl⟩) ⟨t0, t1, t2, k0⟩ inv (fun inv => ?_); (try simp only [Act.put, List.getElem_toArray, List.getElem_cons_zero, List.getElem_cons_succ, List.setIfInBounds_toArray, List.set_cons_zero, List.set_cons_succ])); (refine anyT_take (i := 5) (v := _) rfl (by kernel_rfl) (by kernel_rfl) (by kernel_rfl) (fun _ _ _ h => h) (Or.inr ⟨by rfl, rfl⟩) ⟨t0, t1, t2, k0⟩ inv (fun inv => ?_); (try simp only [Act.put, List.getElem_toArray, List.getElem_cons_zero, List.getElem_cons_succ, List.setIfInBounds_toArray, List.set_cons_zero, List.set_cons_succ])); (refine anyT_take (i := 6) (v := _) rfl (by kernel_rfl) (by kernel_rfl) (by kernel_rfl) (fun _ _ _ h => h) (Or.inr ⟨by rfl, rfl⟩) ⟨t0, t1, t2, k0⟩ inv (fun inv => ?_); (try simp only [Act.put, List.getElem_toArray, List.getElem_cons_zero, List.getElem_cons_succ, List.setIfInBounds_toArray, List.set_cons_zero, List.set_cons_succ])); (refine anyT_take (i := 7) (v := _) rfl (by kernel_rfl) (by kernel_rfl) (by kernel_rfl) (fun _ _ _ h => h) (Or.inr ⟨by rfl, rfl⟩) ⟨t0, t1, t2, k0⟩ inv (fun inv => ?_); (try simp only [Act.put, List.getElem_toArray, List.getElem_cons_zero, List.getElem_cons_succ, List.setIfInBounds_toArray, List.set_cons_zero, List.set_cons_succ])); (refine anyT_take (i := 8) (v := _) rfl (by kernel_rfl) (by kernel_rfl) (by kernel_rfl) (fun _ _ _ h => h) (Or.inr ⟨by rfl, rfl⟩) ⟨t0, t1, t2, k0⟩ inv (fun inv => ?_); (try simp only [Act.put, List.getElem_toArray, List.getElem_cons_zero, List.getElem_cons_succ, List.setIfInBounds_toArray, List.set_cons_zero, List.set_cons_succ])); (refine anyT_take (i := 9) (v := _) rfl (by kernel_rfl) (by kernel_rfl) (by kernel_rfl) (fun _ _ _ h => h) (Or.inr ⟨by rfl, rfl⟩) ⟨t0, t1, t2, k0⟩ inv (fun inv => ?_); (try simp only [Act.put, List.getElem_toArray, List.getElem_cons_zero, List.getElem_cons_succ, List.setIfInBounds_toArray, List.set_cons_zero, List.set_cons_succ])); (refine anyT_take (i := 10) (v := _) rfl (by kernel_rfl) (by kernel_rfl) (by kernel_rfl) (fun _ _ _ h => h) (Or.inr ⟨by rfl, rfl⟩) ⟨t0, t1, t2, k0⟩ inv (fun inv => ?_); (try simp only [Act.put, List.getElem_toArray, List.getElem_cons_zero, List.getElem_cons_succ, List.setIfInBounds_toArray, List.set_cons_zero, List.set_cons_succ])); (refine anyT_take (i := 11) (v := _) rfl (by kernel_rfl) (by kernel_rfl) (by kernel_rfl) (fun _ _ _ h => h) (Or.inr ⟨by rfl, rfl⟩) ⟨t0, t1, t2, k0⟩ inv (fun inv => ?_); (try simp only [Act.put, List.getElem_toArray, List.getElem_cons_zero, List.getElem_cons_succ, List.setIfInBounds_toArray, List.set_cons_zero, List.set_cons_succ])); (refine anyT_take (i := 12) (v := _) rfl (by kernel_rfl) (by kernel_rfl) (by kernel_rfl) (fun _ _ _ h => h) (Or.inr ⟨by rfl, rfl⟩) ⟨t0, t1, t2, k0⟩ inv (fun inv => ?_); (try simp only [Act.put, List.getElem_toArray, List.getElem_cons_zero, List.getElem_cons_succ, List.setIfInBounds_toArray, List.set_cons_zero, List.set_cons_succ])); (refine anyT_take (i := 13) (v := _) rfl (by kernel_rfl) (by kernel_rfl) (by kernel_rfl) (fun _ _ _ h => h) (Or.inr ⟨by rfl, rfl⟩) ⟨t0, t1, t2, k0⟩ inv (fun inv => ?_); (try simp only [Act.put, List.getElem_toArray, List.getElem_cons_zero, List.getElem_cons_succ, List.setIfInBounds_toArray, List.set_cons_zero, List.set_cons_succ])))
        ((refine anyT_take (i := 14) (v := ?_) rfl (by kernel_rfl) (by kernel_rfl) (by kernel_rfl) (fun _ _ _ h => h) (Or.inl ⟨by rfl, ?_⟩) ⟨t0, t1, t2, k0⟩ inv (fun inv => ?_); rotate_left; (· (intro w hSw; (try dsimp only at hSw); go_simp; with_reducible rfl)); (try simp only [Act.put, List.getElem_toArray, List.getElem_cons_zero, List.getElem_cons_succ, List.setIfInBounds_toArray, List.set_cons_zero, List.set_cons_succ])); (refine anyT_take (i := 15) (v := ?_) rfl (by kernel_rfl) (by kernel_rfl) (by kernel_rfl) (fun _ _ _ h => h) (Or.inl ⟨by rfl, ?_⟩) ⟨t0, t1, t2, k0⟩ inv (fun inv => ?_); rotate_left; (· (intro w hSw; (try dsimp only at hSw); go_simp; with_reducible rfl)); (try simp only [Act.put, List.getElem_toArray, List.getElem_cons_zero, List.getElem_cons_succ, List.setIfInBounds_toArray, List.set_cons_zero, List.set_cons_succ])))
        ((refine anyT_take (i := 16) (v := _) rfl (by kernel_rfl) (by kernel_rfl) (by kernel_rfl) (fun _ _ _ h => h) (Or.inr ⟨by rfl, rfl⟩) ⟨t0, t1, t2, k0⟩ inv (fun inv => ?_); (try simp only [Act.put, List.getElem_toArray, List.getElem_cons_zero, List.getElem_cons_succ, List.setIfInBounds_toArray, List.set_cons_zero, List.set_cons_succ])); (refine anyT_take (i := 17) (v := _) rfl (by kernel_rfl) (by kernel_rfl) (by kernel_rfl) (fun _ _ _ h => h) (Or.inr ⟨by rfl, rfl⟩) ⟨t0, t1, t2, k0⟩ inv (fun inv => ?_); (try simp only [Act.put, List.getElem_toArray, List.getElem_cons_zero, List.getElem_cons_succ, List.setIfInBounds_toArray, List.set_cons_zero, List.set_cons_succ])); (refine anyT_take (i := 18) (v := _) rfl (by kernel_rfl) (by kernel_rfl) (by kernel_rfl) (fun _ _ _ h => h) (Or.inr ⟨by rfl, rfl⟩) ⟨t0, t1, t2, k0⟩ inv (fun inv => ?_); (try simp only [Act.put, List.getElem_toArray, List.getElem_cons_zero, List.getElem_cons_succ, List.setIfInBounds_toArray, List.set_cons_zero, List.set_cons_succ])); (refine anyT_take (i := 19) (v := _) rfl (by kernel_rfl) (by kernel_rfl) (by kernel_rfl) (fun _ _ _ h => h) (Or.inr ⟨by rfl, rfl⟩) ⟨t0, t1, t2, k0⟩ inv (fun inv => ?_); (try simp only [Act.put, List.getElem_toArray, List.getElem_cons_zero, List.getElem_cons_succ, List.setIfInBounds_toArray, List.set_cons_zero, List.set_cons_succ])); (refine anyT_take (i := 20) (v := _) rfl (by kernel_rfl) (by kernel_rfl) (by kernel_rfl) (fun _ _ _ h => h) (Or.inr ⟨by rfl, rfl⟩) ⟨t0, t1, t2, k0⟩ inv (fun inv => ?_); (try simp only [Act.put, List.getElem_toArray, List.getElem_cons_zero, List.getElem_cons_succ, List.setIfInBounds_toArray, List.set_cons_zero, List.set_cons_succ])); (refine anyT_take (i := 21) (v := _) rfl (by kernel_rfl) (by kernel_rfl) (by kernel_rfl) (fun _ _ _ h => h) (Or.inr ⟨by rfl, rfl⟩) ⟨t0, t1, t2, k0⟩ inv (fun inv => ?_); (try simp only [Act.put, List.getElem_toArray, List.getElem_cons_zero, List.getElem_cons_succ, List.setIfInBounds_toArray, List.set_cons_zero, List.set_cons_succ])))
        (refine anyT_end (by kernel_rfl) ?_; simp only [List.drop_succ_cons, List.drop_zero])
        go_wp2
        go_ret
        go_light
        exact ⟨by rw [chk_ref_held HX.out (fun h => e1 h.1)]; rfl, by have bW := bW'.out; (repeat' (first | (with_reducible exact Below.refl _ _) | (with_reducible assumption) | (with_reducible refine Below.alloc ?_ ?_ _) | (with_reducible refine Below.drew ?_) | (with_reducible refine below_drewN ?_) | (with_reducible refine Below.setCell ?_ ?_ _) | (with_reducible refine below_step ?_ ?_ (by with_reducible assumption)) | go_size))⟩
    · obtain rfl : k = l1.length := by omega
      obtain ⟨b0, bel, sz, hheld⟩ := HI.out
      have k0 := Joins.cell_of_block b0 0
      have k1 := Joins.cell_of_block b0 1
      simp at k0 k1
      have HH := Lib.hid hheld
      have B0 := Lib.hid b0
      have BE := Lib.hid bel
      clear HI hheld b0 bel
      rename World => wo
      go_wp2
      go_loopw [5] (fun i wr => ∃ k : Nat, k ≤ l2.length ∧ i = .int .i64 k ∧ Hid (wr.heap[w.heap.size]? = some (.cells #[.slice a1 l1.length p1, .slice a2 l2.length p2] 30 (0, 0)) ∧ Below w.heap.size w wr ∧ w.heap.size + 1 ≤ wr.heap.size ∧ ∀ j x, j < k → l2[j]? = some x → queueRef l1 l2 j x)) (fun i _ => l2.length - (intOf i).toNat)
      case atStart => exact ⟨0, by omega, rfl, Lib.hid ⟨B0.out, BE.out, sz, fun j _ hj => absurd hj (Nat.not_lt_zero _)⟩⟩
      case round =>
        obtain ⟨k, hk, rfl, HI⟩ := hrel
        by_cases hlt : k < l2.length
        · obtain ⟨b0, bel, sz2, -⟩ := HI.out
          obtain ⟨h, hx⟩ : ∃ h, l2[k]? = some h := ⟨l2[k], by simp [hlt]⟩
          obtain ⟨b, o, rfl, hb, c0, c1', c2'⟩ := H2.out.at hx
          obtain ⟨ht, hs', hm⟩ := h
          simp only at c0 c1' c2'
          have k0 := Joins.cell_of_block b0 0
          have k1 := Joins.cell_of_block b0 1
          simp at k0 k1
          have c0 := (bel.cell (p := ⟨b, o + k * 3, none⟩) hb).trans c0
          have c1 := (bel.cell (p := ⟨b, o + k * 3 + 1, none⟩) hb).trans c1'
          have c2 := (bel.cell (p := ⟨b, o + k * 3 + 2, none⟩) hb).trans c2'
          have i1 : (0 : Int) ≤ (k : Int) := by omega
          have i2 : (k : Int) < (l2.length : Int) := by omega
          have B0 := Lib.hid b0
          have BE := Lib.hid bel
          have hsz : hs'.size ≤ maxLen := M2.out _ (List.mem_of_getElem? hx)
          have HX := Lib.hid hx
          clear b0 bel hx
          by_cases e1 : shapeM ⟨ht, hs', hm⟩ = 0
          · have e1' : (shapeM ⟨ht, hs', hm⟩ != 0) = false := by simpa using e1
            go_wp2_with (go_at_call 39; refine (lockFault_any ⟨ht, hs', hm⟩ _ hsz).mono ?_; rintro e w1 ⟨rfl, hbw1⟩; have hz := hbw1.size; (try simp only [World.size_alloc, World.size_setCell, World.size_drew, size_drewN] at hz))
            have bW := BE.out
            have bw1 : Below w.heap.size w w1 := by (repeat' (first | (with_reducible exact Below.refl _ _) | (with_reducible assumption) | (with_reducible refine Below.alloc ?_ ?_ _) | (with_reducible refine Below.drew ?_) | (with_reducible refine below_drewN ?_) | (with_reducible refine Below.setCell ?_ ?_ _) | (with_reducible refine below_step ?_ ?_ (by with_reducible assumption)) | go_size))
            have t0 : w1.cell? ⟨wr.heap.size, 0, none⟩ = some (.int .i64 ht) := cell_later hbw1 (by simp)
            have t1 : w1.cell? ⟨wr.heap.size, 1, none⟩ = some (.string hs') := cell_later hbw1 (by simp)
            have t2 : w1.cell? ⟨wr.heap.size, 2, none⟩ = some (.int .i64 hm) := cell_later hbw1 (by simp)
            have k0 := cell_later hbw1 (cell_later (Joins.below_alloc1 wr (.cells #[.int .i64 ht, .string hs', .int .i64 hm] 36)) k0)
            have k1 := cell_later hbw1 (cell_later (Joins.below_alloc1 wr (.cells #[.int .i64 ht, .string hs', .int .i64 hm] 36)) k1)
            have B1 : Hid (w1.heap[w.heap.size]? = some (.cells #[.slice a1 l1.length p1, .slice (some ⟨b, o, none⟩) l2.length p2] 30 (0, 0))) :=
              Lib.hid ((hbw1.block _ (by simp; omega)).trans ((Below.heap_alloc _ _ _ (by omega)).trans B0.out))
            have X1 := Lib.hid bw1
            have Z1 : w.heap.size + 1 ≤ w1.heap.size := by have := hbw1.size; simp at this; omega
            have hwr := hbw1.size
            have Z2 : wr.heap.size < w1.heap.size := by simp at hwr; omega
            clear hwr bW bw1 hbw1 c0 c1 c2 c1' c2' hz
            obtain ⟨Q, hQ⟩ : ∃ Q, wr.heap.size = Q := ⟨_, rfl⟩
            have HQ' := Lib.hid hQ
            rw [hQ] at t0 t1 t2 Z2 ⊢
            clear hQ
            go_loopw [7] (fun i wr => ∃ (j n : Nat), j ≤ k ∧ i = .int .i64 j ∧ wr = w1.drewN n ∧ Hid ((l2.take j).any (sameX ⟨ht, hs', hm⟩) = false)) (fun i _ => k - (intOf i).toNat)
            case atStart => exact ⟨0, 0, by omega, rfl, (World.drewN_zero w1).symm, Lib.hid (by simp)⟩
            case round =>
              obtain ⟨j, n, hj, rfl, rfl, HJ⟩ := hrel
              by_cases hjk : j < k
              · obtain ⟨y, hy⟩ : ∃ y, l2[j]? = some y := ⟨l2[j], by simp [show j < l2.length by omega]⟩
                obtain ⟨b', o', hbo, hb', d0, -, -⟩ := H2.out.at hy
                simp only [Option.some.injEq, Addr.mk.injEq, and_true] at hbo
                obtain ⟨rfl, rfl⟩ := hbo
                have d0 := (X1.out.cell (p := ⟨b, o + j * 3, none⟩) hb').trans d0
                have i3 : (0 : Int) ≤ (j : Int) := by omega
                have i4 : (j : Int) < (l2.length : Int) := by omega
                have HY := Lib.hid hy
                clear hy hb'
                obtain ⟨yt, ys, ym⟩ := y
                simp only at d0
                cases e2 : (yt == ht)
                · go_wp2
                  go_quiet (fail)
                  go_wp2
                  go_roundw
                  case rel => exact ⟨j + 1, _, by omega, by go_num, rfl, Lib.hid (by rw [any_take_succ HY.out, HJ.out]; simpa [sameX] using e2)⟩
                  case measure => simp [intOf]; omega
                · go_wp2
                  go_quiet (fail)
                  go_wp2
                  go_ret
                  go_light
                  exact ⟨by rw [chk_ref_queue HX.out (fun h => by have h2 := h.2.1; rw [any_take_of HY.out hjk (by simpa [sameX] using e2)] at h2; cases h2)]; rfl, below_drewN (below_drewN X1.out)⟩
              · obtain rfl : j = k := by omega
                generalize hq0 : w1.drewN n = w2
                have h2 : w2.heap = w1.heap := by rw [← hq0]; rfl
                have X2 : Hid (Below w.heap.size w w2) := by rw [← hq0]; exact below_drewN X1.out
                have t0 : w2.cell? ⟨Q, 0, none⟩ = some (.int .i64 ht) := (World.cell?_of_block (by rw [h2])).trans t0
                have t1 : w2.cell? ⟨Q, 1, none⟩ = some (.string hs') := (World.cell?_of_block (by rw [h2])).trans t1
                have t2 : w2.cell? ⟨Q, 2, none⟩ = some (.int .i64 hm) := (World.cell?_of_block (by rw [h2])).trans t2
                have k0 : w2.cell? ⟨w.heap.size, 0, none⟩ = some (.slice a1 l1.length p1) := (World.cell?_of_block (by rw [h2])).trans k0
                have k1 : w2.cell? ⟨w.heap.size, 1, none⟩ = some (.slice (some ⟨b, o, none⟩) l2.length p2) := (World.cell?_of_block (by rw [h2])).trans k1
                have B2 : Hid (w2.heap[w.heap.size]? = some (.cells #[.slice a1 l1.length p1, .slice (some ⟨b, o, none⟩) l2.length p2] 30 (0, 0))) := by rw [h2]; exact B1
                have Z3 : w.heap.size + 1 ≤ w2.heap.size := by rw [h2]; exact Z1
                have L1 := Lib.hid (H1.out.below X2.out (Nat.le_refl _))
                clear hq0 h2 X1 B1 Z1 Z2
                by_cases e2 : 0 < modeM ht hs' l1
                · have e2d : decide ((0 : Int) < modeM ht hs' l1) = true := by simpa using e2
                  by_cases e3 : modeM ht hs' l1 = hm
                  · have e3d : (modeM ht hs' l1 == hm) = true := by simpa using e3
                    have HB : 0 < modeM ht hs' l1 ∧ (modeM ht hs' l1 = hm ∨ joinFrom (modeM ht hs' l1) hm 5 1 ≠ hm) := ⟨e2, .inl e3⟩
                    clear e2 e3
                    have HB := Lib.hid HB
                    go_wp2_with (go_at_call 40; refine (modeOf_any _ l1 _ ht hs' _ L1.out (by omega)).mono ?_; rintro e w1 ⟨rfl, rfl⟩)
                    go_quiet (first | (go_at_call 31; exact Calls.quiet_of_same ((joined_any _ _ _).mono fun _ _ h => ⟨h.1, h.2.symm⟩)))
                    go_wp2
                    go_ret
                    go_light
                    exact ⟨by rw [chk_ref_queue HX.out (fun h => h.2.2.1 HB.out)]; rfl, below_drewN X2.out⟩
                  · have e3d : (modeM ht hs' l1 == hm) = false := by simpa using e3
                    by_cases e4 : joinFrom (modeM ht hs' l1) hm 5 1 = hm
                    · have e4d : (joinFrom (modeM ht hs' l1) hm 5 1 != hm) = false := by simpa using e4
                      have HB : Hid (¬(0 < modeM ht hs' l1 ∧ (modeM ht hs' l1 = hm ∨ joinFrom (modeM ht hs' l1) hm 5 1 ≠ hm))) := Lib.hid (fun h => h.2.elim e3 (fun h => h e4))
                      clear e2 e3 e4
                      go_wp2_with (go_at_call 40; refine (modeOf_any _ l1 _ ht hs' _ L1.out (by omega)).mono ?_; rintro e w1 ⟨rfl, rfl⟩)
                      go_quiet (first | (go_at_call 31; exact Calls.quiet_of_same ((joined_any _ _ _).mono fun _ _ h => ⟨h.1, h.2.symm⟩)))
                      generalize hq1 : w2.drewN nq = w3
                      have h3 : w3.heap = w2.heap := by rw [← hq1]; rfl
                      have X3 : Hid (Below w.heap.size w w3) := by rw [← hq1]; exact below_drewN X2.out
                      have k0 : w3.cell? ⟨w.heap.size, 0, none⟩ = some (.slice a1 l1.length p1) := (World.cell?_of_block (by rw [h3])).trans k0
                      have k1 : w3.cell? ⟨w.heap.size, 1, none⟩ = some (.slice (some ⟨b, o, none⟩) l2.length p2) := (World.cell?_of_block (by rw [h3])).trans k1
                      have B3 : Hid (w3.heap[w.heap.size]? = some (.cells #[.slice a1 l1.length p1, .slice (some ⟨b, o, none⟩) l2.length p2] 30 (0, 0))) := by rw [h3]; exact B2
                      have Z4 : w.heap.size + 1 ≤ w3.heap.size := by rw [h3]; exact Z3
                      have L3 := Lib.hid (H1.out.below X3.out (Nat.le_refl _))
                      have L4 := Lib.hid (H2.out.below X3.out (Nat.le_refl _))
                      clear hq1 h3 X2 B2 Z3 L1 t0 t1 t2
                      by_cases e5 : wfM l1 l2 j ⟨ht, hs', hm⟩ = []
                      · go_wp2_with (go_at_call 42; refine (waitsFor_any _ _ l1 l2 _ _ j ⟨ht, hs', hm⟩ _ L3.out L4.out (by omega) (by omega) HX.out).mono ?_; rintro e w4 ⟨⟨v, rfl, own⟩, hb4⟩; rw [e5] at own; simp only [List.length_nil] at own; obtain ⟨a', c', rfl⟩ := slice_form own; clear own)
                        go_ret
                        go_light
                        exact ⟨by rw [chk_ref_queue HX.out (fun h => h.2.2.2 e5)]; rfl, by have := X3.out; (repeat' (first | (with_reducible exact Below.refl _ _) | (with_reducible assumption) | (with_reducible refine Below.alloc ?_ ?_ _) | (with_reducible refine Below.drew ?_) | (with_reducible refine below_drewN ?_) | (with_reducible refine Below.setCell ?_ ?_ _) | (with_reducible refine below_step ?_ ?_ (by with_reducible assumption)) | go_size))⟩
                      · obtain ⟨m, hm'⟩ : ∃ m, (wfM l1 l2 j ⟨ht, hs', hm⟩).length = m + 1 := ⟨(wfM l1 l2 j ⟨ht, hs', hm⟩).length - 1, by have := List.length_pos_iff.2 e5; omega⟩
                        have mz : ((m : Int) + 1 == 0) = false := by simp; omega
                        have HM := Lib.hid hm'
                        clear hm'
                        go_wp2_with (go_at_call 42; refine (waitsFor_any _ _ l1 l2 _ _ j ⟨ht, hs', hm⟩ _ L3.out L4.out (by omega) (by omega) HX.out).mono ?_; rintro e w4 ⟨⟨v, rfl, own⟩, hb4⟩; rw [HM.out] at own; obtain ⟨a', c', rfl⟩ := slice_form own; clear own)
                        go_roundw
                        case rel =>
                          refine ⟨j + 1, by omega, by go_num, Lib.hid ⟨(hb4.block _ (by omega)).trans B3.out, by have := X3.out; (repeat' (first | (with_reducible exact Below.refl _ _) | (with_reducible assumption) | (with_reducible refine Below.alloc ?_ ?_ _) | (with_reducible refine Below.drew ?_) | (with_reducible refine below_drewN ?_) | (with_reducible refine Below.setCell ?_ ?_ _) | (with_reducible refine below_step ?_ ?_ (by with_reducible assumption)) | go_size)), by have := hb4.size; omega, ?_⟩⟩
                          intro i x hi hx
                          rcases Nat.lt_or_eq_of_le (Nat.le_of_lt_succ hi) with hi' | rfl
                          · exact HI.out.2.2.2 i x hi' hx
                          · obtain rfl := Option.some.inj (hx.symm.trans HX.out)
                            exact ⟨e1, HJ.out, HB.out, e5⟩
                        case measure => simp [intOf]; omega
                    · have e4d : (joinFrom (modeM ht hs' l1) hm 5 1 != hm) = true := by simpa using e4
                      have HB : Hid (0 < modeM ht hs' l1 ∧ (modeM ht hs' l1 = hm ∨ joinFrom (modeM ht hs' l1) hm 5 1 ≠ hm)) := Lib.hid ⟨e2, .inr e4⟩
                      clear e2 e3 e4
                      go_wp2_with (go_at_call 40; refine (modeOf_any _ l1 _ ht hs' _ L1.out (by omega)).mono ?_; rintro e w1 ⟨rfl, rfl⟩)
                      go_quiet (first | (go_at_call 31; exact Calls.quiet_of_same ((joined_any _ _ _).mono fun _ _ h => ⟨h.1, h.2.symm⟩)))
                      go_wp2
                      go_ret
                      go_light
                      exact ⟨by rw [chk_ref_queue HX.out (fun h => h.2.2.1 HB.out)]; rfl, below_drewN X2.out⟩
                · have e2d : decide ((0 : Int) < modeM ht hs' l1) = false := by simpa using e2
                  have HB : Hid (¬(0 < modeM ht hs' l1 ∧ (modeM ht hs' l1 = hm ∨ joinFrom (modeM ht hs' l1) hm 5 1 ≠ hm))) := Lib.hid (fun h => e2 h.1)
                  clear e2
                  go_wp2_with (go_at_call 40; refine (modeOf_any _ l1 _ ht hs' _ L1.out (by omega)).mono ?_; rintro e w1 ⟨rfl, rfl⟩)
                  go_quiet (first | (go_at_call 31; exact Calls.quiet_of_same ((joined_any _ _ _).mono fun _ _ h => ⟨h.1, h.2.symm⟩)))
                  generalize hq1 : w2.drewN nq = w3
                  have h3 : w3.heap = w2.heap := by rw [← hq1]; rfl
                  have X3 : Hid (Below w.heap.size w w3) := by rw [← hq1]; exact below_drewN X2.out
                  have k0 : w3.cell? ⟨w.heap.size, 0, none⟩ = some (.slice a1 l1.length p1) := (World.cell?_of_block (by rw [h3])).trans k0
                  have k1 : w3.cell? ⟨w.heap.size, 1, none⟩ = some (.slice (some ⟨b, o, none⟩) l2.length p2) := (World.cell?_of_block (by rw [h3])).trans k1
                  have B3 : Hid (w3.heap[w.heap.size]? = some (.cells #[.slice a1 l1.length p1, .slice (some ⟨b, o, none⟩) l2.length p2] 30 (0, 0))) := by rw [h3]; exact B2
                  have Z4 : w.heap.size + 1 ≤ w3.heap.size := by rw [h3]; exact Z3
                  have L3 := Lib.hid (H1.out.below X3.out (Nat.le_refl _))
                  have L4 := Lib.hid (H2.out.below X3.out (Nat.le_refl _))
                  clear hq1 h3 X2 B2 Z3 L1 t0 t1 t2
                  by_cases e5 : wfM l1 l2 j ⟨ht, hs', hm⟩ = []
                  · go_wp2_with (go_at_call 42; refine (waitsFor_any _ _ l1 l2 _ _ j ⟨ht, hs', hm⟩ _ L3.out L4.out (by omega) (by omega) HX.out).mono ?_; rintro e w4 ⟨⟨v, rfl, own⟩, hb4⟩; rw [e5] at own; simp only [List.length_nil] at own; obtain ⟨a', c', rfl⟩ := slice_form own; clear own)
                    go_ret
                    go_light
                    exact ⟨by rw [chk_ref_queue HX.out (fun h => h.2.2.2 e5)]; rfl, by have := X3.out; (repeat' (first | (with_reducible exact Below.refl _ _) | (with_reducible assumption) | (with_reducible refine Below.alloc ?_ ?_ _) | (with_reducible refine Below.drew ?_) | (with_reducible refine below_drewN ?_) | (with_reducible refine Below.setCell ?_ ?_ _) | (with_reducible refine below_step ?_ ?_ (by with_reducible assumption)) | go_size))⟩
                  · obtain ⟨m, hm'⟩ : ∃ m, (wfM l1 l2 j ⟨ht, hs', hm⟩).length = m + 1 := ⟨(wfM l1 l2 j ⟨ht, hs', hm⟩).length - 1, by have := List.length_pos_iff.2 e5; omega⟩
                    have mz : ((m : Int) + 1 == 0) = false := by simp; omega
                    have HM := Lib.hid hm'
                    clear hm'
                    go_wp2_with (go_at_call 42; refine (waitsFor_any _ _ l1 l2 _ _ j ⟨ht, hs', hm⟩ _ L3.out L4.out (by omega) (by omega) HX.out).mono ?_; rintro e w4 ⟨⟨v, rfl, own⟩, hb4⟩; rw [HM.out] at own; obtain ⟨a', c', rfl⟩ := slice_form own; clear own)
                    go_roundw
                    case rel =>
                      refine ⟨j + 1, by omega, by go_num, Lib.hid ⟨(hb4.block _ (by omega)).trans B3.out, by have := X3.out; (repeat' (first | (with_reducible exact Below.refl _ _) | (with_reducible assumption) | (with_reducible refine Below.alloc ?_ ?_ _) | (with_reducible refine Below.drew ?_) | (with_reducible refine below_drewN ?_) | (with_reducible refine Below.setCell ?_ ?_ _) | (with_reducible refine below_step ?_ ?_ (by with_reducible assumption)) | go_size)), by have := hb4.size; omega, ?_⟩⟩
                      intro i x hi hx
                      rcases Nat.lt_or_eq_of_le (Nat.le_of_lt_succ hi) with hi' | rfl
                      · exact HI.out.2.2.2 i x hi' hx
                      · obtain rfl := Option.some.inj (hx.symm.trans HX.out)
                        exact ⟨e1, HJ.out, HB.out, e5⟩
                    case measure => simp [intOf]; omega
          · have e1' : (shapeM ⟨ht, hs', hm⟩ != 0) = true := by simpa using e1
            go_wp2_with (go_at_call 39; refine (lockFault_any ⟨ht, hs', hm⟩ _ hsz).mono ?_; rintro e w1 ⟨rfl, hbw1⟩; have hz := hbw1.size; (try simp only [World.size_alloc, World.size_setCell, World.size_drew, size_drewN] at hz))
            go_ret
            go_light
            exact ⟨by rw [chk_ref_queue HX.out (fun h => e1 h.1)]; rfl, by have bW := BE.out; (repeat' (first | (with_reducible exact Below.refl _ _) | (with_reducible assumption) | (with_reducible refine Below.alloc ?_ ?_ _) | (with_reducible refine Below.drew ?_) | (with_reducible refine below_drewN ?_) | (with_reducible refine Below.setCell ?_ ?_ _) | (with_reducible refine below_step ?_ ?_ (by with_reducible assumption)) | go_size))⟩
        · obtain rfl : k = l2.length := by omega
          obtain ⟨b0, bel, sz2, hq⟩ := HI.out
          have k0 := Joins.cell_of_block b0 0
          have k1 := Joins.cell_of_block b0 1
          simp at k0 k1
          have HQ := Lib.hid hq
          have BE := Lib.hid bel
          clear HI hq b0 bel
          go_wp2
          go_ret
          go_light
          exact ⟨by rw [chk_ref_yes (by assumption) (fun j x hj => HH.out j x hj) (fun j x hj => HQ.out j x hj)]; rfl, BE.out⟩
end Go.Proofs.YtkehmidldcggcaaDoor
