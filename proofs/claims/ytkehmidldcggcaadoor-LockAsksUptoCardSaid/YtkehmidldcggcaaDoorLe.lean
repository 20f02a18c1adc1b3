/- LocksCopy: new memory, the same lists. -/
import Derived.Test.YtkehmidldcggcaaDoorLd
import Derived.Deep.RegionHeld3
import Derived.Test.YtkehmidldcggcaaDoorAr
import Derived.Deep.AppendLies
import Derived.Lib.SmallJoins
set_option linter.unusedSimpArgs false
set_option linter.unusedVariables false
namespace Go.Proofs.YtkehmidldcggcaaDoor
open Go.RowKit Go.Joins
theorem infoLock : (Tryd.prog.info? 36).map (fun i => (i.zero, i.size, i.bytes)) = some (some (.agg #[.int .i64 0, .string ⟨#[]⟩, .int .i64 0]), 3, 32) := by kernel_rfl
def flat (l : List LK) : List Value := l.flatMap LK.cells
theorem flat_len : ∀ l : List LK, (flat l).length = l.length * 3
  | [] => rfl
  | x :: r => by show (LK.cells x ++ flat r).length = _; rw [List.length_append, flat_len r]; simp [LK.cells]; omega
theorem flat_at : ∀ (l : List LK) (j : Nat) (x : LK), l[j]? = some x → ∀ i v, (LK.cells x)[i]? = some v → (flat l)[j * 3 + i]? = some v
  | [], j, x, h, _, _, _ => by simp at h
  | y :: r, 0, x, h, i, v, hi => by
    simp at h; subst h
    have hl : i < 3 := by
      have := (List.getElem?_eq_some_iff.1 hi).1
      simpa [LK.cells] using this
    show (LK.cells y ++ flat r)[0 * 3 + i]? = _
    rw [List.getElem?_append_left (by simp [LK.cells]; omega)]
    simpa using hi
  | y :: r, j + 1, x, h, i, v, hi => by
    show (LK.cells y ++ flat r)[(j + 1) * 3 + i]? = _
    rw [List.getElem?_append_right (by simp [LK.cells]; omega)]
    have := flat_at r j x (by simpa using h) i v hi
    have e : (j + 1) * 3 + i - (LK.cells y).length = j * 3 + i := by simp [LK.cells]; omega
    rw [e]; exact this
/-- A slice of the call's own reads as the list. -/
theorem lks_of_owns {w : World} {base n : Nat} {v : Value} {l : List LK} (h : w.ownsRow base 36 3 v n (flat l)) : n = l.length ∧ ∃ a cap, v = .slice a l.length cap ∧ LksAt w a l ∧ (l = [] ∨ ∃ g, a = some ⟨g, 0, none⟩ ∧ base ≤ g) ∧ l.length ≤ cap := by
  have hn : n = l.length := by have := h.1; rw [flat_len] at this; omega
  subst hn
  refine ⟨rfl, ?_⟩
  have h2 := h
  rcases h.2 with ⟨rfl, hz⟩ | ⟨g, cap, cur, rfl, hg, hh, hc, _, hs, ht⟩
  · have : l = [] := List.length_eq_zero_iff.1 hz
    subst this
    exact ⟨none, 0, rfl, .inl rfl, .inl rfl, Nat.le_refl _⟩
  · refine ⟨_, _, rfl, .inr ⟨g, 0, rfl, (Array.getElem?_eq_some_iff.1 hh).1, fun j x hj i v hi => ?_⟩, .inr ⟨g, rfl, hg⟩, hc⟩
    have h3 := flat_at l j x hj i v hi
    have hj' := (List.getElem?_eq_some_iff.1 hj).1
    have hi' : i < 3 := by simpa [LK.cells] using (List.getElem?_eq_some_iff.1 hi).1
    rw [← ht] at h3
    rw [List.getElem?_take_of_lt (by omega), Array.getElem?_toList] at h3
    rw [Joins.cell_of_block hh, Nat.zero_add, h3]
theorem own_ne {w : World} {base size n B : Nat} {e : TypeId} {v : Value} {xs : List Value} (h : w.ownsRow base e size v n xs) (hB : B < base) : v.ownBlock ≠ some B := by
  rcases h.2 with ⟨rfl, _⟩ | ⟨g, cap, cur, rfl, hg, _⟩
  · simp [Value.ownBlock]
  · simp [Value.ownBlock]; omega
theorem own_kept {w w' : World} {base size n : Nat} {e : TypeId} {v : Value} {xs : List Value} (h : w.ownsRow base e size v n xs) (hk : ∀ g, v.ownBlock = some g → w'.heap[g]? = w.heap[g]?) : w'.ownsRow base e size v n xs := by
  refine ⟨h.1, ?_⟩
  rcases h.2 with h | ⟨g, cap, cur, rfl, hg, hh, r⟩
  · exact .inl h
  · exact .inr ⟨g, cap, cur, rfl, hg, (hk g rfl).trans hh, r⟩
theorem own_lt {w : World} {base size n g : Nat} {e : TypeId} {v : Value} {xs : List Value} (h : w.ownsRow base e size v n xs) (hg : v.ownBlock = some g) : base ≤ g ∧ g < w.heap.size := by
  rcases h.2 with ⟨rfl, _⟩ | ⟨g', cap, cur, rfl, hb, hh, _⟩
  · simp [Value.ownBlock] at hg
  · simp [Value.ownBlock] at hg
    subst hg
    exact ⟨hb, (Array.getElem?_eq_some_iff.1 hh).1⟩
theorem new_at (w : World) (o : Obj) (n : Nat) (h : n = w.heap.size) : (w.alloc o).heap[n]? = some o := by subst h; exact heap_alloc_new w o
theorem flat_succ (l : List LK) (k : Nat) (x : LK) (h : l[k]? = some x) : flat (l.take (k + 1)) = flat (l.take k) ++ [.int .i64 x.t, .string x.s, .int .i64 x.m] := by
  rw [List.take_add_one, h]
  simp [flat, LK.cells]
/-- Behind an allocation, a growing append and a store into block C: another block of old. -/
theorem stay_block {wr W w1 : World} {row : Option Nat} {B C o : Nat} {u : Value} (hW : W.heap[B]? = wr.heap[B]?) (hs : wr.heap.size ≤ W.heap.size) (hg : W.grownBy w1 row) (hB : B < wr.heap.size) (hne : row ≠ some B) (hC : B ≠ C) :
    (w1.setCell ⟨C, o, none⟩ u).heap[B]? = wr.heap[B]? := by
  rw [Below.heap_setCell _ _ _ _ hC, hg.block B (by omega) (Ne.symm hne), hW]
set_option maxRecDepth 100000 in
set_option maxHeartbeats 2000000 in
theorem copy_own (a1 a2 : Option Addr) (l1 l2 : List LK) (p1 p2 : Nat) (w : World) (h1 : LksAt w a1 l1) (h2 : LksAt w a2 l2) (n1 : l1.length ≤ 1048576) (n2 : l2.length ≤ 1048576) :
    Calls Tryd.prog 14 #[.agg #[.slice a1 l1.length p1, .slice a2 l2.length p2]] w fun e w' =>
      (∃ v1 v2, e = .returned (.agg #[v1, v2]) ∧ w'.ownsRow w.heap.size 36 3 v1 l1.length (flat l1) ∧ w'.ownsRow w.heap.size 36 3 v2 l2.length (flat l2) ∧ ∀ g, v1.ownBlock = some g → v2.ownBlock ≠ some g) ∧ Below w.heap.size w w' := by
  obtain ⟨i0, hi0, hz0, hz1, hz2⟩ := info_parts infoLock
  have H1 := Lib.hid h1
  have H2 := Lib.hid h2
  clear h1 h2
  go_enter Tryd.func14, Tryd.ntmps14
  go_wp2
  go_loopw [4] (fun i wr => ∃ (k : Nat) (v : Value), k ≤ l1.length ∧ i = .int .i64 k ∧
      Hid (wr.heap[w.heap.size]? = some (.cells #[.slice a1 l1.length p1, .slice a2 l2.length p2] 30 (0, 0)) ∧
        wr.heap[w.heap.size + 1]? = some (.cells #[.slice none 0 0, .slice none 0 0] 30 (0, 0)) ∧
        wr.heap[w.heap.size + 1 + 1]? = some (.cells #[v, .slice none 0 0] 30 (0, 0)) ∧
        wr.ownsRow (w.heap.size + 3) 36 3 v k (flat (l1.take k)) ∧ Below w.heap.size w wr ∧ w.heap.size + 3 ≤ wr.heap.size)) (fun i _ => l1.length - (intOf i).toNat)
  case atStart =>
    refine ⟨0, _, by omega, rfl, Lib.hid ⟨?_, ?_, ?_, World.ownsRow_nil _ _ _ _, Joins.below_alloc3 _ _ _ _, by simp⟩⟩
    · exact ((Joins.below_alloc2 (w.alloc _) _ _).block _ (by simp)).trans (new_at _ _ _ rfl)
    · exact ((Joins.below_alloc1 ((w.alloc _).alloc _) _).block _ (by simp)).trans (new_at _ _ _ (by simp))
    · exact new_at _ _ _ (by simp)
  case round =>
    obtain ⟨k, v, hk, rfl, HI⟩ := hrel
    by_cases hlt : k < l1.length
    · obtain ⟨b0, b1, b2, own, bel, sz⟩ := HI.out
      rcases H1.out with hnil | ⟨b, o, rfl, hb, hc⟩
      · rw [hnil] at hlt; simp at hlt
      obtain ⟨x, hx⟩ : ∃ x, l1[k]? = some x := ⟨l1[k], by simp [hlt]⟩
      obtain ⟨c0, c1', c2'⟩ := lk_cells hc hx
      have k0 := cell_of_block b0 0
      have k1 := cell_of_block b0 1
      have k2 := cell_of_block b2 0
      have k3 := cell_of_block b2 1
      have f2 := unfrozen_of_block b2 0
      simp at k0 k1 k2 k3
      have c0 := (bel.cell (p := ⟨b, o + k * 3, none⟩) hb).trans c0
      have c1 := (bel.cell (p := ⟨b, o + k * 3 + 1, none⟩) hb).trans c1'
      have c2 := (bel.cell (p := ⟨b, o + k * 3 + 2, none⟩) hb).trans c2'
      have i1 : (0 : Int) ≤ (k : Int) := by omega
      have i2 : (k : Int) < (l1.length : Int) := by omega
      have a0 := own_ne own (B := w.heap.size) (by omega)
      have a1 := own_ne own (B := w.heap.size + 1 + 1) (by omega)
      have a2' := own_ne own (B := b) (by omega)
      go_wp2
      refine wp_cut (fun w' : World => w'.cell? ⟨w.heap.size + 1 + 1, 0, none⟩ = some v ∧ w'.cell? ⟨w.heap.size, 0, none⟩ = some (.slice (some ⟨b, o, none⟩) l1.length p1) ∧
          w'.cell? ⟨b, o + k * 3, none⟩ = some (.int .i64 x.t) ∧ w'.cell? ⟨b, o + k * 3 + 1, none⟩ = some (.string x.s) ∧ w'.cell? ⟨b, o + k * 3 + 2, none⟩ = some (.int .i64 x.m)) 9 (by kernel_rfl) (by kernel_rfl) (fun inv => ?_)
      ((refine anyT_take (i := 0) (v := ?_) rfl (by kernel_rfl) (by kernel_rfl) (by kernel_rfl) (fun _ _ _ h => h) (Or.inl ⟨by rfl, ?_⟩) ⟨k2, k0, c0, c1, c2⟩ inv (fun inv => ?_); rotate_left; (· (intro w hSw; (try dsimp only at hSw); go_simp; with_reducible rfl)); (try simp only [Act.put, List.getElem_toArray, List.getElem_cons_zero, List.getElem_cons_succ, List.setIfInBounds_toArray, List.set_cons_zero, List.set_cons_succ])); (refine anyT_take (i := 1) (v := ?_) rfl (by kernel_rfl) (by kernel_rfl) (by kernel_rfl) (fun _ _ _ h => h) (Or.inl ⟨by rfl, ?_⟩) ⟨k2, k0, c0, c1, c2⟩ inv (fun inv => ?_); rotate_left; (· (intro w hSw; (try dsimp only at hSw); go_simp; with_reducible rfl)); (try simp only [Act.put, List.getElem_toArray, List.getElem_cons_zero, List.getElem_cons_succ, List.setIfInBounds_toArray, List.set_cons_zero, List.set_cons_succ])); (refine anyT_take (i := 2) (v := ?_) rfl (by kernel_rfl) (by kernel_rfl) (by kernel_rfl) (fun _ _ _ h => h) (Or.inl ⟨by rfl, ?_⟩) ⟨k2, k0, c0, c1, c2⟩ inv (fun inv => ?_); rotate_left; (· (intro w hSw; (try dsimp only at hSw); go_simp; with_reducible rfl)); (try simp only [Act.put, List.getElem_toArray, List.getElem_cons_zero, List.getElem_cons_succ, List.setIfInBounds_toArray, List.set_cons_zero, List.set_cons_succ])); (refine anyT_take (i := 3) (v := ?_) rfl (by kernel_rfl) (by kernel_rfl) (by kernel_rfl) (fun _ _ _ h => h) (Or.inl ⟨by rfl, ?_⟩) ⟨k2, k0, c0, c1, c2⟩ inv (fun inv => ?_); rotate_left; (· (intro w hSw; (try dsimp only at hSw); go_simp; with_reducible rfl)); (try simp only [Act.put, List.getElem_toArray, List.getElem_cons_zero, List.getElem_cons_succ, List.setIfInBounds_toArray, List.set_cons_zero, List.set_cons_succ])); (refine anyT_take (i := 4) (v := ?_) rfl (by kernel_rfl) (by kernel_rfl) (by kernel_rfl) (fun _ _ _ h => h) (Or.inl ⟨by rfl, ?_⟩) ⟨k2, k0, c0, c1, c2⟩ inv (fun inv => ?_); rotate_left; (· (intro w hSw; (try dsimp only at hSw); go_simp; with_reducible rfl)); (try simp only [Act.put, List.getElem_toArray, List.getElem_cons_zero, List.getElem_cons_succ, List.setIfInBounds_toArray, List.set_cons_zero, List.set_cons_succ])); (refine anyT_take (i := 5) (v := ?_) rfl (by kernel_rfl) (by kernel_rfl) (by kernel_rfl) (fun _ _ _ h => h) (Or.inl ⟨by rfl, ?_⟩) ⟨k2, k0, c0, c1, c2⟩ inv (fun inv => ?_); rotate_left; (· (intro w hSw; (try dsimp only at hSw); go_simp; with_reducible rfl)); (try simp only [Act.put, List.getElem_toArray, List.getElem_cons_zero, List.getElem_cons_succ, List.setIfInBounds_toArray, List.set_cons_zero, List.set_cons_succ])); (refine anyT_take (i := 6) (v := ?_) rfl (by kernel_rfl) (by kernel_rfl) (by kernel_rfl) (fun _ _ _ h => h) (Or.inl ⟨by rfl, ?_⟩) ⟨k2, k0, c0, c1, c2⟩ inv (fun inv => ?_); rotate_left; (· (intro w hSw; (try dsimp only at hSw); go_simp; with_reducible rfl)); (try simp only [Act.put, List.getElem_toArray, List.getElem_cons_zero, List.getElem_cons_succ, List.setIfInBounds_toArray, List.set_cons_zero, List.set_cons_succ])))
      refine anyT_step (i := 7) rfl (by kernel_rfl) (by decide) inv (fun K hK => ?_)
      go_simp
      have q0 : ∀ y, Below w.heap.size wr (wr.alloc y) := fun y => (Below.refl _ _).alloc (by omega) _
      have far : ∀ (y : Obj) (B o : Nat), B < wr.heap.size → (wr.alloc y).drew.cell? ⟨B, o, none⟩ = wr.cell? ⟨B, o, none⟩ := fun y B o h => (Joins.below_alloc1 wr y).cell (p := ⟨B, o, none⟩) h
      (refine hK _ _ ⟨(far _ _ _ (by omega)).trans k2, (far _ _ _ (by omega)).trans k0, (far _ _ _ (by omega)).trans c0, (far _ _ _ (by omega)).trans c1, (far _ _ _ (by omega)).trans c2⟩ (fun inv => ?_); clear hK K; (try simp only [Act.put, List.getElem_toArray, List.getElem_cons_zero, List.getElem_cons_succ, List.setIfInBounds_toArray, List.set_cons_zero, List.set_cons_succ]))
      refine anyT_step (i := 8) rfl (by kernel_rfl) (by decide) inv (fun K hK => ?_)
      refine step_append_lies _ (by rfl) _ _ _ (by rfl) (w.heap.size + 3) 36 i0 _ 3 32 Tryd.underlying28 hi0 hz0 hz1 hz2 rfl (by omega) v k (flat (l1.take k)) (by rfl) ((own.alloc _).drew) ⟨wr.heap.size, 0, none⟩ 1 1 [.int .i64 x.t, .string x.s, .int .i64 x.m] (by rfl) (by rfl) (World.news_of_block (cs := #[.int .i64 x.t, .string x.s, .int .i64 x.m]) (t := 36) (fr := (0, 0)) (heap_alloc_new wr _)) (by simp [Value.oneCell']) (by omega) (by unfold maxLen; omega) (by omega) (by simp; omega) (wr.heap.size + 1) (by simp) ?_
      intro g cap w1 hown1 hgrow hat hlt'
      have near : ∀ (B o : Nat), B < wr.heap.size → v.ownBlock ≠ some B → w1.cell? ⟨B, o, none⟩ = wr.cell? ⟨B, o, none⟩ := fun B o h hne => (hgrow.cell_far ⟨B, o, none⟩ (by simp; omega) (Ne.symm hne)).trans (far _ _ _ h)
      (refine hK _ _ ⟨(near _ _ (by omega) a1).trans k2, (near _ _ (by omega) a0).trans k0, (near _ _ (by omega) a2').trans c0, (near _ _ (by omega) a2').trans c1, (near _ _ (by omega) a2').trans c2⟩ (fun inv => ?_); clear hK K; (try simp only [Act.put, List.getElem_toArray, List.getElem_cons_zero, List.getElem_cons_succ, List.setIfInBounds_toArray, List.set_cons_zero, List.set_cons_succ]))
      (refine anyT_end (by kernel_rfl) ?_; simp only [List.drop_succ_cons, List.drop_zero])
      have hal : ∀ (y : Obj) (B : Nat), B < wr.heap.size → (wr.alloc y).drew.heap[B]? = wr.heap[B]? := fun y B h => (Joins.below_alloc1 wr y).block B h
      have e1 := flat_succ l1 k x hx
      have g0 := fun u => stay_block (o := 0) (C := w.heap.size + 1 + 1) (u := u) (hal _ _ (by omega)) (by simp) hgrow (B := w.heap.size) (by omega) a0 (by omega)
      have g1 := fun u => stay_block (o := 0) (C := w.heap.size + 1 + 1) (u := u) (hal _ _ (by omega)) (by simp) hgrow (B := w.heap.size + 1) (by omega) (own_ne own (by omega)) (by omega)
      have g2 : w1.heap[w.heap.size + 1 + 1]? = some (.cells #[v, .slice none 0 0] 30 (0, 0)) := (hgrow.block _ (by simp; omega) (Ne.symm a1)).trans ((hal _ _ (by omega)).trans b2)
      have f2 := unfrozen_of_block g2 0
      have k2 := cell_of_block g2 0
      simp at k2
      have G0 := Lib.hid g0
      have G1 := Lib.hid g1
      have G2 := Lib.hid g2
      have E1 := Lib.hid e1
      clear g0 g1 g2 e1 hal near far q0
      go_wp2
      go_roundw
      case rel =>
        refine ⟨k + 1, _, by omega, by go_num, Lib.hid ⟨(G0.out _).trans b0, (G1.out _).trans b1, block_setCell G2.out _, ?_, ?_, ?_⟩⟩
        · rw [E1.out]
          exact ownsRow_setCell_below hown1 (by simp) _
        · refine ((bel.alloc (by omega) _).drew.grown hgrow (by simp; omega) ?_).setCell (by simp; omega) _
          intro g' hg'
          have := (own_lt own hg').1
          omega
        · have := hgrow.size
          simp at this ⊢
          omega
      case measure => simp [intOf]; omega
    · obtain rfl : k = l1.length := by omega
      obtain ⟨b0, b1, b2, own, bel, sz⟩ := HI.out
      rw [List.take_length] at own
      have ownlt : ∀ g, v.ownBlock = some g → g < wr.heap.size := fun g hg => (own_lt own hg).2
      have I0 := Lib.hid b0
      have I1 := Lib.hid b1
      have I2 := Lib.hid b2
      have IOw := Lib.hid own
      have IL := Lib.hid ownlt
      have IB := Lib.hid bel
      have k0 := cell_of_block b0 0
      simp at k0
      clear HI b0 b1 b2 own bel ownlt
      rename World => W2
      rename Value => v1
      go_wp2
      have k1 := cell_of_block I0.out 1
      simp at k1
      go_loopw [5] (fun i wr => ∃ (k : Nat) (v : Value), k ≤ l2.length ∧ i = .int .i64 k ∧
          Hid (wr.heap[w.heap.size]? = some (.cells #[.slice a1 l1.length p1, .slice a2 l2.length p2] 30 (0, 0)) ∧
            wr.heap[w.heap.size + 1]? = some (.cells #[.slice none 0 0, .slice none 0 0] 30 (0, 0)) ∧
            wr.heap[w.heap.size + 1 + 1]? = some (.cells #[v1, v] 30 (0, 0)) ∧
            wr.ownsRow (w.heap.size + 3) 36 3 v1 l1.length (flat l1) ∧
            wr.ownsRow W2.heap.size 36 3 v k (flat (l2.take k)) ∧ Below w.heap.size w wr ∧ W2.heap.size ≤ wr.heap.size)) (fun i _ => l2.length - (intOf i).toNat)
      case atStart => exact ⟨0, _, by omega, rfl, Lib.hid ⟨I0.out, I1.out, I2.out, IOw.out, World.ownsRow_nil _ _ _ _, IB.out, Nat.le_refl _⟩⟩
      case round =>
        obtain ⟨k, v, hk, rfl, HI⟩ := hrel
        by_cases hlt : k < l2.length
        · obtain ⟨b0, b1, b2, own0, own, bel, sz2⟩ := HI.out
          rcases H2.out with hnil | ⟨b, o, rfl, hb, hc⟩
          · rw [hnil] at hlt; simp at hlt
          obtain ⟨x, hx⟩ : ∃ x, l2[k]? = some x := ⟨l2[k], by simp [hlt]⟩
          obtain ⟨c0, c1', c2'⟩ := lk_cells hc hx
          have k0 := cell_of_block b0 0
          have k1 := cell_of_block b0 1
          have k2 := cell_of_block b2 0
          have k3 := cell_of_block b2 1
          have f2 := unfrozen_of_block b2 1
          simp at k0 k1 k2 k3
          have c0 := (bel.cell (p := ⟨b, o + k * 3, none⟩) hb).trans c0
          have c1 := (bel.cell (p := ⟨b, o + k * 3 + 1, none⟩) hb).trans c1'
          have c2 := (bel.cell (p := ⟨b, o + k * 3 + 2, none⟩) hb).trans c2'
          have i1 : (0 : Int) ≤ (k : Int) := by omega
          have i2 : (k : Int) < (l2.length : Int) := by omega
          have a0 := own_ne own (B := w.heap.size) (by omega)
          have a1' := own_ne own (B := w.heap.size + 1 + 1) (by omega)
          have a2' := own_ne own (B := b) (by omega)
          go_wp2
          refine wp_cut (fun w' : World => w'.cell? ⟨w.heap.size + 1 + 1, 1, none⟩ = some v ∧ w'.cell? ⟨w.heap.size, 1, none⟩ = some (.slice (some ⟨b, o, none⟩) l2.length p2) ∧
              w'.cell? ⟨b, o + k * 3, none⟩ = some (.int .i64 x.t) ∧ w'.cell? ⟨b, o + k * 3 + 1, none⟩ = some (.string x.s) ∧ w'.cell? ⟨b, o + k * 3 + 2, none⟩ = some (.int .i64 x.m)) 9 (by kernel_rfl) (by kernel_rfl) (fun inv => ?_)
          ((refine anyT_take (i := 0) (v := ?_) rfl (by kernel_rfl) (by kernel_rfl) (by kernel_rfl) (fun _ _ _ h => h) (Or.inl ⟨by rfl, ?_⟩) ⟨k3, k1, c0, c1, c2⟩ inv (fun inv => ?_); rotate_left; (· (intro w hSw; (try dsimp only at hSw); go_simp; with_reducible rfl)); (try simp only [Act.put, List.getElem_toArray, List.getElem_cons_zero, List.getElem_cons_succ, List.setIfInBounds_toArray, List.set_cons_zero, List.set_cons_succ])); (refine anyT_take (i := 1) (v := ?_) rfl (by kernel_rfl) (by kernel_rfl) (by kernel_rfl) (fun _ _ _ h => h) (Or.inl ⟨by rfl, ?_⟩) ⟨k3, k1, c0, c1, c2⟩ inv (fun inv => ?_); rotate_left; (· (intro w hSw; (try dsimp only at hSw); go_simp; with_reducible rfl)); (try simp only [Act.put, List.getElem_toArray, List.getElem_cons_zero, List.getElem_cons_succ, List.setIfInBounds_toArray, List.set_cons_zero, List.set_cons_succ])); (refine anyT_take (i := 2) (v := ?_) rfl (by kernel_rfl) (by kernel_rfl) (by kernel_rfl) (fun _ _ _ h => h) (Or.inl ⟨by rfl, ?_⟩) ⟨k3, k1, c0, c1, c2⟩ inv (fun inv => ?_); rotate_left; (· (intro w hSw; (try dsimp only at hSw); go_simp; with_reducible rfl)); (try simp only [Act.put, List.getElem_toArray, List.getElem_cons_zero, List.getElem_cons_succ, List.setIfInBounds_toArray, List.set_cons_zero, List.set_cons_succ])); (refine anyT_take (i := 3) (v := ?_) rfl (by kernel_rfl) (by kernel_rfl) (by kernel_rfl) (fun _ _ _ h => h) (Or.inl ⟨by rfl, ?_⟩) ⟨k3, k1, c0, c1, c2⟩ inv (fun inv => ?_); rotate_left; (· (intro w hSw; (try dsimp only at hSw); go_simp; with_reducible rfl)); (try simp only [Act.put, List.getElem_toArray, List.getElem_cons_zero, List.getElem_cons_succ, List.setIfInBounds_toArray, List.set_cons_zero, List.set_cons_succ])); (refine anyT_take (i := 4) (v := ?_) rfl (by kernel_rfl) (by kernel_rfl) (by kernel_rfl) (fun _ _ _ h => h) (Or.inl ⟨by rfl, ?_⟩) ⟨k3, k1, c0, c1, c2⟩ inv (fun inv => ?_); rotate_left; (· (intro w hSw; (try dsimp only at hSw); go_simp; with_reducible rfl)); (try simp only [Act.put, List.getElem_toArray, List.getElem_cons_zero, List.getElem_cons_succ, List.setIfInBounds_toArray, List.set_cons_zero, List.set_cons_succ])); (refine anyT_take (i := 5) (v := ?_) rfl (by kernel_rfl) (by kernel_rfl) (by kernel_rfl) (fun _ _ _ h => h) (Or.inl ⟨by rfl, ?_⟩) ⟨k3, k1, c0, c1, c2⟩ inv (fun inv => ?_); rotate_left; (· (intro w hSw; (try dsimp only at hSw); go_simp; with_reducible rfl)); (try simp only [Act.put, List.getElem_toArray, List.getElem_cons_zero, List.getElem_cons_succ, List.setIfInBounds_toArray, List.set_cons_zero, List.set_cons_succ])); (refine anyT_take (i := 6) (v := ?_) rfl (by kernel_rfl) (by kernel_rfl) (by kernel_rfl) (fun _ _ _ h => h) (Or.inl ⟨by rfl, ?_⟩) ⟨k3, k1, c0, c1, c2⟩ inv (fun inv => ?_); rotate_left; (· (intro w hSw; (try dsimp only at hSw); go_simp; with_reducible rfl)); (try simp only [Act.put, List.getElem_toArray, List.getElem_cons_zero, List.getElem_cons_succ, List.setIfInBounds_toArray, List.set_cons_zero, List.set_cons_succ])))
          refine anyT_step (i := 7) rfl (by kernel_rfl) (by decide) inv (fun K hK => ?_)
          go_simp
          have far : ∀ (y : Obj) (B o : Nat), B < wr.heap.size → (wr.alloc y).drew.cell? ⟨B, o, none⟩ = wr.cell? ⟨B, o, none⟩ := fun y B o h => (Joins.below_alloc1 wr y).cell (p := ⟨B, o, none⟩) h
          (refine hK _ _ ⟨(far _ _ _ (by omega)).trans k3, (far _ _ _ (by omega)).trans k1, (far _ _ _ (by omega)).trans c0, (far _ _ _ (by omega)).trans c1, (far _ _ _ (by omega)).trans c2⟩ (fun inv => ?_); clear hK K; (try simp only [Act.put, List.getElem_toArray, List.getElem_cons_zero, List.getElem_cons_succ, List.setIfInBounds_toArray, List.set_cons_zero, List.set_cons_succ]))
          refine anyT_step (i := 8) rfl (by kernel_rfl) (by decide) inv (fun K hK => ?_)
          refine step_append_lies _ (by rfl) _ _ _ (by rfl) W2.heap.size 36 i0 _ 3 32 Tryd.underlying28 hi0 hz0 hz1 hz2 rfl (by omega) v k (flat (l2.take k)) (by rfl) ((own.alloc _).drew) ⟨wr.heap.size, 0, none⟩ 1 1 [.int .i64 x.t, .string x.s, .int .i64 x.m] (by rfl) (by rfl) (World.news_of_block (cs := #[.int .i64 x.t, .string x.s, .int .i64 x.m]) (t := 36) (fr := (0, 0)) (heap_alloc_new wr _)) (by simp [Value.oneCell']) (by omega) (by unfold maxLen; omega) (by omega) (by simp; omega) (wr.heap.size + 1) (by simp) ?_
          intro g cap w1 hown1 hgrow hat hlt'
          have near : ∀ (B o : Nat), B < wr.heap.size → v.ownBlock ≠ some B → w1.cell? ⟨B, o, none⟩ = wr.cell? ⟨B, o, none⟩ := fun B o h hne => (hgrow.cell_far ⟨B, o, none⟩ (by simp; omega) (Ne.symm hne)).trans (far _ _ _ h)
          (refine hK _ _ ⟨(near _ _ (by omega) a1').trans k3, (near _ _ (by omega) a0).trans k1, (near _ _ (by omega) a2').trans c0, (near _ _ (by omega) a2').trans c1, (near _ _ (by omega) a2').trans c2⟩ (fun inv => ?_); clear hK K; (try simp only [Act.put, List.getElem_toArray, List.getElem_cons_zero, List.getElem_cons_succ, List.setIfInBounds_toArray, List.set_cons_zero, List.set_cons_succ]))
          (refine anyT_end (by kernel_rfl) ?_; simp only [List.drop_succ_cons, List.drop_zero])
          have hal : ∀ (y : Obj) (B : Nat), B < wr.heap.size → (wr.alloc y).drew.heap[B]? = wr.heap[B]? := fun y B h => (Joins.below_alloc1 wr y).block B h
          have e1 := flat_succ l2 k x hx
          have g0 := fun u => stay_block (o := 1) (C := w.heap.size + 1 + 1) (u := u) (hal _ _ (by omega)) (by simp) hgrow (B := w.heap.size) (by omega) a0 (by omega)
          have g1 := fun u => stay_block (o := 1) (C := w.heap.size + 1 + 1) (u := u) (hal _ _ (by omega)) (by simp) hgrow (B := w.heap.size + 1) (by omega) (own_ne own (by omega)) (by omega)
          have go : ∀ u, (w1.setCell ⟨w.heap.size + 1 + 1, 1, none⟩ u).ownsRow (w.heap.size + 3) 36 3 v1 l1.length (flat l1) := fun u => own_kept own0 (fun g hg => by
            have h1 := own_lt own0 hg
            have h2 := IL.out g hg
            exact stay_block (o := 1) (C := w.heap.size + 1 + 1) (u := u) (hal _ _ (by omega)) (by simp) hgrow (B := g) (by omega) (own_ne own (by omega)) (by omega))
          have g2 : w1.heap[w.heap.size + 1 + 1]? = some (.cells #[v1, v] 30 (0, 0)) := (hgrow.block _ (by simp; omega) (Ne.symm a1')).trans ((hal _ _ (by omega)).trans b2)
          have f2 := unfrozen_of_block g2 1
          have k2 := cell_of_block g2 1
          simp at k2
          have G0 := Lib.hid g0
          have G1 := Lib.hid g1
          have G2 := Lib.hid g2
          have GO := Lib.hid go
          have E1 := Lib.hid e1
          clear g0 g1 g2 e1 hal near far go
          go_wp2
          go_roundw
          case rel =>
            refine ⟨k + 1, _, by omega, by go_num, Lib.hid ⟨(G0.out _).trans b0, (G1.out _).trans b1, block_setCell G2.out _, GO.out _, ?_, ?_, ?_⟩⟩
            · rw [E1.out]
              exact ownsRow_setCell_below hown1 (by simp; omega) _
            · refine ((bel.alloc (by omega) _).drew.grown hgrow (by simp; omega) ?_).setCell (by simp; omega) _
              intro g' hg'
              have := (own_lt own hg').1
              omega
            · have := hgrow.size
              simp at this ⊢
              omega
          case measure => simp [intOf]; omega
        · obtain rfl : k = l2.length := by omega
          obtain ⟨b0, b1, b2, own0, own, bel, sz2⟩ := HI.out
          rw [List.take_length] at own
          obtain ⟨-, x1, d1, rfl, -, -, le1⟩ := lks_of_owns own0
          obtain ⟨-, x2, d2, rfl, -, -, le2⟩ := lks_of_owns own
          have k1 := cell_of_block b0 1
          have k2 := cell_of_block b2 0
          have k3 := cell_of_block b2 1
          have f1 := unfrozen_of_block b1 0
          have f1' := unfrozen_of_block b1 1
          have k4 := cell_of_block b1 0
          have k5 := cell_of_block b1 1
          simp at k1 k2 k3 k4 k5
          have J1 := Lib.hid own0
          have J2 := Lib.hid own
          clear own0 own b0 b1 b2 HI
          go_wp2
          ((try simp only [Exit.inBlock, Exit.then]); go_light; refine bodyPost_ret (by simp [results, Tryd.results14, go_sem, *]; try rfl) rfl ?_)
          refine ⟨⟨_, _, rfl, ?_, ?_, ?_⟩, ?_⟩
          · exact Joins.ownsRow_le (ownsRow_setCell_below (a := ⟨w.heap.size + 1, 1, none⟩) (ownsRow_setCell_below (a := ⟨w.heap.size + 1, 0, none⟩) J1.out (by simp) _) (by simp) _) (by omega)
          · exact Joins.ownsRow_le (ownsRow_setCell_below (a := ⟨w.heap.size + 1, 1, none⟩) (ownsRow_setCell_below (a := ⟨w.heap.size + 1, 0, none⟩) J2.out (by simp; omega) _) (by simp; omega) _) (by omega)
          · intro g h1 h2
            have q1 := IL.out g h1
            have q2 := (own_lt J2.out h2).1
            omega
          · exact (bel.setCell (p := ⟨w.heap.size + 1, 0, none⟩) (by simp) _).setCell (p := ⟨w.heap.size + 1, 1, none⟩) (by simp) _
theorem copy_any (a1 a2 : Option Addr) (l1 l2 : List LK) (p1 p2 : Nat) (w : World) (h1 : LksAt w a1 l1) (h2 : LksAt w a2 l2) (n1 : l1.length ≤ 1048576) (n2 : l2.length ≤ 1048576) :
    Calls Tryd.prog 14 #[.agg #[.slice a1 l1.length p1, .slice a2 l2.length p2]] w fun e w' =>
      (∃ b1 b2 d1 d2, e = .returned (.agg #[.slice b1 l1.length d1, .slice b2 l2.length d2]) ∧ LksAt w' b1 l1 ∧ LksAt w' b2 l2 ∧ l1.length ≤ d1 ∧ l2.length ≤ d2) ∧ Below w.heap.size w w' :=
  (copy_own a1 a2 l1 l2 p1 p2 w h1 h2 n1 n2).mono fun e w' h => by
    obtain ⟨⟨v1, v2, he, o1, o2, _⟩, hb⟩ := h
    obtain ⟨-, b1, d1, rfl, g1, -, le1⟩ := lks_of_owns o1
    obtain ⟨-, b2, d2, rfl, g2, -, le2⟩ := lks_of_owns o2
    exact ⟨⟨b1, b2, d1, d2, he, g1, g2, le1, le2⟩, hb⟩
end Go.Proofs.YtkehmidldcggcaaDoor
