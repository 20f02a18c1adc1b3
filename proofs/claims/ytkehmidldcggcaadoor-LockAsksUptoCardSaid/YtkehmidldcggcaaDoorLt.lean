/- The program's have: a lock is had. -/
import Derived.Test.YtkehmidldcggcaaDoorLq
set_option linter.unusedSimpArgs false
set_option linter.unusedVariables false
namespace Go.Proofs.YtkehmidldcggcaaDoor
open Go.RowKit Go.Joins
set_option maxRecDepth 100000 in
set_option maxHeartbeats 2000000 in
theorem have_any (R B : Nat) (v1 v2 : Value) (l1 l2 : List LK) (x : LK) (w : World) (hR : w.heap[R]? = some (.cells #[v1, v2] 30 (0, 0))) (own : OwnPair w B v1 v2 l1 l2) (hB : B ≤ w.heap.size) (r1 : v1.ownBlock ≠ some R) (r2v : v2.ownBlock ≠ some R) (n1 : l1.length ≤ 2097152) :
    Calls Tryd.prog 45 #[.pointer (some ⟨R, 0, none⟩), .agg #[.int .i64 x.t, .string x.s, .int .i64 x.m]] w fun e w' =>
      (e = .returned (.tuple #[]) ∧ ∃ v1', w'.heap[R]? = some (.cells #[v1', v2] 30 (0, 0)) ∧ OwnPair w' B v1' v2 (haveM x l1) l2 ∧ v1'.ownBlock ≠ some R ∧ (∀ g, v1'.ownBlock = some g → v1.ownBlock = some g ∨ w.heap.size ≤ g)) ∧ Keeps (fun k => k = R ∨ v1.ownBlock = some k) w w' := by
  obtain ⟨i0, hi0, hz0, hz1, hz2⟩ := info_parts infoLock
  obtain ⟨own1, own2, dis⟩ := own
  have hRlt : R < w.heap.size := (Array.getElem?_eq_some_iff.1 hR).1
  obtain ⟨-, a1, p1, rfl, hL, hform, le1⟩ := lks_of_owns own1
  have O1 := Lib.hid own1
  have O2 := Lib.hid own2
  have RR := Lib.hid hR
  have HL := Lib.hid hL
  have DI := Lib.hid dis
  have R1 := Lib.hid r1
  have R2V := Lib.hid r2v
  have hf := haveM_find x l1
  have HLN := Lib.hid (haveM_len x l1)
  obtain ⟨xt, xs, xm⟩ := x
  simp only at hf ⊢
  have k0 := Joins.cell_of_block hR 0
  have f0 := Joins.unfrozen_of_block hR 0
  simp at k0
  have k0 : (w.alloc (.cells #[.int .i64 xt, .string xs, .int .i64 xm] 36)).cell? ⟨R, 0, none⟩ = some (.slice a1 l1.length p1) := cell_later (Joins.below_alloc1 w _) k0
  have f0 : (w.alloc (.cells #[.int .i64 xt, .string xs, .int .i64 xm] 36)).frozen? ⟨R, 0, none⟩ = false := ((Joins.below_alloc1 w _).frozen (p := ⟨R, 0, none⟩) hRlt).trans f0
  have t0 : (w.alloc (.cells #[.int .i64 xt, .string xs, .int .i64 xm] 36)).cell? ⟨w.heap.size, 0, none⟩ = some (.int .i64 xt) := by simp
  have t1 : (w.alloc (.cells #[.int .i64 xt, .string xs, .int .i64 xm] 36)).cell? ⟨w.heap.size, 1, none⟩ = some (.string xs) := by simp
  have t2 : (w.alloc (.cells #[.int .i64 xt, .string xs, .int .i64 xm] 36)).cell? ⟨w.heap.size, 2, none⟩ = some (.int .i64 xm) := by simp
  have zW : w.heap.size < (w.alloc (.cells #[.int .i64 xt, .string xs, .int .i64 xm] 36)).heap.size := by simp
  have bW := Lib.hid (Joins.below_alloc1 w (.cells #[.int .i64 xt, .string xs, .int .i64 xm] 36))
  clear own1 own2 dis hL hR r1 r2v
  rcases hf with ⟨f1, f2, -⟩ | ⟨j, y, f1, f2, -, -, f3⟩
  · have F2 := Lib.hid f2
    have HFi := fun w1 (hb : Below w.heap.size w w1) => find_any a1 l1 p1 xt xs w1 (HL.out.below hb (Nat.le_refl _)) (by omega)
    rw [f1] at HFi
    have HFi := Lib.hid HFi
    clear f1 f2
    go_enter Tryd.func45, Tryd.ntmps45
    go_wp2
    generalize hW : w.alloc (.cells #[.int .i64 xt, .string xs, .int .i64 xm] 36) = W at k0 f0 t0 t1 t2 zW bW ⊢
    clear hW
    refine wp_cut (fun w' : World => w'.cell? ⟨w.heap.size, 0, none⟩ = some (.int .i64 xt) ∧ w'.cell? ⟨w.heap.size, 1, none⟩ = some (.string xs) ∧ w'.cell? ⟨R, 0, none⟩ = some (.slice a1 l1.length p1)) 9 (by kernel_rfl) (by kernel_rfl) (fun inv => ?_)
    ((refine anyT_take (i := 0) (v := ?_) rfl (by kernel_rfl) (by kernel_rfl) (by kernel_rfl) (fun _ _ _ h => h) (Or.inl ⟨by rfl, ?_⟩) ⟨t0, t1, k0⟩ inv (fun inv => ?_); rotate_left; (· (intro w hSw; (try dsimp only at hSw); go_simp; with_reducible rfl)); (try simp only [Act.put, List.getElem_toArray, List.getElem_cons_zero, List.getElem_cons_succ, List.setIfInBounds_toArray, List.set_cons_zero, List.set_cons_succ])); (refine anyT_take (i := 1) (v := ?_) rfl (by kernel_rfl) (by kernel_rfl) (by kernel_rfl) (fun _ _ _ h => h) (Or.inl ⟨by rfl, ?_⟩) ⟨t0, t1, k0⟩ inv (fun inv => ?_); rotate_left; (· (intro w hSw; (try dsimp only at hSw); go_simp; with_reducible rfl)); (try simp only [Act.put, List.getElem_toArray, List.getElem_cons_zero, List.getElem_cons_succ, List.setIfInBounds_toArray, List.set_cons_zero, List.set_cons_succ])); (refine anyT_take (i := 2) (v := ?_) rfl (by kernel_rfl) (by kernel_rfl) (by kernel_rfl) (fun _ _ _ h => h) (Or.inl ⟨by rfl, ?_⟩) ⟨t0, t1, k0⟩ inv (fun inv => ?_); rotate_left; (· (intro w hSw; (try dsimp only at hSw); go_simp; with_reducible rfl)); (try simp only [Act.put, List.getElem_toArray, List.getElem_cons_zero, List.getElem_cons_succ, List.setIfInBounds_toArray, List.set_cons_zero, List.set_cons_succ])); (refine anyT_take (i := 3) (v := ?_) rfl (by kernel_rfl) (by kernel_rfl) (by kernel_rfl) (fun _ _ _ h => h) (Or.inl ⟨by rfl, ?_⟩) ⟨t0, t1, k0⟩ inv (fun inv => ?_); rotate_left; (· (intro w hSw; (try dsimp only at hSw); go_simp; with_reducible rfl)); (try simp only [Act.put, List.getElem_toArray, List.getElem_cons_zero, List.getElem_cons_succ, List.setIfInBounds_toArray, List.set_cons_zero, List.set_cons_succ])); (refine anyT_take (i := 4) (v := ?_) rfl (by kernel_rfl) (by kernel_rfl) (by kernel_rfl) (fun _ _ _ h => h) (Or.inl ⟨by rfl, ?_⟩) ⟨t0, t1, k0⟩ inv (fun inv => ?_); rotate_left; (· (intro w hSw; (try dsimp only at hSw); go_simp; with_reducible rfl)); (try simp only [Act.put, List.getElem_toArray, List.getElem_cons_zero, List.getElem_cons_succ, List.setIfInBounds_toArray, List.set_cons_zero, List.set_cons_succ])); (refine anyT_take (i := 5) (v := ?_) rfl (by kernel_rfl) (by kernel_rfl) (by kernel_rfl) (fun _ _ _ h => h) (Or.inl ⟨by rfl, ?_⟩) ⟨t0, t1, k0⟩ inv (fun inv => ?_); rotate_left; (· (intro w hSw; (try dsimp only at hSw); go_simp; with_reducible rfl)); (try simp only [Act.put, List.getElem_toArray, List.getElem_cons_zero, List.getElem_cons_succ, List.setIfInBounds_toArray, List.set_cons_zero, List.set_cons_succ])); (refine anyT_take (i := 6) (v := ?_) rfl (by kernel_rfl) (by kernel_rfl) (by kernel_rfl) (fun _ _ _ h => h) (Or.inl ⟨by rfl, ?_⟩) ⟨t0, t1, k0⟩ inv (fun inv => ?_); rotate_left; (· (intro w hSw; (try dsimp only at hSw); go_simp; with_reducible rfl)); (try simp only [Act.put, List.getElem_toArray, List.getElem_cons_zero, List.getElem_cons_succ, List.setIfInBounds_toArray, List.set_cons_zero, List.set_cons_succ])); (refine anyT_take (i := 7) (v := ?_) rfl (by kernel_rfl) (by kernel_rfl) (by kernel_rfl) (fun _ _ _ h => h) (Or.inl ⟨by rfl, ?_⟩) ⟨t0, t1, k0⟩ inv (fun inv => ?_); rotate_left; (· (intro w hSw; (try dsimp only at hSw); go_simp; with_reducible rfl)); (try simp only [Act.put, List.getElem_toArray, List.getElem_cons_zero, List.getElem_cons_succ, List.setIfInBounds_toArray, List.set_cons_zero, List.set_cons_succ])))
    (refine anyT_step (i := 8) rfl (by kernel_rfl) (by decide) inv (fun K hK => ?_); go_simp; go_at_call 35; refine (HFi.out _ (by have b := bW.out; (repeat' (first | (with_reducible exact Below.refl _ _) | (with_reducible assumption) | (with_reducible refine Below.alloc ?_ ?_ _) | (with_reducible refine Below.drew ?_) | (with_reducible refine below_drewN ?_) | (with_reducible refine Below.setCell ?_ ?_ _) | (with_reducible refine below_step ?_ ?_ (by with_reducible assumption)) | go_size)))).mono ?_; rintro e w1 ⟨rfl, hbw1⟩; have hz := hbw1.size; (try simp only [World.size_alloc, World.size_setCell, World.size_drew, size_drewN] at hz); (refine hK _ _ ⟨cell_later hbw1 t0, cell_later hbw1 t1, cell_later hbw1 k0⟩ (fun inv => ?_); clear hK K; (try simp only [Act.put, List.getElem_toArray, List.getElem_cons_zero, List.getElem_cons_succ, List.setIfInBounds_toArray, List.set_cons_zero, List.set_cons_succ])))
    have k0 := cell_later hbw1 k0
    have t0 := cell_later hbw1 t0
    have t1 := cell_later hbw1 t1
    have t2 := cell_later hbw1 t2
    have b1 : Below w.heap.size w w1 := by have b := bW.out; (repeat' (first | (with_reducible exact Below.refl _ _) | (with_reducible assumption) | (with_reducible refine Below.alloc ?_ ?_ _) | (with_reducible refine Below.drew ?_) | (with_reducible refine below_drewN ?_) | (with_reducible refine Below.setCell ?_ ?_ _) | (with_reducible refine below_step ?_ ?_ (by with_reducible assumption)) | go_size))
    have z1 : w.heap.size < w1.heap.size := by have := hbw1.size; simp at this; omega
    have P1 := Lib.hid (own_below O1.out b1 (Nat.le_refl _))
    have P2 := Lib.hid (own_below O2.out b1 (Nat.le_refl _))
    have RR := Lib.hid ((b1.block R hRlt).trans RR.out)
    have B1 := Lib.hid b1
    clear b1 hbw1 f0 hz
    (refine anyT_end (by kernel_rfl) ?_; simp only [List.drop_succ_cons, List.drop_zero])
    go_wp2
    refine wp_cut (fun w' : World => w'.cell? ⟨w.heap.size, 0, none⟩ = some (.int .i64 xt) ∧ w'.cell? ⟨w.heap.size, 1, none⟩ = some (.string xs) ∧ w'.cell? ⟨w.heap.size, 2, none⟩ = some (.int .i64 xm) ∧ w'.cell? ⟨R, 0, none⟩ = some (.slice a1 l1.length p1)) 8 (by kernel_rfl) (by kernel_rfl) (fun inv => ?_)
    ((refine anyT_take (i := 0) (v := ?_) rfl (by kernel_rfl) (by kernel_rfl) (by kernel_rfl) (fun _ _ _ h => h) (Or.inl ⟨by rfl, ?_⟩) ⟨t0, t1, t2, k0⟩ inv (fun inv => ?_); rotate_left; (· (intro w hSw; (try dsimp only at hSw); go_simp; with_reducible rfl)); (try simp only [Act.put, List.getElem_toArray, List.getElem_cons_zero, List.getElem_cons_succ, List.setIfInBounds_toArray, List.set_cons_zero, List.set_cons_succ])); (refine anyT_take (i := 1) (v := ?_) rfl (by kernel_rfl) (by kernel_rfl) (by kernel_rfl) (fun _ _ _ h => h) (Or.inl ⟨by rfl, ?_⟩) ⟨t0, t1, t2, k0⟩ inv (fun inv => ?_); rotate_left; (· (intro w hSw; (try dsimp only at hSw); go_simp; with_reducible rfl)); (try simp only [Act.put, List.getElem_toArray, List.getElem_cons_zero, List.getElem_cons_succ, List.setIfInBounds_toArray, List.set_cons_zero, List.set_cons_succ])); (refine anyT_take (i := 2) (v := ?_) rfl (by kernel_rfl) (by kernel_rfl) (by kernel_rfl) (fun _ _ _ h => h) (Or.inl ⟨by rfl, ?_⟩) ⟨t0, t1, t2, k0⟩ inv (fun inv => ?_); rotate_left; (· (intro w hSw; (try dsimp only at hSw); go_simp; with_reducible rfl)); (try simp only [Act.put, List.getElem_toArray, List.getElem_cons_zero, List.getElem_cons_succ, List.setIfInBounds_toArray, List.set_cons_zero, List.set_cons_succ])); (refine anyT_take (i := 3) (v := ?_) rfl (by kernel_rfl) (by kernel_rfl) (by kernel_rfl) (fun _ _ _ h => h) (Or.inl ⟨by rfl, ?_⟩) ⟨t0, t1, t2, k0⟩ inv (fun inv => ?_); rotate_left; (· (intro w hSw; (try dsimp only at hSw); go_simp; with_reducible rfl)); (try simp only [Act.put, List.getElem_toArray, List.getElem_cons_zero, List.getElem_cons_succ, List.setIfInBounds_toArray, List.set_cons_zero, List.set_cons_succ])); (refine anyT_take (i := 4) (v := ?_) rfl (by kernel_rfl) (by kernel_rfl) (by kernel_rfl) (fun _ _ _ h => h) (Or.inl ⟨by rfl, ?_⟩) ⟨t0, t1, t2, k0⟩ inv (fun inv => ?_); rotate_left; (· (intro w hSw; (try dsimp only at hSw); go_simp; with_reducible rfl)); (try simp only [Act.put, List.getElem_toArray, List.getElem_cons_zero, List.getElem_cons_succ, List.setIfInBounds_toArray, List.set_cons_zero, List.set_cons_succ])); (refine anyT_take (i := 5) (v := ?_) rfl (by kernel_rfl) (by kernel_rfl) (by kernel_rfl) (fun _ _ _ h => h) (Or.inl ⟨by rfl, ?_⟩) ⟨t0, t1, t2, k0⟩ inv (fun inv => ?_); rotate_left; (· (intro w hSw; (try dsimp only at hSw); go_simp; with_reducible rfl)); (try simp only [Act.put, List.getElem_toArray, List.getElem_cons_zero, List.getElem_cons_succ, List.setIfInBounds_toArray, List.set_cons_zero, List.set_cons_succ])))
    refine anyT_step (i := 6) rfl (by kernel_rfl) (by decide) inv (fun K hK => ?_)
    go_simp
    have far : ∀ (y : Obj) (C o : Nat), C < w1.heap.size → (w1.alloc y).drew.cell? ⟨C, o, none⟩ = w1.cell? ⟨C, o, none⟩ := fun y C o h => (Joins.below_alloc1 w1 y).cell (p := ⟨C, o, none⟩) h
    (refine hK _ _ ⟨(far _ _ _ z1).trans t0, (far _ _ _ z1).trans t1, (far _ _ _ z1).trans t2, (far _ _ _ (by omega)).trans k0⟩ (fun inv => ?_); clear hK K; (try simp only [Act.put, List.getElem_toArray, List.getElem_cons_zero, List.getElem_cons_succ, List.setIfInBounds_toArray, List.set_cons_zero, List.set_cons_succ]))
    refine anyT_step (i := 7) rfl (by kernel_rfl) (by decide) inv (fun K hK => ?_)
    have q1 : (Value.slice a1 l1.length p1).ownBlock ≠ some w.heap.size := fun h => by have := (own_lt O1.out h).2; omega
    refine step_append_lies _ (by rfl) _ _ _ (by rfl) B 36 i0 _ 3 32 Tryd.underlying28 hi0 hz0 hz1 hz2 rfl (by omega) (.slice a1 l1.length p1) l1.length (flat l1) (by rfl) ((P1.out.alloc _).drew) ⟨w1.heap.size, 0, none⟩ 1 1 [.int .i64 xt, .string xs, .int .i64 xm] (by rfl) (by rfl) (World.news_of_block (cs := #[.int .i64 xt, .string xs, .int .i64 xm]) (t := 36) (fr := (0, 0)) (heap_alloc_new w1 _)) (by simp [Value.oneCell']) (by omega) (by unfold maxLen; omega) (by omega) (by simp; omega) (w1.heap.size + 1) (by simp) ?_
    intro g cap w2 hown hgrow hat hlt
    have near : ∀ (C o : Nat), C < w1.heap.size → (Value.slice a1 l1.length p1).ownBlock ≠ some C → w2.cell? ⟨C, o, none⟩ = w1.cell? ⟨C, o, none⟩ := fun C o h hne => (hgrow.cell_far ⟨C, o, none⟩ (by simp; omega) (Ne.symm hne)).trans (far _ _ _ h)
    (refine hK _ _ ⟨(near _ _ z1 q1).trans t0, (near _ _ z1 q1).trans t1, (near _ _ z1 q1).trans t2, (near _ _ (by omega) R1.out).trans k0⟩ (fun inv => ?_); clear hK K; (try simp only [Act.put, List.getElem_toArray, List.getElem_cons_zero, List.getElem_cons_succ, List.setIfInBounds_toArray, List.set_cons_zero, List.set_cons_succ]))
    (refine anyT_end (by kernel_rfl) ?_; simp only [List.drop_succ_cons, List.drop_zero])
    have k0 := (near R 0 (by omega) R1.out).trans k0
    have hal : ∀ (y : Obj) (C : Nat), C < w1.heap.size → (w1.alloc y).drew.heap[C]? = w1.heap[C]? := fun y C h => (Joins.below_alloc1 w1 y).block C h
    have r2 : w2.heap[R]? = some (.cells #[.slice a1 l1.length p1, v2] 30 (0, 0)) := (hgrow.block _ (by simp; omega) (Ne.symm R1.out)).trans ((hal _ _ (by omega)).trans RR.out)
    have f0 := Joins.unfrozen_of_block r2 0
    have OW := Lib.hid hown
    have R2 := Lib.hid r2
    have KG : Hid (Keeps (fun k => k = R ∨ (Value.slice a1 l1.length p1).ownBlock = some k) w w2) := Lib.hid (((Keeps.of_below B1.out (Nat.le_refl _)).alloc _).drew.grown hgrow (fun k hk => .inl (.inr hk)))
    have P2' : Hid (w2.ownsRow B 36 3 v2 l2.length (flat l2)) := Lib.hid ((Keeps.refl (fun k => (Value.slice a1 l1.length p1).ownBlock = some k) (w1.alloc _).drew |>.grown hgrow (fun k hk => .inl hk)).own ((P2.out.alloc _).drew) (fun g hg h => DI.out g h hg))
    have hz2 := hgrow.size
    simp at hz2
    have HAT := Lib.hid hat
    clear far near hal hown hgrow r2 hat t0 t1 t2 q1
    go_wp2
    go_end0
    have gR : g ≠ R := by
      rcases HAT.out with h | h
      · intro e; subst e; exact R1.out h
      · omega
    refine ⟨⟨rfl, .slice (some ⟨g, 0, none⟩) (l1.length + 1) cap, ?_, ⟨?_, ?_, ?_⟩, ?_, ?_⟩, ?_⟩
    · exact block_setCell R2.out _
    · rw [F2.out, List.length_append, flat_snoc]
      exact ownsRow_setCell_other OW.out (by simp [Value.ownBlock]; exact gR) _
    · exact ownsRow_setCell_other P2'.out R2V.out _
    · intro g' hg' h
      simp [Value.ownBlock] at hg'
      subst hg'
      rcases HAT.out with h' | h'
      · exact DI.out _ h' h
      · have := (own_lt O2.out h).2; omega
    · simp [Value.ownBlock]; exact gR
    · intro g' hg'
      simp [Value.ownBlock] at hg'
      subst hg'
      rcases HAT.out with h' | h'
      · exact .inl h'
      · right; have := B1.out.size; omega
    · exact (KG.out.setCell (.inl (.inl rfl)) _)
  · have hjl := (List.getElem?_eq_some_iff.1 f2).1
    obtain ⟨g, rfl, hg⟩ : ∃ g, a1 = some ⟨g, 0, none⟩ ∧ B ≤ g := by
      rcases hform with h | h
      · subst h; simp at hjl
      · exact h
    have j1 : (0 : Int) ≤ (j : Int) := by omega
    have j2 : (j : Int) < (l1.length : Int) := by omega
    have gR : g ≠ R := fun h => R1.out (by simp [Value.ownBlock, h])
    have glt : g < w.heap.size := (own_lt O1.out rfl).2
    have F3 := Lib.hid f3
    have F2 := Lib.hid f2
    have HFi := fun w1 (hb : Below w.heap.size w w1) => find_any (some ⟨g, 0, none⟩) l1 p1 xt xs w1 (HL.out.below hb (Nat.le_refl _)) (by omega)
    rw [f1] at HFi
    have HFi := Lib.hid HFi
    clear f1 f2 f3 hform hg
    go_enter Tryd.func45, Tryd.ntmps45
    go_wp2
    generalize hW : w.alloc (.cells #[.int .i64 xt, .string xs, .int .i64 xm] 36) = W at k0 f0 t0 t1 t2 zW bW ⊢
    clear hW
    refine wp_cut (fun w' : World => w'.cell? ⟨w.heap.size, 0, none⟩ = some (.int .i64 xt) ∧ w'.cell? ⟨w.heap.size, 1, none⟩ = some (.string xs) ∧ w'.cell? ⟨R, 0, none⟩ = some (.slice (some ⟨g, 0, none⟩) l1.length p1)) 9 (by kernel_rfl) (by kernel_rfl) (fun inv => ?_)
    ((refine anyT_take (i := 0) (v := ?_) rfl (by kernel_rfl) (by kernel_rfl) (by kernel_rfl) (fun _ _ _ h => h) (Or.inl ⟨by rfl, ?_⟩) ⟨t0, t1, k0⟩ inv (fun inv => ?_); rotate_left; (· (intro w hSw; (try dsimp only at hSw); go_simp; with_reducible rfl)); (try simp only [Act.put, List.getElem_toArray, List.getElem_cons_zero, List.getElem_cons_succ, List.setIfInBounds_toArray, List.set_cons_zero, List.set_cons_succ])); (refine anyT_take (i := 1) (v := ?_) rfl (by kernel_rfl) (by kernel_rfl) (by kernel_rfl) (fun _ _ _ h => h) (Or.inl ⟨by rfl, ?_⟩) ⟨t0, t1, k0⟩ inv (fun inv => ?_); rotate_left; (· (intro w hSw; (try dsimp only at hSw); go_simp; with_reducible rfl)); (try simp only [Act.put, List.getElem_toArray, List.getElem_cons_zero, List.getElem_cons_succ, List.setIfInBounds_toArray, List.set_cons_zero, List.set_cons_succ])); (refine anyT_take (i := 2) (v := ?_) rfl (by kernel_rfl) (by kernel_rfl) (by kernel_rfl) (fun _ _ _ h => h) (Or.inl ⟨by rfl, ?_⟩) ⟨t0, t1, k0⟩ inv (fun inv => ?_); rotate_left; (· (intro w hSw; (try dsimp only at hSw); go_simp; with_reducible rfl)); (try simp only [Act.put, List.getElem_toArray, List.getElem_cons_zero, List.getElem_cons_succ, List.setIfInBounds_toArray, List.set_cons_zero, List.set_cons_succ])); (refine anyT_take (i := 3) (v := ?_) rfl (by kernel_rfl) (by kernel_rfl) (by kernel_rfl) (fun _ _ _ h => h) (Or.inl ⟨by rfl, ?_⟩) ⟨t0, t1, k0⟩ inv (fun inv => ?_); rotate_left; (· (intro w hSw; (try dsimp only at hSw); go_simp; with_reducible rfl)); (try simp only [Act.put, List.getElem_toArray, List.getElem_cons_zero, List.getElem_cons_succ, List.setIfInBounds_toArray, List.set_cons_zero, List.set_cons_succ])); (refine anyT_take (i := 4) (v := ?_) rfl (by kernel_rfl) (by kernel_rfl) (by kernel_rfl) (fun _ _ _ h => h) (Or.inl ⟨by rfl, ?_⟩) ⟨t0, t1, k0⟩ inv (fun inv => ?_); rotate_left; (· (intro w hSw; (try dsimp only at hSw); go_simp; with_reducible rfl)); (try simp only [Act.put, List.getElem_toArray, List.getElem_cons_zero, List.getElem_cons_succ, List.setIfInBounds_toArray, List.set_cons_zero, List.set_cons_succ])); (refine anyT_take (i := 5) (v := ?_) rfl (by kernel_rfl) (by kernel_rfl) (by kernel_rfl) (fun _ _ _ h => h) (Or.inl ⟨by rfl, ?_⟩) ⟨t0, t1, k0⟩ inv (fun inv => ?_); rotate_left; (· (intro w hSw; (try dsimp only at hSw); go_simp; with_reducible rfl)); (try simp only [Act.put, List.getElem_toArray, List.getElem_cons_zero, List.getElem_cons_succ, List.setIfInBounds_toArray, List.set_cons_zero, List.set_cons_succ])); (refine anyT_take (i := 6) (v := ?_) rfl (by kernel_rfl) (by kernel_rfl) (by kernel_rfl) (fun _ _ _ h => h) (Or.inl ⟨by rfl, ?_⟩) ⟨t0, t1, k0⟩ inv (fun inv => ?_); rotate_left; (· (intro w hSw; (try dsimp only at hSw); go_simp; with_reducible rfl)); (try simp only [Act.put, List.getElem_toArray, List.getElem_cons_zero, List.getElem_cons_succ, List.setIfInBounds_toArray, List.set_cons_zero, List.set_cons_succ])); (refine anyT_take (i := 7) (v := ?_) rfl (by kernel_rfl) (by kernel_rfl) (by kernel_rfl) (fun _ _ _ h => h) (Or.inl ⟨by rfl, ?_⟩) ⟨t0, t1, k0⟩ inv (fun inv => ?_); rotate_left; (· (intro w hSw; (try dsimp only at hSw); go_simp; with_reducible rfl)); (try simp only [Act.put, List.getElem_toArray, List.getElem_cons_zero, List.getElem_cons_succ, List.setIfInBounds_toArray, List.set_cons_zero, List.set_cons_succ])))
    (refine anyT_step (i := 8) rfl (by kernel_rfl) (by decide) inv (fun K hK => ?_); go_simp; go_at_call 35; refine (HFi.out _ (by have b := bW.out; (repeat' (first | (with_reducible exact Below.refl _ _) | (with_reducible assumption) | (with_reducible refine Below.alloc ?_ ?_ _) | (with_reducible refine Below.drew ?_) | (with_reducible refine below_drewN ?_) | (with_reducible refine Below.setCell ?_ ?_ _) | (with_reducible refine below_step ?_ ?_ (by with_reducible assumption)) | go_size)))).mono ?_; rintro e w1 ⟨rfl, hbw1⟩; have hz := hbw1.size; (try simp only [World.size_alloc, World.size_setCell, World.size_drew, size_drewN] at hz); (refine hK _ _ ⟨cell_later hbw1 t0, cell_later hbw1 t1, cell_later hbw1 k0⟩ (fun inv => ?_); clear hK K; (try simp only [Act.put, List.getElem_toArray, List.getElem_cons_zero, List.getElem_cons_succ, List.setIfInBounds_toArray, List.set_cons_zero, List.set_cons_succ])))
    have k0 := cell_later hbw1 k0
    have t2 := cell_later hbw1 t2
    have b1 : Below w.heap.size w w1 := by have b := bW.out; (repeat' (first | (with_reducible exact Below.refl _ _) | (with_reducible assumption) | (with_reducible refine Below.alloc ?_ ?_ _) | (with_reducible refine Below.drew ?_) | (with_reducible refine below_drewN ?_) | (with_reducible refine Below.setCell ?_ ?_ _) | (with_reducible refine below_step ?_ ?_ (by with_reducible assumption)) | go_size))
    have O1' := own_below O1.out b1 (Nat.le_refl _)
    have O2' := own_below O2.out b1 (Nat.le_refl _)
    have RR' := (b1.block R hRlt).trans RR.out
    have cg := O1'.cellAt (j * 3 + 2) (by omega)
    rw [flat_at l1 j y F2.out 2 _ rfl] at cg
    have fg := O1'.frozenAt (j * 3 + 2)
    have B1 := Lib.hid b1
    have P1 := Lib.hid O1'
    have P2 := Lib.hid O2'
    have RR := Lib.hid RR'
    clear O1' O2' RR' b1 hbw1 f0 t0 t1 hz
    (refine anyT_end (by kernel_rfl) ?_; simp only [List.drop_succ_cons, List.drop_zero])
    go_wp2
    refine wp_cut (fun w' : World => w'.cell? ⟨w.heap.size, 2, none⟩ = some (.int .i64 xm) ∧ w'.cell? ⟨R, 0, none⟩ = some (.slice (some ⟨g, 0, none⟩) l1.length p1)) 9 (by kernel_rfl) (by kernel_rfl) (fun inv => ?_)
    ((refine anyT_take (i := 0) (v := ?_) rfl (by kernel_rfl) (by kernel_rfl) (by kernel_rfl) (fun _ _ _ h => h) (Or.inl ⟨by rfl, ?_⟩) ⟨t2, k0⟩ inv (fun inv => ?_); rotate_left; (· (intro w hSw; (try dsimp only at hSw); go_simp; with_reducible rfl)); (try simp only [Act.put, List.getElem_toArray, List.getElem_cons_zero, List.getElem_cons_succ, List.setIfInBounds_toArray, List.set_cons_zero, List.set_cons_succ])); (refine anyT_take (i := 1) (v := ?_) rfl (by kernel_rfl) (by kernel_rfl) (by kernel_rfl) (fun _ _ _ h => h) (Or.inl ⟨by rfl, ?_⟩) ⟨t2, k0⟩ inv (fun inv => ?_); rotate_left; (· (intro w hSw; (try dsimp only at hSw); go_simp; with_reducible rfl)); (try simp only [Act.put, List.getElem_toArray, List.getElem_cons_zero, List.getElem_cons_succ, List.setIfInBounds_toArray, List.set_cons_zero, List.set_cons_succ])); (refine anyT_take (i := 2) (v := ?_) rfl (by kernel_rfl) (by kernel_rfl) (by kernel_rfl) (fun _ _ _ h => h) (Or.inl ⟨by rfl, ?_⟩) ⟨t2, k0⟩ inv (fun inv => ?_); rotate_left; (· (intro w hSw; (try dsimp only at hSw); go_simp; with_reducible rfl)); (try simp only [Act.put, List.getElem_toArray, List.getElem_cons_zero, List.getElem_cons_succ, List.setIfInBounds_toArray, List.set_cons_zero, List.set_cons_succ])); (refine anyT_take (i := 3) (v := ?_) rfl (by kernel_rfl) (by kernel_rfl) (by kernel_rfl) (fun _ _ _ h => h) (Or.inl ⟨by rfl, ?_⟩) ⟨t2, k0⟩ inv (fun inv => ?_); rotate_left; (· (intro w hSw; (try dsimp only at hSw); go_simp; with_reducible rfl)); (try simp only [Act.put, List.getElem_toArray, List.getElem_cons_zero, List.getElem_cons_succ, List.setIfInBounds_toArray, List.set_cons_zero, List.set_cons_succ])); (refine anyT_take (i := 4) (v := ?_) rfl (by kernel_rfl) (by kernel_rfl) (by kernel_rfl) (fun _ _ _ h => h) (Or.inl ⟨by rfl, ?_⟩) ⟨t2, k0⟩ inv (fun inv => ?_); rotate_left; (· (intro w hSw; (try dsimp only at hSw); go_simp; with_reducible rfl)); (try simp only [Act.put, List.getElem_toArray, List.getElem_cons_zero, List.getElem_cons_succ, List.setIfInBounds_toArray, List.set_cons_zero, List.set_cons_succ])); (refine anyT_take (i := 5) (v := ?_) rfl (by kernel_rfl) (by kernel_rfl) (by kernel_rfl) (fun _ _ _ h => h) (Or.inl ⟨by rfl, ?_⟩) ⟨t2, k0⟩ inv (fun inv => ?_); rotate_left; (· (intro w hSw; (try dsimp only at hSw); go_simp; with_reducible rfl)); (try simp only [Act.put, List.getElem_toArray, List.getElem_cons_zero, List.getElem_cons_succ, List.setIfInBounds_toArray, List.set_cons_zero, List.set_cons_succ])); (refine anyT_take (i := 6) (v := ?_) rfl (by kernel_rfl) (by kernel_rfl) (by kernel_rfl) (fun _ _ _ h => h) (Or.inl ⟨by rfl, ?_⟩) ⟨t2, k0⟩ inv (fun inv => ?_); rotate_left; (· (intro w hSw; (try dsimp only at hSw); go_simp; with_reducible rfl)); (try simp only [Act.put, List.getElem_toArray, List.getElem_cons_zero, List.getElem_cons_succ, List.setIfInBounds_toArray, List.set_cons_zero, List.set_cons_succ])); (refine anyT_take (i := 7) (v := ?_) rfl (by kernel_rfl) (by kernel_rfl) (by kernel_rfl) (fun _ _ _ h => h) (Or.inl ⟨by rfl, ?_⟩) ⟨t2, k0⟩ inv (fun inv => ?_); rotate_left; (· (intro w hSw; (try dsimp only at hSw); go_simp; with_reducible rfl)); (try simp only [Act.put, List.getElem_toArray, List.getElem_cons_zero, List.getElem_cons_succ, List.setIfInBounds_toArray, List.set_cons_zero, List.set_cons_succ])); (refine anyT_take (i := 8) (v := ?_) rfl (by kernel_rfl) (by kernel_rfl) (by kernel_rfl) (fun _ _ _ h => h) (Or.inl ⟨by rfl, ?_⟩) ⟨t2, k0⟩ inv (fun inv => ?_); rotate_left; (· (intro w hSw; (try dsimp only at hSw); go_simp; with_reducible rfl)); (try simp only [Act.put, List.getElem_toArray, List.getElem_cons_zero, List.getElem_cons_succ, List.setIfInBounds_toArray, List.set_cons_zero, List.set_cons_succ])))
    (refine anyT_end (by kernel_rfl) ?_; simp only [List.drop_succ_cons, List.drop_zero])
    go_wp2
    refine bodyPost_ret (results_none rfl _ _ _) rfl ?_
    refine ⟨⟨rfl, .slice (some ⟨g, 0, none⟩) l1.length p1, (Below.heap_setCell _ _ _ _ (Ne.symm gR)).trans RR.out, ⟨?_, ?_, DI.out⟩, R1.out, fun g' h => .inl h⟩, ?_⟩
    · rw [F3.out, List.length_set]
      exact own_mode xm P1.out F2.out
    · exact ownsRow_setCell_other P2.out (DI.out g rfl) _
    · exact ((Keeps.of_below B1.out (Nat.le_refl _)).setCell (.inl (.inr rfl)) _).drew
end Go.Proofs.YtkehmidldcggcaaDoor
