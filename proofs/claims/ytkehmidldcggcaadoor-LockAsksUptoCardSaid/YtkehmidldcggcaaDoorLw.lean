/- The reference's given: a lock is had. -/
import Derived.Test.YtkehmidldcggcaaDoorLq
set_option linter.unusedSimpArgs false
set_option linter.unusedVariables false
namespace Go.Proofs.YtkehmidldcggcaaDoor
open Go.RowKit Go.Joins
theorem cell_set_far (w : World) (p : Addr) (u : Value) (b o : Nat) (h : b ≠ p.block) : (w.setCell p u).cell? ⟨b, o, none⟩ = w.cell? ⟨b, o, none⟩ := World.cell?_of_block (Below.heap_setCell _ _ _ _ h)
theorem frozen_set_far (w : World) (p : Addr) (u : Value) (b o : Nat) (h : b ≠ p.block) : (w.setCell p u).frozen? ⟨b, o, none⟩ = w.frozen? ⟨b, o, none⟩ := World.frozen?_of_block (Below.heap_setCell _ _ _ _ h)
set_option maxRecDepth 100000 in
set_option maxHeartbeats 2000000 in
theorem given_any (B : Nat) (v1 v2 : Value) (l1 l2 : List LK) (x : LK) (w : World) (own : OwnPair w B v1 v2 l1 l2) (hB : B ≤ w.heap.size) (n1 : l1.length ≤ 2097152) :
    Calls Tryd.prog 46 #[.agg #[v1, v2], .agg #[.int .i64 x.t, .string x.s, .int .i64 x.m]] w fun e w' =>
      (∃ v1', e = .returned (.agg #[v1', v2]) ∧ OwnPair w' B v1' v2 (haveM x l1) l2 ∧ (∀ g, v1'.ownBlock = some g → v1.ownBlock = some g ∨ w.heap.size ≤ g)) ∧ Keeps (fun k => v1.ownBlock = some k) w w' := by
  obtain ⟨i0, hi0, hz0, hz1, hz2⟩ := info_parts infoLock
  obtain ⟨own1, own2, dis⟩ := own
  obtain ⟨-, a1, p1, rfl, hL, hform, le1⟩ := lks_of_owns own1
  obtain ⟨-, a2, p2, rfl, -, -, -⟩ := lks_of_owns own2
  have O1 := Lib.hid own1
  have O2 := Lib.hid own2
  have DI := Lib.hid dis
  have hf := haveM_find x l1
  obtain ⟨xt, xs, xm⟩ := x
  simp only at hf ⊢
  clear own2 dis hL
  have bW := Joins.below_alloc3 w (.cells #[.slice a1 l1.length p1, .slice a2 l2.length p2] 30) (.cells #[.int .i64 xt, .string xs, .int .i64 xm] 36) (.cells #[.slice none 0 0, .slice none 0 0] 30)
  rcases hf with ⟨f1, f2, f3⟩ | ⟨j, y, f1, f2, f3, f4, f5⟩
  · have F2 := Lib.hid f2
    have F3 := Lib.hid f3
    have HF := Lib.hid hform
    clear f1 f2 f3 hform own1
    go_enter Tryd.func46, Tryd.ntmps46
    go_wp2
    generalize hW : (((w.alloc (.cells #[.slice a1 l1.length p1, .slice a2 l2.length p2] 30)).alloc (.cells #[.int .i64 xt, .string xs, .int .i64 xm] 36)).alloc (.cells #[.slice none 0 0, .slice none 0 0] 30)) = W at bW ⊢
    have t0 : W.heap[w.heap.size]? = some (.cells #[.slice a1 l1.length p1, .slice a2 l2.length p2] 30 (0, 0)) := by
      rw [← hW]; exact ((Joins.below_alloc2 (w.alloc _) _ _).block _ (by simp)).trans (new_at _ _ _ rfl)
    have t1 : W.heap[w.heap.size + 1]? = some (.cells #[.int .i64 xt, .string xs, .int .i64 xm] 36 (0, 0)) := by
      rw [← hW]; exact ((Joins.below_alloc1 ((w.alloc _).alloc _) _).block _ (by simp)).trans (new_at _ _ _ (by simp))
    have t2 : W.heap[w.heap.size + 1 + 1]? = some (.cells #[.slice none 0 0, .slice none 0 0] 30 (0, 0)) := by
      rw [← hW]; exact new_at _ _ _ (by simp)
    have P1 := Lib.hid (own_below O1.out bW (Nat.le_refl _))
    have P2 := Lib.hid (own_below O2.out bW (Nat.le_refl _))
    have BW := Lib.hid bW
    have zW : w.heap.size + 1 + 1 < W.heap.size := by rw [← hW]; simp
    have q0 := Joins.cell_of_block t0 0
    have q1 := Joins.cell_of_block t1 0
    have q2 := Joins.cell_of_block t1 1
    simp at q0 q1 q2
    have T0 := Lib.hid t0
    have T1 := Lib.hid t1
    have T2 := Lib.hid t2
    have own1' := P1.out
    clear hW bW t0 t1 t2
    clear own1'
    go_loopw [5] (fun i wr => ∃ k n : Nat, k ≤ l1.length ∧ i = .int .i64 k ∧ wr = W.drewN n) (fun i _ => l1.length - (intOf i).toNat)
    case atStart => exact ⟨0, 0, by omega, rfl, (World.drewN_zero W).symm⟩
    case round =>
      obtain ⟨k, n, hk, rfl, rfl⟩ := hrel
      by_cases hkl : k < l1.length
      · obtain ⟨g, rfl, -⟩ : ∃ g, a1 = some ⟨g, 0, none⟩ ∧ B ≤ g := by
          rcases HF.out with h | h
          · subst h; simp at hkl
          · exact h
        obtain ⟨z, hz⟩ : ∃ z, l1[k]? = some z := ⟨l1[k], by simp [hkl]⟩
        have hf : isK xt xs z = false := by
          have := List.any_eq_false.1 F3.out z (List.mem_of_getElem? hz)
          simpa using this
        have c0 := P1.out.cellAt (k * 3) (by omega)
        have c1 := P1.out.cellAt (k * 3 + 1) (by omega)
        have e0 := flat_at l1 k z hz 0 _ rfl
        rw [Nat.add_zero] at e0
        rw [e0] at c0
        rw [flat_at l1 k z hz 1 _ rfl] at c1
        have i1 : (0 : Int) ≤ (k : Int) := by omega
        have i2 : (k : Int) < (l1.length : Int) := by omega
        clear hz e0
        obtain ⟨zt, zs, zm⟩ := z
        simp only at c0 c1
        simp only [isK] at hf
        cases e1 : (zt == xt)
        · clear hf
          go_wp2
          go_quiet (fail)
          go_wp2
          go_roundw
          case rel => exact ⟨k + 1, _, by omega, by go_num, rfl⟩
          case measure => simp [intOf]; omega
        · rw [e1, Bool.true_and] at hf
          go_wp2
          go_quiet (fail)
          go_wp2
          go_roundw
          case rel => exact ⟨k + 1, _, by omega, by go_num, rfl⟩
          case measure => simp [intOf]; omega
      · obtain rfl : k = l1.length := by omega
        generalize hq : W.drewN n = w2
        have h2 : w2.heap = W.heap := by rw [← hq]; rfl
        have B2 : Hid (Below w.heap.size w w2) := by rw [← hq]; exact below_drewN BW.out
        have Q1 := Lib.hid (own_kept (w' := w2) P1.out (fun g _ => by rw [h2]))
        have Q2 := Lib.hid (own_kept (w' := w2) P2.out (fun g _ => by rw [h2]))
        have t0 := (congrArg (fun h : Array Obj => h[w.heap.size]?) h2).trans T0.out
        have t1 := (congrArg (fun h : Array Obj => h[w.heap.size + 1]?) h2).trans T1.out
        have t2 := (congrArg (fun h : Array Obj => h[w.heap.size + 1 + 1]?) h2).trans T2.out
        have zz : w.heap.size + 1 + 1 < w2.heap.size := by rw [h2]; exact zW
        have q0 := Joins.cell_of_block t0 0
        have q1 := Joins.cell_of_block t1 0
        have q2 := Joins.cell_of_block t1 1
        have q3 := Joins.cell_of_block t1 2
        simp at q0 q1 q2 q3
        have T0 := Lib.hid t0
        have T2 := Lib.hid t2
        have ow : Hid (∀ g, (Value.slice a1 l1.length p1).ownBlock = some g → g < w.heap.size) := Lib.hid (fun g h => (own_lt O1.out h).2)
        clear hq h2 t0 t1 t2
        go_wp2_with (at_builtin; refine wpList_append_lies _ rfl (.tmp 42) (.tmp 44) 28 rfl B 36 i0 _ 3 32 Tryd.underlying28 hi0 hz0 hz1 hz2 rfl (by decide) (.slice a1 l1.length p1) l1.length (flat l1) rfl (Q1.out.alloc _) ⟨w2.heap.size, 0, none⟩ 1 1 [.int .i64 xt, .string xs, .int .i64 xm] rfl rfl (World.news_of_block (cs := #[.int .i64 xt, .string xs, .int .i64 xm]) (t := 36) (fr := (0, 0)) (heap_alloc_new w2 _)) (by simp [Value.oneCell']) (by omega) (by unfold maxLen; omega) (by omega) (by simp; omega) (w2.heap.size + 1) (by simp) ?_; intro g cap w3 hown hgrow hat hlt; have HO := Lib.hid hown; have HG := Lib.hid hgrow; have HA := Lib.hid hat; have b0 := (hgrow.block w.heap.size (by simp; omega) (fun h => by have := ow.out _ h.symm; omega)).trans ((Below.heap_alloc _ _ _ (by omega)).trans T0.out); have b2 := (hgrow.block (w.heap.size + 1 + 1) (by simp; omega) (fun h => by have := ow.out _ h.symm; omega)).trans ((Below.heap_alloc _ _ _ (by omega)).trans T2.out); have u0 := Joins.cell_of_block b0 0; have u1 := Joins.cell_of_block b0 1; have u2 := Joins.unfrozen_of_block b0 0; have x0 := Joins.cell_of_block b2 0; have x1 := Joins.cell_of_block b2 1; have x2 := Joins.unfrozen_of_block b2 0; have x3 := Joins.unfrozen_of_block b2 1; simp at u0 u1 x0 x1; clear hown hgrow hat b0 b2)
        ((try simp only [Exit.inBlock, Exit.then]); go_light; refine bodyPost_ret (by simp [results, Tryd.results46, go_sem, *]; try rfl) rfl ?_)
        have hz3 := HG.out.size
        simp at hz3
        have gl : g < w.heap.size ∨ w.heap.size + 1 + 1 < g := by
          rcases HA.out with h | h
          · exact .inl (ow.out g h)
          · right; omega
        have K3 : Keeps (fun k => (Value.slice a1 l1.length p1).ownBlock = some k) w w3 := ((Keeps.of_below B2.out (Nat.le_refl _)).alloc _).grown HG.out (fun k hk => .inl hk)
        refine ⟨⟨_, rfl, ⟨?_, ?_, ?_⟩, ?_⟩, ?_⟩
        · rw [F2.out, List.length_append, flat_snoc]
          exact ownsRow_setCell_other (ownsRow_setCell_other (ownsRow_setCell_other HO.out (by simp [Value.ownBlock]; omega) _) (by simp [Value.ownBlock]; omega) _) (by simp [Value.ownBlock]; omega) _
        · have d0 : (Value.slice a2 l2.length p2).ownBlock ≠ some w.heap.size := fun h => by have := (own_lt O2.out h).2; omega
          have d1 : (Value.slice a2 l2.length p2).ownBlock ≠ some (w.heap.size + 1 + 1) := fun h => by have := (own_lt O2.out h).2; omega
          have o2 : w3.ownsRow B 36 3 (.slice a2 l2.length p2) l2.length (flat l2) := ((Keeps.refl (fun k => (Value.slice a1 l1.length p1).ownBlock = some k) (w2.alloc _)).grown HG.out (fun k hk => .inl hk)).own (Q2.out.alloc _) (fun g hg h => DI.out g h hg)
          exact ownsRow_setCell_other (ownsRow_setCell_other (ownsRow_setCell_other o2 d0 _) d1 _) d1 _
        · intro g' hg' h
          simp [Value.ownBlock] at hg'
          subst hg'
          rcases HA.out with h' | h'
          · exact DI.out _ h' h
          · have := (own_lt O2.out h).2; omega
        · intro g' hg'
          simp [Value.ownBlock] at hg'
          subst hg'
          rcases HA.out with h' | h'
          · exact .inl h'
          · right; omega
        · exact ((K3.setCell (p := ⟨w.heap.size, 0, none⟩) (.inr (Nat.le_refl _)) _).setCell (p := ⟨w.heap.size + 1 + 1, 0, none⟩) (.inr (by show w.heap.size ≤ w.heap.size + 1 + 1; omega)) _).setCell (p := ⟨w.heap.size + 1 + 1, 1, none⟩) (.inr (by show w.heap.size ≤ w.heap.size + 1 + 1; omega)) _
  · have hjl := (List.getElem?_eq_some_iff.1 f2).1
    obtain ⟨g, rfl, hg⟩ : ∃ g, a1 = some ⟨g, 0, none⟩ ∧ B ≤ g := by
      rcases hform with h | h
      · subst h; simp at hjl
      · exact h
    have glt : g < w.heap.size := (own_lt O1.out rfl).2
    have F2 := Lib.hid f2
    have F3 := Lib.hid f3
    have F4 := Lib.hid f4
    have F5 := Lib.hid f5
    clear f1 f2 f3 f4 f5 hform hg own1
    go_enter Tryd.func46, Tryd.ntmps46
    go_wp2
    generalize hW : (((w.alloc (.cells #[.slice (some ⟨g, 0, none⟩) l1.length p1, .slice a2 l2.length p2] 30)).alloc (.cells #[.int .i64 xt, .string xs, .int .i64 xm] 36)).alloc (.cells #[.slice none 0 0, .slice none 0 0] 30)) = W at bW ⊢
    have t0 : W.heap[w.heap.size]? = some (.cells #[.slice (some ⟨g, 0, none⟩) l1.length p1, .slice a2 l2.length p2] 30 (0, 0)) := by
      rw [← hW]; exact ((Joins.below_alloc2 (w.alloc _) _ _).block _ (by simp)).trans (new_at _ _ _ rfl)
    have t1 : W.heap[w.heap.size + 1]? = some (.cells #[.int .i64 xt, .string xs, .int .i64 xm] 36 (0, 0)) := by
      rw [← hW]; exact ((Joins.below_alloc1 ((w.alloc _).alloc _) _).block _ (by simp)).trans (new_at _ _ _ (by simp))
    have t2 : W.heap[w.heap.size + 1 + 1]? = some (.cells #[.slice none 0 0, .slice none 0 0] 30 (0, 0)) := by
      rw [← hW]; exact new_at _ _ _ (by simp)
    have P1 := Lib.hid (own_below O1.out bW (Nat.le_refl _))
    have P2 := Lib.hid (own_below O2.out bW (Nat.le_refl _))
    have BW := Lib.hid bW
    have zW : w.heap.size + 1 + 1 < W.heap.size := by rw [← hW]; simp
    have q0 := Joins.cell_of_block t0 0
    have q1 := Joins.cell_of_block t1 0
    have q2 := Joins.cell_of_block t1 1
    simp at q0 q1 q2
    have T0 := Lib.hid t0
    have T1 := Lib.hid t1
    have T2 := Lib.hid t2
    have LW := Lib.hid (lks_of_owns P1.out)
    clear hW bW t0 t1 t2
    go_loopw [5] (fun i wr => ∃ k n : Nat, k ≤ j ∧ i = .int .i64 k ∧ wr = W.drewN n) (fun i _ => l1.length - (intOf i).toNat)
    case atStart => exact ⟨0, 0, by omega, rfl, (World.drewN_zero W).symm⟩
    case round =>
      obtain ⟨k, n, hk, rfl, rfl⟩ := hrel
      obtain ⟨z, hz⟩ : ∃ z, l1[k]? = some z := ⟨l1[k], by simp [show k < l1.length by omega]⟩
      have hkl : k < l1.length := by omega
      have c0 := P1.out.cellAt (k * 3) (by omega)
      have c1 := P1.out.cellAt (k * 3 + 1) (by omega)
      have c2 := P1.out.cellAt (k * 3 + 2) (by omega)
      have e0 := flat_at l1 k z hz 0 _ rfl
      rw [Nat.add_zero] at e0
      rw [e0] at c0
      rw [flat_at l1 k z hz 1 _ rfl] at c1
      rw [flat_at l1 k z hz 2 _ rfl] at c2
      have i1 : (0 : Int) ≤ (k : Int) := by omega
      have i2 : (k : Int) < (l1.length : Int) := by omega
      have HZ := Lib.hid hz
      clear hz e0
      by_cases hkj : k < j
      · have hf := F4.out k z hkj HZ.out
        obtain ⟨zt, zs, zm⟩ := z
        simp only at c0 c1 c2
        simp only [isK] at hf
        cases e1 : (zt == xt)
        · clear hf
          go_wp2
          go_quiet (fail)
          go_wp2
          go_roundw
          case rel => exact ⟨k + 1, _, by omega, by go_num, rfl⟩
          case measure => simp [intOf]; omega
        · rw [e1, Bool.true_and] at hf
          go_wp2
          go_quiet (fail)
          go_wp2
          go_roundw
          case rel => exact ⟨k + 1, _, by omega, by go_num, rfl⟩
          case measure => simp [intOf]; omega
      · obtain rfl : k = j := by omega
        obtain rfl := Option.some.inj (HZ.out.symm.trans F2.out)
        have hf := F3.out
        obtain ⟨zt, zs, zm⟩ := z
        simp only at c0 c1 c2
        simp only [isK, Bool.and_eq_true] at hf
        obtain ⟨e1, e2⟩ := hf
        go_wp2
        go_quiet (fail)
        generalize hq : (W.drewN n).drewN nq = w2
        have h2 : w2.heap = W.heap := by rw [← hq]; rfl
        have B2 : Hid (Below w.heap.size w w2) := by rw [← hq]; exact below_drewN (below_drewN BW.out)
        have Q1 := Lib.hid (own_kept (w' := w2) P1.out (fun g _ => by rw [h2]))
        have Q2 := Lib.hid (own_kept (w' := w2) P2.out (fun g _ => by rw [h2]))
        have t0 := (congrArg (fun h : Array Obj => h[w.heap.size]?) h2).trans T0.out
        have t1 := (congrArg (fun h : Array Obj => h[w.heap.size + 1]?) h2).trans T1.out
        have t2 := (congrArg (fun h : Array Obj => h[w.heap.size + 1 + 1]?) h2).trans T2.out
        have zz : w.heap.size + 1 + 1 < w2.heap.size := by rw [h2]; exact zW
        have q0 := Joins.cell_of_block t0 0
        have q1 := Joins.cell_of_block t1 2
        have c2 : w2.cell? ⟨g, k * 3 + 2, none⟩ = some (.int .i64 zm) := (World.cell?_of_block (by rw [h2])).trans c2
        have f2 := Q1.out.frozenAt (k * 3 + 2)
        have s0 := (cell_set_far w2 ⟨g, k * 3 + 2, none⟩ (.int .i64 xm) w.heap.size 0 (by simp; omega)).trans (Joins.cell_of_block t0 0)
        have s1 := (cell_set_far w2 ⟨g, k * 3 + 2, none⟩ (.int .i64 xm) w.heap.size 1 (by simp; omega)).trans (Joins.cell_of_block t0 1)
        have r0 := (cell_set_far w2 ⟨g, k * 3 + 2, none⟩ (.int .i64 xm) (w.heap.size + 1 + 1) 0 (by simp; omega)).trans (Joins.cell_of_block t2 0)
        have r1 := (cell_set_far w2 ⟨g, k * 3 + 2, none⟩ (.int .i64 xm) (w.heap.size + 1 + 1) 1 (by simp; omega)).trans (Joins.cell_of_block t2 1)
        have g0 := (frozen_set_far w2 ⟨g, k * 3 + 2, none⟩ (.int .i64 xm) (w.heap.size + 1 + 1) 0 (by simp; omega)).trans (Joins.unfrozen_of_block t2 0)
        have g1 := (frozen_set_far w2 ⟨g, k * 3 + 2, none⟩ (.int .i64 xm) (w.heap.size + 1 + 1) 1 (by simp; omega)).trans (Joins.unfrozen_of_block t2 1)
        simp at q0 q1 s0 s1 r0 r1
        clear hq h2 t0 t1 t2 c0 c1 e1 e2
        go_wp2
        ((try simp only [Exit.inBlock, Exit.then]); go_light; refine bodyPost_ret (by simp [results, Tryd.results46, go_sem, *]; try rfl) rfl ?_)
        refine ⟨⟨_, rfl, ⟨?_, ?_, DI.out⟩, fun g' h => .inl h⟩, ?_⟩
        · rw [F5.out, List.length_set]
          exact ownsRow_setCell_other (ownsRow_setCell_other (own_mode xm Q1.out F2.out) (by simp [Value.ownBlock]; omega) _) (by simp [Value.ownBlock]; omega) _
        · have d1 : (Value.slice a2 l2.length p2).ownBlock ≠ some (w.heap.size + 1 + 1) := fun h => by have := (own_lt O2.out h).2; omega
          exact ownsRow_setCell_other (ownsRow_setCell_other (ownsRow_setCell_other Q2.out (DI.out g rfl) _) d1 _) d1 _
        · exact (((Keeps.of_below (S := fun k => (Value.slice (some ⟨g, 0, none⟩) l1.length p1).ownBlock = some k) B2.out (Nat.le_refl _)).setCell (p := ⟨g, k * 3 + 2, none⟩) (.inl rfl) _).setCell (p := ⟨w.heap.size + 1 + 1, 0, none⟩) (.inr (by show w.heap.size ≤ w.heap.size + 1 + 1; omega)) _).setCell (p := ⟨w.heap.size + 1 + 1, 1, none⟩) (.inr (by show w.heap.size ≤ w.heap.size + 1 + 1; omega)) _
end Go.Proofs.YtkehmidldcggcaaDoor
