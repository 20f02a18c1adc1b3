/- The program's own memory: slices.Clone over locks, own, have. -/
import Derived.Test.YtkehmidldcggcaaDoorLo
import Derived.Lib.SliceRun
import Derived.Outline
set_option linter.unusedSimpArgs false
set_option linter.unusedVariables false
namespace Go.Proofs.YtkehmidldcggcaaDoor
open Go.RowKit Go.Joins
theorem news_flat {w : World} {b o : Nat} {l : List LK} (hc : ∀ j x, l[j]? = some x → ∀ i v, (LK.cells x)[i]? = some v → w.cell? ⟨b, o + j * 3 + i, none⟩ = some v) : ∀ j u, (flat l)[j]? = some u → w.cell? ((⟨b, o, none⟩ : Addr).add j) = some u := by
  intro j u hj
  obtain ⟨q, x, i, h1, h2, rfl⟩ := flat_get l j u hj
  rw [add_none _ _ rfl]
  have := hc q x h1 i u h2
  rwa [Nat.add_assoc] at this
set_option maxRecDepth 100000 in
set_option maxHeartbeats 1000000 in
theorem clone_any (a : Option Addr) (l : List LK) (cap : Nat) (w : World) (hl : LksAt w a l) (hn : l.length ≤ 2097152) :
    Calls Tryd.prog 61 #[.slice a l.length cap] w fun e w' => (∃ v, e = .returned v ∧ w'.ownsRow w.heap.size 36 3 v l.length (flat l)) ∧ Below w.heap.size w w' := by
  obtain ⟨i0, hi0, hz0, hz1, hz2⟩ := info_parts infoLock
  have heq := fun (w : World) a n c => Lib.run_eql_slice_nil (P := Tryd.prog) w 28 36 a n c 0 0 Tryd.underlying28
  cases a with
  | none =>
    have : l = [] := by
      rcases hl with h | ⟨b, o, h, _⟩
      · exact h
      · cases h
    subst this
    go_enter Tryd.func61, Tryd.ntmps61
    go_wp2
    go_ret
    exact ⟨⟨_, rfl, World.ownsRow_nil _ _ _ _⟩, Below.refl _ _⟩
  | some ad =>
    have HN : Hid (∀ y, ∀ j u, (flat l)[j]? = some u → (w.alloc y).cell? (ad.add j) = some u) := by
      intro y
      rcases hl with rfl | ⟨b, o, h, hb, hc⟩
      · intro j u h; simp [flat] at h
      · obtain rfl : ad = ⟨b, o, none⟩ := by simpa using h
        exact news_flat (fun j x hj i v hi => ((Joins.below_alloc1 w y).cell (p := ⟨b, _, none⟩) hb).trans (hc j x hj i v hi))
    clear hl
    go_enter Tryd.func61, Tryd.ntmps61
    go_wp2_with (at_builtin; refine wpList_append_own _ rfl (.tmp 5) (.tmp 6) 28 rfl w.heap.size 36 i0 _ 3 32 Tryd.underlying28 hi0 hz0 hz1 hz2 rfl (by decide) (.slice (some ⟨w.heap.size, 0, none⟩) 0 0) 0 [] rfl (World.ownsRow_made w #[] 0 (Nat.le_refl _) (Nat.zero_le _) rfl) ad l.length cap (flat l) rfl (flat_len l) (HN.out _) (flat_one l) ?m1 ?m2 ?m3 ?_)
    case m1 => unfold maxLen; omega
    case m2 => omega
    case m3 => simp
    intro v' w' own grow _
    have O := Lib.hid own
    have G := Lib.hid grow
    clear own grow
    go_wp2
    go_ret
    refine ⟨⟨_, rfl, ?_⟩, ?_⟩
    · exact O.out
    · exact (Joins.below_alloc1 w _).grown G.out (by simp) (fun k hk => by simp [Value.ownBlock] at hk; omega)
set_option maxRecDepth 100000 in
set_option maxHeartbeats 1000000 in
theorem own_any (a1 a2 : Option Addr) (l1 l2 : List LK) (p1 p2 : Nat) (w : World) (h1 : LksAt w a1 l1) (h2 : LksAt w a2 l2) (n1 : l1.length ≤ 2097152) (n2 : l2.length ≤ 2097152) :
    Calls Tryd.prog 44 #[.agg #[.slice a1 l1.length p1, .slice a2 l2.length p2]] w fun e w' => (∃ v1 v2, e = .returned (.agg #[v1, v2]) ∧ OwnPair w' w.heap.size v1 v2 l1 l2) ∧ Below w.heap.size w w' := by
  have H1 := Lib.hid h1
  have H2 := Lib.hid h2
  have B2 : Hid (∀ x y, Below w.heap.size w ((w.alloc x).alloc y)) := fun x y => Joins.below_alloc2 w x y
  clear h1 h2
  go_enter Tryd.func44, Tryd.ntmps44
  go_wp2
  have k0 : ((w.alloc (.cells #[.slice a1 l1.length p1, .slice a2 l2.length p2] 30)).alloc (.cells #[.slice none 0 0, .slice none 0 0] 30)).cell? ⟨w.heap.size, 0, none⟩ = some (.slice a1 l1.length p1) := by simp
  have k1 : ((w.alloc (.cells #[.slice a1 l1.length p1, .slice a2 l2.length p2] 30)).alloc (.cells #[.slice none 0 0, .slice none 0 0] 30)).cell? ⟨w.heap.size, 1, none⟩ = some (.slice a2 l2.length p2) := by simp
  have R0 : Hid (((w.alloc (.cells #[.slice a1 l1.length p1, .slice a2 l2.length p2] 30)).alloc (.cells #[.slice none 0 0, .slice none 0 0] 30)).heap[w.heap.size + 1]? = some (.cells #[.slice none 0 0, .slice none 0 0] 30 (0, 0))) := Lib.hid (new_at _ _ _ (by simp))
  have zW : w.heap.size + 1 < ((w.alloc (.cells #[.slice a1 l1.length p1, .slice a2 l2.length p2] 30)).alloc (.cells #[.slice none 0 0, .slice none 0 0] 30)).heap.size := by simp
  have bW := B2.out (.cells #[.slice a1 l1.length p1, .slice a2 l2.length p2] 30) (.cells #[.slice none 0 0, .slice none 0 0] 30)
  generalize hW : ((w.alloc (.cells #[.slice a1 l1.length p1, .slice a2 l2.length p2] 30)).alloc (.cells #[.slice none 0 0, .slice none 0 0] 30)) = W at k0 k1 R0 zW bW ⊢
  clear hW
  have L1 := Lib.hid (H1.out.below bW.drew (Nat.le_refl _))
  have bW' := Lib.hid bW
  clear bW
  refine wp_cut (fun w' : World => w'.cell? ⟨w.heap.size, 0, none⟩ = some (.slice a1 l1.length p1) ∧ w'.cell? ⟨w.heap.size, 1, none⟩ = some (.slice a2 l2.length p2)) 6 (by kernel_rfl) (by kernel_rfl) (fun inv => ?_)
  ((refine anyT_take (i := 0) (v := ?_) rfl (by kernel_rfl) (by kernel_rfl) (by kernel_rfl) (fun _ _ _ h => h) (Or.inl ⟨by rfl, ?_⟩) ⟨k0, k1⟩ inv (fun inv => ?_); rotate_left; (· (intro w hSw; (try dsimp only at hSw); go_simp; with_reducible rfl)); (try simp only [Act.put, List.getElem_toArray, List.getElem_cons_zero, List.getElem_cons_succ, List.setIfInBounds_toArray, List.set_cons_zero, List.set_cons_succ])); (refine anyT_take (i := 1) (v := ?_) rfl (by kernel_rfl) (by kernel_rfl) (by kernel_rfl) (fun _ _ _ h => h) (Or.inl ⟨by rfl, ?_⟩) ⟨k0, k1⟩ inv (fun inv => ?_); rotate_left; (· (intro w hSw; (try dsimp only at hSw); go_simp; with_reducible rfl)); (try simp only [Act.put, List.getElem_toArray, List.getElem_cons_zero, List.getElem_cons_succ, List.setIfInBounds_toArray, List.set_cons_zero, List.set_cons_succ])); (refine anyT_take (i := 3) (v := ?_) rfl (by kernel_rfl) (by kernel_rfl) (by kernel_rfl) (fun _ _ _ h => h) (Or.inl ⟨by rfl, ?_⟩) ⟨k0, k1⟩ inv (fun inv => ?_); rotate_left; (· (intro w hSw; (try dsimp only at hSw); go_simp; with_reducible rfl)); (try simp only [Act.put, List.getElem_toArray, List.getElem_cons_zero, List.getElem_cons_succ, List.setIfInBounds_toArray, List.set_cons_zero, List.set_cons_succ])); (refine anyT_take (i := 4) (v := ?_) rfl (by kernel_rfl) (by kernel_rfl) (by kernel_rfl) (fun _ _ _ h => h) (Or.inl ⟨by rfl, ?_⟩) ⟨k0, k1⟩ inv (fun inv => ?_); rotate_left; (· (intro w hSw; (try dsimp only at hSw); go_simp; with_reducible rfl)); (try simp only [Act.put, List.getElem_toArray, List.getElem_cons_zero, List.getElem_cons_succ, List.setIfInBounds_toArray, List.set_cons_zero, List.set_cons_succ])))
  (refine anyT_step (i := 2) rfl (by kernel_rfl) (by decide) inv (fun K hK => ?_); go_simp; go_at_call 61; refine (clone_any a1 l1 p1 _ L1.out n1).mono ?_; rintro e w1 ⟨⟨v1, rfl, own1⟩, hbw1⟩; have hz := hbw1.size; (try simp only [World.size_alloc, World.size_setCell, World.size_drew, size_drewN] at hz); (refine hK _ _ ⟨cell_later hbw1 k0, cell_later hbw1 k1⟩ (fun inv => ?_); clear hK K; (try simp only [Act.put, List.getElem_toArray, List.getElem_cons_zero, List.getElem_cons_succ, List.setIfInBounds_toArray, List.set_cons_zero, List.set_cons_succ])))
  have k0 := cell_later hbw1 k0
  have k1 := cell_later hbw1 k1
  have L2 := Lib.hid (H2.out.below (show Below w.heap.size w w1 by have bW := bW'.out; (repeat' (first | (with_reducible exact Below.refl _ _) | (with_reducible assumption) | (with_reducible refine Below.alloc ?_ ?_ _) | (with_reducible refine Below.drew ?_) | (with_reducible refine below_drewN ?_) | (with_reducible refine Below.setCell ?_ ?_ _) | (with_reducible refine below_step ?_ ?_ (by with_reducible assumption)) | go_size))) (Nat.le_refl _))
  have O1 := Lib.hid own1
  clear own1
  (refine anyT_step (i := 5) rfl (by kernel_rfl) (by decide) inv (fun K hK => ?_); go_simp; go_at_call 61; refine (clone_any a2 l2 p2 _ L2.out n2).mono ?_; rintro e w2 ⟨⟨v2, rfl, own2⟩, hbw2⟩; have hz := hbw2.size; (try simp only [World.size_alloc, World.size_setCell, World.size_drew, size_drewN] at hz); (refine hK _ _ ⟨cell_later hbw2 k0, cell_later hbw2 k1⟩ (fun inv => ?_); clear hK K; (try simp only [Act.put, List.getElem_toArray, List.getElem_cons_zero, List.getElem_cons_succ, List.setIfInBounds_toArray, List.set_cons_zero, List.set_cons_succ])))
  have O2 := Lib.hid own2
  clear own2
  (refine anyT_end (by kernel_rfl) ?_; simp only [List.drop_succ_cons, List.drop_zero])
  have r2 : w2.heap[w.heap.size + 1]? = some (.cells #[.slice none 0 0, .slice none 0 0] 30 (0, 0)) := (hbw2.block _ (by have := hbw1.size; simp at this; omega)).trans ((hbw1.block _ (by simp; omega)).trans R0.out)
  have c0 := Joins.cell_of_block r2 0
  have c1 := Joins.cell_of_block r2 1
  have g0 := Joins.unfrozen_of_block r2 0
  have g1 := Joins.unfrozen_of_block r2 1
  simp at c0 c1
  have hz1 := hbw1.size
  have hz2 := hbw2.size
  simp at hz1
  have bW2 : Below w.heap.size w w2 := by have bW := bW'.out; (repeat' (first | (with_reducible exact Below.refl _ _) | (with_reducible assumption) | (with_reducible refine Below.alloc ?_ ?_ _) | (with_reducible refine Below.drew ?_) | (with_reducible refine below_drewN ?_) | (with_reducible refine Below.setCell ?_ ?_ _) | (with_reducible refine below_step ?_ ?_ (by with_reducible assumption)) | go_size))
  have BB := Lib.hid bW2
  have P : Hid (OwnPair w2 w.heap.size v1 v2 l1 l2) := by
    refine Lib.hid ⟨ownsRow_le (own_below O1.out hbw2 (Nat.le_refl _)) (by simp; omega), ownsRow_le O2.out (by omega), fun g h1 h2 => ?_⟩
    have q1 := (own_lt O1.out h1).2
    have q2 := (own_lt O2.out h2).1
    omega
  have D1 : Hid (v1.ownBlock ≠ some (w.heap.size + 1)) := Lib.hid (fun h => by have := (own_lt O1.out h).1; simp at this; omega)
  have D2 : Hid (v2.ownBlock ≠ some (w.heap.size + 1)) := Lib.hid (fun h => by have := (own_lt O2.out h).1; omega)
  clear hbw1 hbw2 r2 bW2 hz k0 k1 zW hz1 hz2
  obtain ⟨-, x1, d1, rfl, -, -, le1⟩ := lks_of_owns P.out.1
  obtain ⟨-, x2, d2, rfl, -, -, le2⟩ := lks_of_owns P.out.2.1
  go_wp2
  ((try simp only [Exit.inBlock, Exit.then]); go_light; refine bodyPost_ret (by simp [results, Tryd.results44, go_sem, *]; try rfl) rfl ?_)
  refine ⟨⟨_, _, rfl, ?_⟩, ?_⟩
  · exact ⟨ownsRow_setCell_other (ownsRow_setCell_other P.out.1 D1.out _) D1.out _, ownsRow_setCell_other (ownsRow_setCell_other P.out.2.1 D2.out _) D2.out _, P.out.2.2⟩
  · exact (BB.out.setCell (p := ⟨w.heap.size + 1, 0, none⟩) (by simp) _).setCell (p := ⟨w.heap.size + 1, 1, none⟩) (by simp) _
end Go.Proofs.YtkehmidldcggcaaDoor
