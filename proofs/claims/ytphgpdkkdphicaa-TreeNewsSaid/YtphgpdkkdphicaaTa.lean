/- The contracts of tree.New and the law TreeNews. -/
import Derived.Test.YtphgpdkkdphicaaProg
import Derived.Handy
import Derived.WalkSpells
import Derived.WalkLawsBesides
import Derived.Deep.Light
import Derived.StillTailTactics
import Derived.Lib.SmallJoins
import Derived.Lib.Hide
import Derived.Lib.BufferRead
set_option linter.unusedSimpArgs false
set_option linter.unusedVariables false
namespace Go.Proofs.Ytphgpdkkdphicaa
open Go.RowKit
theorem below_step {B : Nat} {a w w' : World} (h : Below B a w) (hB : B ≤ w.heap.size) (hb : Below w.heap.size w w') : Below B a w' := h.trans (hb.mono hB)
theorem size_drewN (w : World) (n : Nat) : (w.drewN n).heap.size = w.heap.size := rfl
theorem below_drewN {B : Nat} {a w : World} {n : Nat} (h : Below B a w) : Below B a (w.drewN n) := h.trans (Joins.below_draws B w n)
theorem conv_nil (w : World) (c : Nat) : (convert 32 9 (.slice none 0 c)).run Try.prog w = .ok (.string ⟨#[]⟩) w :=
  Lib.run_convert_nil_bytes w 32 9 5 c (by kernel_rfl) (by kernel_rfl) (by kernel_rfl)
/-- A new tree: one empty leaf. -/
def NewAt (w : World) (b : Nat) : Prop := b < w.heap.size ∧ w.cell? ⟨b, 0, none⟩ = some (.bool true) ∧ w.cell? ⟨b, 1, none⟩ = some (.slice none 0 0) ∧ w.cell? ⟨b, 2, none⟩ = some (.slice none 0 0) ∧ w.cell? ⟨b, 3, none⟩ = some (.slice none 0 0) ∧ w.cell? ⟨b, 4, none⟩ = some (.int .i64 (-1))
theorem NewAt.below {w w' : World} {b B : Nat} (h : NewAt w b) (hb : Below B w w') (hB : b < B) : NewAt w' b :=
  ⟨Nat.lt_of_lt_of_le h.1 hb.size, (hb.cell (p := ⟨b, 0, none⟩) hB).trans h.2.1, (hb.cell (p := ⟨b, 1, none⟩) hB).trans h.2.2.1, (hb.cell (p := ⟨b, 2, none⟩) hB).trans h.2.2.2.1, (hb.cell (p := ⟨b, 3, none⟩) hB).trans h.2.2.2.2.1, (hb.cell (p := ⟨b, 4, none⟩) hB).trans h.2.2.2.2.2⟩
theorem New_any (w : World) : Calls Try.prog 10 #[] w fun e w' => (∃ b, e = .returned (.agg #[.slice (some ⟨b, 0, none⟩) 1 1, .int .i64 0]) ∧ NewAt w' b) ∧ Below w.heap.size w w' := by
  go_enter Try.func10, Try.ntmps10
  go_wp2
  ((try simp only [Exit.inBlock, Exit.then]); go_light; refine bodyPost_ret (by simp [results, Try.results10, go_sem, *]; try rfl) rfl ?_)
  go_light
  refine ⟨⟨_, rfl, ?_⟩, by (repeat' (first | (with_reducible exact Below.refl _ _) | (with_reducible assumption) | (with_reducible refine Below.alloc ?_ ?_ _) | (with_reducible refine Below.drew ?_) | (with_reducible refine below_drewN ?_) | (with_reducible refine Below.setCell ?_ ?_ _) | (with_reducible refine below_step ?_ ?_ (by with_reducible assumption)) | go_size))⟩
  simp [NewAt]
theorem Empty_any (w : World) : Calls Try.prog 11 #[] w fun e w' => (∃ b, e = .returned (.agg #[.slice (some ⟨b, 0, none⟩) 1 1, .int .i64 0]) ∧ NewAt w' b) ∧ Below w.heap.size w w' := by
  go_enter Try.func11, Try.ntmps11
  go_wp2
  ((try simp only [Exit.inBlock, Exit.then]); go_light; refine bodyPost_ret (by simp [results, Try.results11, go_sem, *]; try rfl) rfl ?_)
  go_light
  refine ⟨⟨_, rfl, ?_⟩, by (repeat' (first | (with_reducible exact Below.refl _ _) | (with_reducible assumption) | (with_reducible refine Below.alloc ?_ ?_ _) | (with_reducible refine Below.drew ?_) | (with_reducible refine below_drewN ?_) | (with_reducible refine Below.setCell ?_ ?_ _) | (with_reducible refine below_step ?_ ?_ (by with_reducible assumption)) | go_size))⟩
  simp [NewAt]
theorem sameInts_none (w : World) : Calls Try.prog 29 #[.slice none 0 0, .slice none 0 0] w fun e w' => e = .returned (.bool true) ∧ w = w' := by
  go_enter Try.func29, Try.ntmps29
  go_wp2
  (refine wp_loop_rounds 1 ?_; repeat any_goals (rw [rounds_succ]; go_wp2_with fail))
  all_goals (go_ret; exact ⟨rfl, rfl⟩)
set_option maxRecDepth 100000 in
theorem same_new (a b : Nat) (w : World) (ha : NewAt w a) (hb : NewAt w b) : Calls Try.prog 12 #[.agg #[.slice (some ⟨a, 0, none⟩) 1 1, .int .i64 0], .agg #[.slice (some ⟨b, 0, none⟩) 1 1, .int .i64 0]] w fun e w' => e = .returned (.bool true) ∧ Below w.heap.size w w' := by
  obtain ⟨za, a0, a1, a2, a3, a4⟩ := ha
  obtain ⟨zb, b0, b1, b2, b3, b4⟩ := hb
  have qa3 : ∀ (x y z : Obj) (o : Nat), (((w.alloc x).alloc y).alloc z).cell? ⟨a, o, none⟩ = w.cell? ⟨a, o, none⟩ := fun x y z o => ((Joins.below_alloc3 w x y z).cell (p := ⟨a, o, none⟩) za)
  have qa4 : ∀ (x y z u : Obj) (o : Nat), ((((w.alloc x).alloc y).alloc z).alloc u).cell? ⟨a, o, none⟩ = w.cell? ⟨a, o, none⟩ := fun x y z u o => (((Joins.below_alloc3 w x y z).alloc (by simp; omega) u).cell (p := ⟨a, o, none⟩) za)
  have qb3 : ∀ (x y z : Obj) (o : Nat), (((w.alloc x).alloc y).alloc z).cell? ⟨b, o, none⟩ = w.cell? ⟨b, o, none⟩ := fun x y z o => ((Joins.below_alloc3 w x y z).cell (p := ⟨b, o, none⟩) zb)
  have qb4 : ∀ (x y z u : Obj) (o : Nat), ((((w.alloc x).alloc y).alloc z).alloc u).cell? ⟨b, o, none⟩ = w.cell? ⟨b, o, none⟩ := fun x y z u o => (((Joins.below_alloc3 w x y z).alloc (by simp; omega) u).cell (p := ⟨b, o, none⟩) zb)
  have cn := conv_nil
  go_enter Try.func12, Try.ntmps12
  go_wp2_with (go_at_call 29; refine (sameInts_none _).mono ?_; rintro e w1 ⟨rfl, rfl⟩)
  refine wp_loop_rounds 2 ?_
  rw [rounds_succ]
  go_wp2_with (go_at_call 29; refine (sameInts_none _).mono ?_; rintro e w1 ⟨rfl, rfl⟩)
  refine wp_loop_rounds 1 ?_
  rw [rounds_succ]
  go_wp2
  rw [rounds_succ]
  go_wp2
  go_ret
  refine ⟨rfl, by (repeat' (first | (with_reducible exact Below.refl _ _) | (with_reducible assumption) | (with_reducible refine Below.alloc ?_ ?_ _) | (with_reducible refine Below.drew ?_) | (with_reducible refine below_drewN ?_) | (with_reducible refine Below.setCell ?_ ?_ _) | (with_reducible refine below_step ?_ ?_ (by with_reducible assumption)) | go_size))⟩
theorem law_new (w : World) : Calls Try.prog 3 #[] w fun e w' => e = .returned (.bool true) ∧ Below w.heap.size w w' := by
  go_enter Try.func3, Try.ntmps3
  go_wp2_with (first
    | (go_at_call 10; refine (New_any _).mono ?_; rintro e w1 ⟨⟨a, rfl, ha⟩, hb⟩; have hz := hb.size; (try simp only [World.size_alloc, World.size_setCell, World.size_drew, size_drewN] at hz))
    | (go_at_call 11; refine (Empty_any _).mono ?_; rintro e w2 ⟨⟨b, rfl, hb2⟩, hb⟩; have hz := hb.size; (try simp only [World.size_alloc, World.size_setCell, World.size_drew, size_drewN] at hz); (try (have zw2_0 : w1.heap.size < w2.heap.size := (by omega))); (try (have cw2_0 := fun o => hb.cell (p := ⟨w1.heap.size, o, none⟩) (by (try simp only [World.size_alloc, World.size_setCell, World.size_drew, size_drewN]); omega))); (try (have fw2_0 := fun o => hb.frozen (p := ⟨w1.heap.size, o, none⟩) (by (try simp only [World.size_alloc, World.size_setCell, World.size_drew, size_drewN]); omega))); have ha2 := (ha.below (Joins.below_alloc1 _ _) ha.1).below hb (by have := ha.1; simp; omega))
    | (go_at_call 12; refine (same_new _ _ _ (ha2.below (Joins.below_alloc1 _ _) ha2.1) (hb2.below (Joins.below_alloc1 _ _) hb2.1)).mono ?_; rintro e w3 ⟨rfl, hb⟩; have hz := hb.size; (try simp only [World.size_alloc, World.size_setCell, World.size_drew, size_drewN] at hz)))
  go_ret
  refine ⟨rfl, by (repeat' (first | (with_reducible exact Below.refl _ _) | (with_reducible assumption) | (with_reducible refine Below.alloc ?_ ?_ _) | (with_reducible refine Below.drew ?_) | (with_reducible refine below_drewN ?_) | (with_reducible refine Below.setCell ?_ ?_ _) | (with_reducible refine below_step ?_ ?_ (by with_reducible assumption)) | go_size))⟩
end Go.Proofs.Ytphgpdkkdphicaa
