/- The contracts of value.logic, Two and the reference's TwoOf; the law of Two. -/
import Derived.Test.YtbedhaagngomgaaVe
import Derived.Deep.QuietTactic
import Derived.BigQuiet
set_option linter.unusedSimpArgs false
set_option linter.unusedVariables false
namespace Go.Proofs.Ytbedhaagngomgaa
open Go.RowKit
def logicM (k n : Int) (s : ByteArray) (k' n' : Int) (s' : ByteArray) (d : Int) : (Int × Int × ByteArray) × Int :=
  if (k ≠ 1 ∧ k ≠ 0) ∨ (k' ≠ 1 ∧ k' ≠ 0) then ((0, 0, ⟨#[]⟩), 4)
  else if k = 1 ∧ n = d then ((k, n, s), 0) else if k' = 1 ∧ n' = d then ((k', n', s'), 0)
  else if k = 0 ∨ k' = 0 then ((0, 0, ⟨#[]⟩), 0) else ((k, n, s), 0)
theorem idx0 (a b c d e f : Value) (w : World) : (Instr.index 50 (.agg #[a, b, c, d, e, f]) (.int .i64 0)).run Try.prog w = .ok (.agg #[a, b, c]) w := by kernel_rfl
theorem idx1 (a b c d e f : Value) (w : World) : (Instr.index 50 (.agg #[a, b, c, d, e, f]) (.int .i64 1)).run Try.prog w = .ok (.agg #[d, e, f]) w := by kernel_rfl
set_option maxHeartbeats 2000000 in
theorem logic_any (k n : Int) (s : ByteArray) (k' n' : Int) (s' : ByteArray) (d : Int) (w : World) :
    Calls Try.prog 28 #[.agg #[.int .i64 k, .int .i64 n, .string s], .agg #[.int .i64 k', .int .i64 n', .string s'], .int .i64 d] w fun e w' =>
      e = .returned (.tuple #[.agg #[.int .i64 (logicM k n s k' n' s' d).1.1, .int .i64 (logicM k n s k' n' s' d).1.2.1, .string (logicM k n s k' n' s' d).1.2.2], .int .i64 (logicM k n s k' n' s' d).2]) ∧ Below w.heap.size w w' := by
  have i0 := idx0
  have i1 := idx1
  go_enter Try.func28, Try.ntmps28
  go_wp2
  go_rounds 3
  all_goals (try go_rounds 3)
  all_goals (try go_wp2_with (go_at_call 29; refine (null_any _ _ _ _ _ _ _).mono ?_; rintro e w1 ⟨rfl, hb⟩; have hz := hb.size; (try simp only [World.size_alloc, World.size_setCell, World.size_drew, size_drewN] at hz); (try (have zw1_0 : w.heap.size < w1.heap.size := (by omega))); (try (have cw1_0 := fun o => hb.cell (p := ⟨w.heap.size, o, none⟩) (by (try simp only [World.size_alloc, World.size_setCell, World.size_drew, size_drewN]); omega))); (try (have fw1_0 := fun o => hb.frozen (p := ⟨w.heap.size, o, none⟩) (by (try simp only [World.size_alloc, World.size_setCell, World.size_drew, size_drewN]); omega))); (try (have zw1_1 : w.heap.size + 1 < w1.heap.size := (by omega))); (try (have cw1_1 := fun o => hb.cell (p := ⟨w.heap.size + 1, o, none⟩) (by (try simp only [World.size_alloc, World.size_setCell, World.size_drew, size_drewN]); omega))); (try (have fw1_1 := fun o => hb.frozen (p := ⟨w.heap.size + 1, o, none⟩) (by (try simp only [World.size_alloc, World.size_setCell, World.size_drew, size_drewN]); omega))); (try (have zw1_2 : w.heap.size + 1 + 1 < w1.heap.size := (by omega))); (try (have cw1_2 := fun o => hb.cell (p := ⟨w.heap.size + 1 + 1, o, none⟩) (by (try simp only [World.size_alloc, World.size_setCell, World.size_drew, size_drewN]); omega))); (try (have fw1_2 := fun o => hb.frozen (p := ⟨w.heap.size + 1 + 1, o, none⟩) (by (try simp only [World.size_alloc, World.size_setCell, World.size_drew, size_drewN]); omega)))))

  all_goals
    ((try simp only [Exit.inBlock, Exit.then]); go_light; refine bodyPost_ret (by simp [results, Try.results28, go_sem, *]; try rfl) rfl ?_)
    refine ⟨?_, ?_⟩
    · simp_all [logicM]
    · (repeat' (first | (with_reducible exact Below.refl _ _) | (with_reducible assumption) | (with_reducible refine Below.alloc ?_ ?_ _) | (with_reducible refine Below.drew ?_) | (with_reducible refine below_drewN ?_) | (with_reducible refine Below.setCell ?_ ?_ _) | (with_reducible refine below_step ?_ ?_ (by with_reducible assumption)) | go_size))
end Go.Proofs.Ytbedhaagngomgaa
