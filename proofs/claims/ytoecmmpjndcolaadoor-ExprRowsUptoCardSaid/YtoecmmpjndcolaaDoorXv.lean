/- The value layer's Check and the reference's, in the seat of lex and parse. -/
import Derived.Test.YtoecmmpjndcolaaDoorXa
set_option linter.unusedSimpArgs false
set_option linter.unusedVariables false
namespace Go.Proofs.YtoecmmpjndcolaaDoor
open Go.RowKit
/-- P1.1 as numbers. -/
def vcheck (k n : Int) (s : ByteArray) : Int :=
  if k = 0 then (if n ≠ 0 ∨ s.toList ≠ [] then 6 else 0)
  else if k = 1 then (if n < 0 ∨ 1 < n ∨ s.toList ≠ [] then 6 else 0)
  else if k = 2 then (if s.toList ≠ [] then 6 else 0)
  else if k = 3 then (if n ≠ 0 then 6 else if 20 < s.size then 1 else 0)
  else 2

set_option maxHeartbeats 1000000 in
theorem val_any (k n : Int) (s : ByteArray) (w : World) (hs : s.size ≤ maxLen) : Calls Tryd.prog 28 #[.agg #[.int .i64 k, .int .i64 n, .string s]] w fun e w' => e = .returned (.int .i64 (vcheck k n s)) ∧ Below w.heap.size w w' := by
  unfold maxLen at hs
  go_enter Tryd.func28, Tryd.ntmps28
  go_wp2
  all_goals
    go_ret
    refine ⟨?_, (Below.refl _ _).alloc (Nat.le_refl _) _⟩
    go_light
    by_cases hl : s.toList = [] <;> simp_all [vcheck] <;> omega

set_option maxHeartbeats 1000000 in
theorem vfault_any (k n : Int) (s : ByteArray) (w : World) (hs : s.size ≤ maxLen) : Calls Tryd.prog 29 #[.agg #[.int .i64 k, .int .i64 n, .string s]] w fun e w' => e = .returned (.int .i64 (vcheck k n s)) ∧ Below w.heap.size w w' := by
  unfold maxLen at hs
  go_enter Tryd.func29, Tryd.ntmps29
  go_wp2
  all_goals
    go_ret
    refine ⟨?_, (Below.refl _ _).alloc (Nat.le_refl _) _⟩
    go_light
    by_cases hl : s.toList = [] <;> first | (have := size_nil hl; simp_all [vcheck] <;> omega) | (simp_all [vcheck] <;> omega)
end Go.Proofs.YtoecmmpjndcolaaDoor
