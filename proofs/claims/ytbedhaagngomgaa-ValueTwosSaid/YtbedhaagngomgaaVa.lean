/- The contracts of the value layer (program and reference), each over this seat's translation: what the calls return, as plain Lean functions. No condition but the lengths of strings. -/
import Derived.Test.YtbedhaagngomgaaProg
import Derived.Handy
import Derived.WalkSpells
import Derived.WalkLawsBesides
import Derived.Deep.Light
import Derived.StillTailTactics
import Derived.Lib.SmallJoins
import Derived.Lib.Bytealg
import Derived.Lib.Hide
set_option linter.unusedSimpArgs false
set_option linter.unusedVariables false
namespace Go.Proofs.Ytbedhaagngomgaa
open Go.RowKit

theorem bcell {W w1 : World} (hb : Below W.heap.size W w1) : (∀ b o, b < W.heap.size → w1.cell? ⟨b, o, none⟩ = W.cell? ⟨b, o, none⟩) ∧ (∀ b o, b < W.heap.size → w1.frozen? ⟨b, o, none⟩ = W.frozen? ⟨b, o, none⟩) :=
  ⟨fun b o h => hb.cell (p := ⟨b, o, none⟩) h, fun b o h => hb.frozen (p := ⟨b, o, none⟩) h⟩
theorem below_step {B : Nat} {a w w' : World} (h : Below B a w) (hB : B ≤ w.heap.size) (hb : Below w.heap.size w w') : Below B a w' := h.trans (hb.mono hB)

/-- A region that draws its order: reads and quiet calls, then a forced tail: walked once in the text's order. -/
theorem wp_tail {P : Program} {id : Nat} {Q : Exit → Act → World → Prop} {a : Act} {w : World} {l : List Oper} (n : Nat) (hm : P.follows .mixedOrders = true) (hB : Region.lexTailB .any l.toArray n = true)
    (h : wpStill P l.toArray w.drew (fun a' => wpList P l.toArray Q (l.drop n) a' w.drew) (l.take n) a) : (Code.region id l.toArray true).wp P Q a w := wp_region_still_tail n hm hB h
theorem size_drewN (w : World) (n : Nat) : (w.drewN n).heap.size = w.heap.size := rfl
theorem below_drewN {B : Nat} {a w : World} {n : Nat} (h : Below B a w) : Below B a (w.drewN n) := h.trans (Joins.below_draws B w n)
theorem toList_len (s : ByteArray) : s.toList.length = s.size := by rw [ByteArray.toList_eq]; simp
theorem size_nil {s : ByteArray} (h : s.toList = []) : s.size = 0 := by
  have := toList_len s; rw [h] at this; simpa using this.symm

/-- P1.1 as numbers. -/
def vcheck (k n : Int) (s : ByteArray) : Int :=
  if k = 0 then (if n ≠ 0 ∨ s.toList ≠ [] then 6 else 0)
  else if k = 1 then (if n < 0 ∨ 1 < n ∨ s.toList ≠ [] then 6 else 0)
  else if k = 2 then (if s.toList ≠ [] then 6 else 0)
  else if k = 3 then (if n ≠ 0 then 6 else if 20 < s.size then 1 else 0)
  else 2

set_option maxHeartbeats 1000000 in
theorem check_any (k n : Int) (s : ByteArray) (w : World) (hs : s.size ≤ maxLen) : Calls Try.prog 9 #[.agg #[.int .i64 k, .int .i64 n, .string s]] w fun e w' => e = .returned (.int .i64 (vcheck k n s)) ∧ Below w.heap.size w w' := by
  unfold maxLen at hs
  go_enter Try.func9, Try.ntmps9
  go_wp2
  all_goals
    go_ret
    refine ⟨?_, (Below.refl _ _).alloc (Nat.le_refl _) _⟩
    go_light
    by_cases hl : s.toList = [] <;> simp_all [vcheck] <;> omega

set_option maxHeartbeats 1000000 in
theorem vfault_any (k n : Int) (s : ByteArray) (w : World) (hs : s.size ≤ maxLen) : Calls Try.prog 10 #[.agg #[.int .i64 k, .int .i64 n, .string s]] w fun e w' => e = .returned (.int .i64 (vcheck k n s)) ∧ Below w.heap.size w w' := by
  unfold maxLen at hs
  go_enter Try.func10, Try.ntmps10
  go_wp2
  all_goals
    go_ret
    refine ⟨?_, (Below.refl _ _).alloc (Nat.le_refl _) _⟩
    go_light
    by_cases hl : s.toList = [] <;> first | (have := size_nil hl; simp_all [vcheck] <;> omega) | (simp_all [vcheck] <;> omega)
end Go.Proofs.Ytbedhaagngomgaa
