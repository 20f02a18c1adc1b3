/- Plain facts on 64-bit arithmetic: does a product fit? No program in sight. -/
import Derived.WalkKit
set_option linter.unusedSimpArgs false
set_option linter.unusedVariables false
namespace Go.Proofs.Ytbedhaagngomgaa
open Go.RowKit
/-- Does it fit into 64 bits? -/
def fitsI (x : Int) : Bool := decide (-9223372036854775808 ≤ x ∧ x ≤ 9223372036854775807)
theorem fitsI_iff (x : Int) : fitsI x = true ↔ (-9223372036854775808 ≤ x ∧ x ≤ 9223372036854775807) := by simp [fitsI]
theorem q_pos (a b : Int) (ha : 0 < a) (hb : 0 < b) : decide (wrap64 (Int.tdiv 9223372036854775807 b) < a) = !fitsI (a * b) := by
  have e : Int.tdiv 9223372036854775807 b = 9223372036854775807 / b := Int.tdiv_eq_ediv_of_nonneg (by decide)
  have h0 : 0 ≤ (9223372036854775807 : Int) / b := Int.ediv_nonneg (by decide) (by omega)
  have h1 : (9223372036854775807 : Int) / b ≤ 9223372036854775807 := Int.ediv_le_self _ (by decide)
  rw [e, IntWalk.wrap64_in _ ⟨by omega, by omega⟩]
  have h2 := @Int.ediv_lt_iff_lt_mul 9223372036854775807 a b hb
  have h3 : 0 < a * b := Int.mul_pos ha hb
  rw [Bool.eq_iff_iff]
  simp only [decide_eq_true_eq, Bool.not_eq_true', ← Bool.not_eq_true, fitsI_iff]
  rw [h2]
  omega
theorem tdiv_neg_pos (m b : Int) (hm : 0 ≤ m) : Int.tdiv m b = -(m / (-b)) := by
  have := Int.tdiv_neg m (-b)
  rw [Int.neg_neg] at this
  rw [this, Int.tdiv_eq_ediv_of_nonneg hm]
theorem q_neg (a b : Int) (ha : a < 0) (hb : b < 0) : decide (a < wrap64 (Int.tdiv 9223372036854775807 b)) = !fitsI (a * b) := by
  rw [tdiv_neg_pos _ _ (by decide)]
  have h0 : 0 ≤ (9223372036854775807 : Int) / (-b) := Int.ediv_nonneg (by decide) (by omega)
  have h1 : (9223372036854775807 : Int) / (-b) ≤ 9223372036854775807 := Int.ediv_le_self _ (by decide)
  rw [IntWalk.wrap64_in _ ⟨by omega, by omega⟩]
  have h2 := @Int.ediv_lt_iff_lt_mul 9223372036854775807 (-a) (-b) (by omega)
  have h3 : 0 < (-a) * (-b) := Int.mul_pos (by omega) (by omega)
  have h4 : (-a) * (-b) = a * b := by rw [Int.neg_mul_neg]
  rw [h4] at h2 h3
  rw [Bool.eq_iff_iff]
  simp only [decide_eq_true_eq, Bool.not_eq_true', ← Bool.not_eq_true, fitsI_iff]
  constructor
  · intro h
    have := h2.1 (by omega)
    omega
  · intro h
    have := h2.2 (by omega)
    omega
theorem q_mix (a b : Int) (ha : 0 < a) (hb : b < 0) : decide (b < wrap64 (-Int.tdiv 9223372036854775808 a)) = !fitsI (a * b) := by
  have e : Int.tdiv 9223372036854775808 a = 9223372036854775808 / a := Int.tdiv_eq_ediv_of_nonneg (by decide)
  have h0 : 0 ≤ (9223372036854775808 : Int) / a := Int.ediv_nonneg (by decide) (by omega)
  have h1 : (9223372036854775808 : Int) / a ≤ 9223372036854775808 := Int.ediv_le_self _ (by decide)
  rw [e, IntWalk.wrap64_in _ ⟨by omega, by omega⟩]
  have h2 := @Int.ediv_lt_iff_lt_mul 9223372036854775808 (-b) a ha
  have h3 : 0 < (-b) * a := Int.mul_pos (by omega) ha
  have h4 : (-b) * a = -(a * b) := by rw [Int.neg_mul, Int.mul_comm]
  rw [h4] at h2 h3
  rw [Bool.eq_iff_iff]
  simp only [decide_eq_true_eq, Bool.not_eq_true', ← Bool.not_eq_true, fitsI_iff]
  constructor
  · intro h
    have := h2.1 (by omega)
    omega
  · intro h
    have := h2.2 (by omega)
    omega
theorem q_mix' (a b : Int) (ha : a < 0) (hb : 0 < b) : decide (a < wrap64 (-Int.tdiv 9223372036854775808 b)) = !fitsI (a * b) := by
  rw [Int.mul_comm a b]
  exact q_mix b a hb ha
theorem q_one (b : Int) (h : -9223372036854775808 ≤ b) (h' : b ≤ 9223372036854775807) : (b == -9223372036854775808) = !fitsI (-1 * b) := by
  rw [Bool.eq_iff_iff]
  simp only [beq_iff_eq, Bool.not_eq_true', ← Bool.not_eq_true, fitsI_iff]
  omega
theorem q_one' (a : Int) (h : -9223372036854775808 ≤ a) (h' : a ≤ 9223372036854775807) : (a == -9223372036854775808) = !fitsI (a * -1) := by
  rw [Int.mul_comm]
  exact q_one a h h'
/-- The product's own test: by dividing back. -/
theorem mul_ok (a b : Int) (h0 : a ≠ 0) (ha : -9223372036854775808 ≤ a) (ha' : a ≤ 9223372036854775807) (hb : -9223372036854775808 ≤ b) (hb' : b ≤ 9223372036854775807) :
    (wrap64 ((wrap64 (a * b)).tdiv a) = b ∧ ¬ (a = -1 ∧ b = -9223372036854775808)) ↔ fitsI (a * b) = true := by
  rw [fitsI_iff]
  constructor
  · rintro ⟨h1, h2⟩
    by_cases hf : -9223372036854775808 ≤ a * b ∧ a * b ≤ 9223372036854775807
    · exact hf
    exfalso
    have hn : wrap64 (a * b) ≠ a * b := by
      unfold wrap64; omega
    have hr : -9223372036854775808 ≤ wrap64 (a * b) ∧ wrap64 (a * b) ≤ 9223372036854775807 := by unfold wrap64; omega
    have hd : wrap64 (a * b) = (a * b + 9223372036854775808) % 18446744073709551616 - 9223372036854775808 := by unfold wrap64; omega
    generalize wrap64 (a * b) = n at *
    by_cases hm : a = -1
    · subst hm
      rw [Int.tdiv_neg, Int.tdiv_one] at h1
      by_cases hmin : n = -9223372036854775808
      · subst hmin
        have : b = -9223372036854775808 := by rw [← h1]; unfold wrap64; omega
        exact h2 ⟨rfl, this⟩
      · rw [IntWalk.wrap64_in _ ⟨by omega, by omega⟩] at h1
        omega
    by_cases hp : a = 1
    · subst hp
      rw [Int.tdiv_one, IntWalk.wrap64_in _ ⟨by omega, by omega⟩] at h1
      omega
    have hmt := Int.mul_tdiv_add_tmod n a
    have hlt : (n.tmod a).natAbs < a.natAbs := by rw [Int.natAbs_tmod]; exact Nat.mod_lt _ (by omega)
    have hq : (n.tdiv a).natAbs ≤ 4611686018427387904 := by
      rw [Int.natAbs_tdiv]
      have : 2 ≤ a.natAbs := by omega
      calc n.natAbs / a.natAbs ≤ n.natAbs / 2 := Nat.div_le_div_left this (by decide)
        _ ≤ 4611686018427387904 := by omega
    rw [IntWalk.wrap64_in _ ⟨by omega, by omega⟩] at h1
    rw [h1] at hmt
    omega
  · intro h
    have e : wrap64 (a * b) = a * b := IntWalk.wrap64_in _ h
    rw [e, Int.mul_tdiv_cancel_left _ h0, IntWalk.wrap64_in _ ⟨hb, hb'⟩]
    refine ⟨rfl, ?_⟩
    rintro ⟨rfl, rfl⟩
    omega
end Go.Proofs.Ytbedhaagngomgaa
