/- The contracts of value.Two's parts: logic, arith, and the reference's leaves. -/
import Derived.Test.YtbedhaagngomgaaVd
import Derived.Test.YtbedhaagngomgaaNum
set_option linter.unusedSimpArgs false
set_option linter.unusedVariables false
namespace Go.Proofs.Ytbedhaagngomgaa
open Go.RowKit
def opV (kind a b : Int) : Int := if kind = 8 then a + b else if kind = 9 then a - b else a * b
theorem bool_of_iff {a b : Bool} (h : a = true ↔ b = true) : a = b := Bool.eq_iff_iff.2 h
theorem leaves_any (kind a b : Int) (w : World) (ha : -9223372036854775808 ≤ a) (ha' : a ≤ 9223372036854775807) (hb : -9223372036854775808 ≤ b) (hb' : b ≤ 9223372036854775807) :
    Calls Try.prog 31 #[.int .i64 kind, .int .i64 a, .int .i64 b] w fun e w' => e = .returned (.bool (!fitsI (opV kind a b))) ∧ w = w' := by
  by_cases h9 : kind = 9
  · subst h9
    go_enter Try.func31, Try.ntmps31
    go_wp2
    all_goals
      go_ret
      go_light
      refine ⟨congrArg (fun x => Ending.returned (.bool x)) (bool_of_iff ?_), rfl⟩
      simp [opV, ← Bool.not_eq_true, fitsI_iff]
      try omega
  by_cases h8 : kind = 8
  · subst h8
    go_enter Try.func31, Try.ntmps31
    go_wp2
    all_goals
      go_ret
      go_light
      refine ⟨congrArg (fun x => Ending.returned (.bool x)) (bool_of_iff ?_), rfl⟩
      simp [opV, ← Bool.not_eq_true, fitsI_iff]
      try omega
  have e : opV kind a b = a * b := by simp [opV, h8, h9]
  by_cases h0 : a = 0
  · subst h0
    go_enter Try.func31, Try.ntmps31
    go_wp2
    all_goals
      go_ret
      go_light
      refine ⟨?_, rfl⟩
      simp [fitsI, e]
  by_cases h1 : b = 0
  · subst h1
    go_enter Try.func31, Try.ntmps31
    go_wp2
    all_goals
      go_ret
      go_light
      refine ⟨?_, rfl⟩
      simp [fitsI, e]
  have e8 : (kind == 8) = false := by simp [h8]
  have e9 : (kind == 9) = false := by simp [h9]
  have f0 : (a == 0) = false := by simp [h0]
  have f1 : (b == 0) = false := by simp [h1]
  have H := Lib.hid e; clear e
  go_enter Try.func31, Try.ntmps31
  go_wp2
  all_goals
      go_ret
      go_light
      refine ⟨congrArg (fun x => Ending.returned (.bool x)) ?_, rfl⟩
      rw [H.out]
      clear H
      simp only [decide_eq_true_eq, beq_iff_eq, beq_eq_false_iff_ne, decide_eq_decide, ne_eq] at *
      first
        | (subst_vars; exact q_one _ (by omega) (by omega))
        | (subst_vars; exact q_one' _ (by omega) (by omega))
        | exact q_pos a b (by omega) (by omega)
        | exact q_neg a b (by omega) (by omega)
        | exact q_mix a b (by omega) (by omega)
        | exact q_mix' a b (by omega) (by omega)
theorem arith_any (kind a b : Int) (w : World) (ha : -9223372036854775808 ≤ a) (ha' : a ≤ 9223372036854775807) (hb : -9223372036854775808 ≤ b) (hb' : b ≤ 9223372036854775807) :
    Calls Try.prog 30 #[.int .i64 kind, .int .i64 a, .int .i64 b] w fun e w' => e = .returned (.tuple #[.int .i64 (wrap64 (opV kind a b)), .bool (fitsI (opV kind a b))]) ∧ w = w' := by
  by_cases h8 : kind = 8
  · subst h8
    go_enter Try.func30, Try.ntmps30
    go_wp2
    all_goals
      go_ret2
      go_light
      refine ⟨congrArg (fun x => Ending.returned (.tuple #[.int .i64 (wrap64 (a + b)), .bool x])) (bool_of_iff ?_), rfl⟩
      simp [opV, fitsI_iff]
      unfold wrap64
      omega
  by_cases h9 : kind = 9
  · subst h9
    go_enter Try.func30, Try.ntmps30
    go_wp2
    all_goals
      go_ret2
      go_light
      refine ⟨congrArg (fun x => Ending.returned (.tuple #[.int .i64 (wrap64 (a - b)), .bool x])) (bool_of_iff ?_), rfl⟩
      simp [opV, fitsI_iff]
      unfold wrap64
      omega
  have e : opV kind a b = a * b := by simp [opV, h8, h9]
  have e8 : (kind == 8) = false := by simp [h8]
  have e9 : (kind == 9) = false := by simp [h9]
  have H := Lib.hid e; clear e
  by_cases h0 : a = 0
  · subst h0
    go_enter Try.func30, Try.ntmps30
    go_wp2
    all_goals
      go_ret2
      go_light
      refine ⟨?_, rfl⟩
      simp [fitsI, H.out, IntWalk.wrap64_in]
  have M := mul_ok a b h0 ha ha' hb hb'
  have M' := Lib.hid M; clear M
  by_cases hm : a = -1
  · subst hm
    have e1 : -1 * b = -b := by omega
    go_enter Try.func30, Try.ntmps30
    go_wp2
    all_goals
      go_ret2
      go_light
      refine ⟨?_, rfl⟩
      rw [H.out]
      have M := M'.out
      rw [e1] at M ⊢
      refine congrArg (fun x => Ending.returned (.tuple #[.int .i64 (wrap64 (-b)), .bool x])) (bool_of_iff ?_)
      rw [← M]
      simp_all
  · go_enter Try.func30, Try.ntmps30
    go_wp2
    all_goals
      go_ret2
      go_light
      refine ⟨?_, rfl⟩
      rw [H.out]
      refine congrArg (fun x => Ending.returned (.tuple #[.int .i64 (wrap64 (a * b)), .bool x])) (bool_of_iff ?_)
      rw [← M'.out]
      simp_all
end Go.Proofs.Ytbedhaagngomgaa
