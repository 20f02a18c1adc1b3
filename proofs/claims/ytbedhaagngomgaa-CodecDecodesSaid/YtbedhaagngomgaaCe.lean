/- The codec's laws: numbers out of bytes. -/
import Derived.Test.YtbedhaagngomgaaCc
set_option linter.unusedSimpArgs false
set_option linter.unusedVariables false
namespace Go.AM
open Go
def natM (l : List UInt8) : Nat := l.foldl (fun n c => n * 256 + c.toNat) 0
theorem natM_snoc (l : List UInt8) (c : UInt8) : natM (l ++ [c]) = natM l * 256 + c.toNat := by simp [natM, List.foldl_append]
theorem natM_take {l : List UInt8} {k : Nat} {c : UInt8} (h : l[k]? = some c) : natM (l.take (k + 1)) = natM (l.take k) * 256 + c.toNat := by
  rw [List.take_add_one, h, Option.toList, natM_snoc]
theorem natM_lt : ∀ (k : Nat) (l : List UInt8), k ≤ l.length → natM (l.take k) < 256 ^ k
  | 0, l, _ => by simp [natM]
  | k + 1, l, h => by
    have ih := natM_lt k l (by omega)
    have hk : l[k]? = some l[k] := by simp
    rw [natM_take hk, Nat.pow_succ]
    have := l[k].toNat_lt
    omega
theorem or8 (n c : Nat) (hc : c < 256) (hn : n * 256 + 256 ≤ 18446744073709551616) : (BitVec.ofInt 64 ((n * 256 : Nat) : Int) ||| BitVec.ofInt 64 (c : Int)).toNat = n * 256 + c := by
  rw [BitVec.ofInt_natCast, BitVec.ofInt_natCast, BitVec.toNat_or, BitVec.toNat_ofNat, BitVec.toNat_ofNat, Nat.mod_eq_of_lt (by omega), Nat.mod_eq_of_lt (by omega)]
  have := Nat.two_pow_add_eq_or_of_lt (i := 8) (b := c) (by omega) n
  rw [Nat.mul_comm n 256]; exact this.symm
theorem xor63 (n : Nat) (hn : n < 18446744073709551616) : (BitVec.ofInt 64 (n : Int) ^^^ BitVec.ofInt 64 9223372036854775808).toNat = if n < 9223372036854775808 then n + 9223372036854775808 else n - 9223372036854775808 := by
  have e : (9223372036854775808 : Int) = ((9223372036854775808 : Nat) : Int) := rfl
  rw [e, BitVec.ofInt_natCast, BitVec.ofInt_natCast, BitVec.toNat_xor, BitVec.toNat_ofNat, BitVec.toNat_ofNat, Nat.mod_eq_of_lt (by omega), Nat.mod_eq_of_lt (by omega)]
  have key : ∀ m : Nat, m < 9223372036854775808 → m ^^^ 9223372036854775808 = m + 9223372036854775808 := by
    intro m hm
    apply Nat.eq_of_testBit_eq
    intro i
    have e2 : (9223372036854775808 : Nat) = 2 ^ 63 := rfl
    rw [Nat.testBit_xor, e2, Nat.add_comm, Nat.testBit_two_pow]
    by_cases hi : i = 63
    · subst hi
      rw [Nat.testBit_two_pow_add_eq, Nat.testBit_lt_two_pow (by omega)]; rfl
    · by_cases hi2 : i < 63
      · rw [Nat.testBit_two_pow_add_gt (by omega)]; have : ¬ 63 = i := by omega
        simp [this]
      · have h1 : m.testBit i = false := Nat.testBit_lt_two_pow (Nat.lt_of_lt_of_le hm (by rw [e2]; exact Nat.pow_le_pow_right (by omega) (by omega)))
        have h2 : (2 ^ 63 + m).testBit i = false := Nat.testBit_lt_two_pow (Nat.lt_of_lt_of_le (by omega : 2 ^ 63 + m < 2 ^ 64) (Nat.pow_le_pow_right (by omega) (by omega)))
        have : ¬ 63 = i := by omega
        rw [h1, h2]; simp [this]
  split
  · rename_i h; exact key n h
  · rename_i h
    have := key (n - 9223372036854775808) (by omega)
    rw [Nat.sub_add_cancel (by omega)] at this
    have h2 := congrArg (· ^^^ 9223372036854775808) this
    simp only [Nat.xor_assoc, Nat.xor_self, Nat.xor_zero] at h2
    exact h2.symm
theorem shOr (n c : Nat) (hc : c < 256) (hn : n * 256 + 256 ≤ 18446744073709551616) : bOr .u64 (shlI .u64 (n : Int) 8) (IntKind.u64.wrap (c : Int)) = ((n * 256 + c : Nat) : Int) := by
  have e1 : shlI .u64 (n : Int) 8 = ((n * 256 : Nat) : Int) := by
    have : ((n : Int) * 2 ^ min 8 64) = ((n * 256 : Nat) : Int) := by rw [Int.natCast_mul]; rfl
    show IntKind.u64.wrap ((n : Int) * 2 ^ min 8 64) = _
    rw [this]; exact Go.IntWalk.u64_in _ (by omega)
  rw [e1, Go.IntWalk.u64_in (c : Int) (by omega)]
  show IntKind.u64.wrap ((BitVec.ofInt 64 ((n * 256 : Nat) : Int) ||| BitVec.ofInt 64 (c : Int)).toNat : Int) = _
  rw [or8 n c hc hn]
  exact Go.IntWalk.u64_in _ (by omega)
theorem xorI (n : Nat) (hn : n < 18446744073709551616) : IntKind.i64.wrap (bXor .u64 (n : Int) 9223372036854775808) = (n : Int) - 9223372036854775808 := by
  show IntKind.i64.wrap (IntKind.u64.wrap (((BitVec.ofInt 64 (n : Int) ^^^ BitVec.ofInt 64 9223372036854775808).toNat : Nat) : Int)) = (n : Int) - 9223372036854775808
  rw [xor63 n hn]
  split
  · rw [Go.IntWalk.u64_in _ (by omega), IntKind.wrap_i64]; omega
  · rw [Go.IntWalk.u64_in _ (by omega), IntKind.wrap_i64]; omega
end Go.AM
