/- Plain laws on orders of bytes and values; the law of Compare. -/
import Derived.Test.YtbedhaagngomgaaVc
set_option linter.unusedSimpArgs false
set_option linter.unusedVariables false
namespace Go.Proofs.Ytbedhaagngomgaa
open Go.RowKit
theorem compareBytes_less : ∀ (a b : List UInt8), Lib.compareBytes a b = if Op.bytesLess a b = true then -1 else if Op.bytesLess b a = true then 1 else 0
  | [], [] => by simp [Lib.compareBytes, Op.bytesLess]
  | [], _ :: _ => by simp [Lib.compareBytes, Op.bytesLess]
  | _ :: _, [] => by simp [Lib.compareBytes, Op.bytesLess]
  | a :: x, b :: y => by
    have ih := compareBytes_less x y
    simp only [Lib.compareBytes, Op.bytesLess, ih]
    by_cases h1 : a < b
    · simp [h1]
    · by_cases h2 : b < a
      · have : ¬ (a == b) = true := by intro h; simp at h; subst h; exact h1 h2
        simp [h1, h2, this]
      · have e : a = b := by
          have : a.toNat = b.toNat := by simp [UInt8.lt_iff_toNat_lt] at h1 h2; omega
          exact UInt8.toNat.inj this
        subst e
        simp [h1]
theorem bytesLess_irrefl : ∀ (a : List UInt8), Op.bytesLess a a = false
  | [] => rfl
  | a :: x => by simp [Op.bytesLess, bytesLess_irrefl x]
theorem bytesLess_asymm : ∀ (a b : List UInt8), Op.bytesLess a b = true → Op.bytesLess b a = false
  | [], [] => by simp [Op.bytesLess]
  | [], _ :: _ => by simp [Op.bytesLess]
  | _ :: _, [] => by simp [Op.bytesLess]
  | a :: x, b :: y => by
    have ih := bytesLess_asymm x y
    simp only [Op.bytesLess, Bool.or_eq_true, Bool.and_eq_true, decide_eq_true_eq, beq_iff_eq, Bool.or_eq_false_iff, Bool.and_eq_false_iff, decide_eq_false_iff_not]
    rintro (h | ⟨rfl, h⟩)
    · refine ⟨?_, ?_⟩
      · simp [UInt8.lt_iff_toNat_lt] at h ⊢; omega
      · left; rw [beq_eq_false_iff_ne]; intro e; subst e; simp [UInt8.lt_iff_toNat_lt] at h
    · refine ⟨by simp [UInt8.lt_iff_toNat_lt], .inr (ih h)⟩
theorem bytesLess_total : ∀ (a b : List UInt8), Op.bytesLess a b = false → Op.bytesLess b a = false → a = b
  | [], [] => by simp
  | [], _ :: _ => by simp [Op.bytesLess]
  | _ :: _, [] => by simp [Op.bytesLess]
  | a :: x, b :: y => by
    have ih := bytesLess_total x y
    simp only [Op.bytesLess, Bool.or_eq_false_iff, Bool.and_eq_false_iff, decide_eq_false_iff_not, beq_eq_false_iff_ne]
    rintro ⟨h1, h2⟩ ⟨h3, h4⟩
    have e : a = b := by
      have : a.toNat = b.toNat := by simp [UInt8.lt_iff_toNat_lt] at h1 h3; omega
      exact UInt8.toNat.inj this
    subst e
    rw [ih (by simpa using h2) (by simpa using h4)]
theorem compareBytes_nil : Lib.compareBytes [] [] = 0 := rfl
/-- What may be, by kinds. -/
theorem vcheck_ok {k n : Int} {s : ByteArray} (h : vcheck k n s = 0) : (k = 0 ∧ n = 0 ∧ s.toList = []) ∨ (k = 1 ∧ 0 ≤ n ∧ n ≤ 1 ∧ s.toList = []) ∨ (k = 2 ∧ s.toList = []) ∨ (k = 3 ∧ n = 0 ∧ s.size ≤ 20) := by
  unfold vcheck at h
  split at h
  · split at h <;> simp_all
  · split at h
    · split at h
      · simp at h
      · rename_i h'; simp only [not_or, Classical.not_not] at h'; right; left; refine ⟨by assumption, by omega, by omega, h'.2.2⟩
    · split at h
      · split at h <;> simp_all
      · split at h
        · split at h
          · simp at h
          · split at h
            · simp at h
            · right; right; right; refine ⟨by assumption, by simp_all, by omega⟩
        · simp at h
theorem cmp_same (k n : Int) (s : ByteArray) (k' n' : Int) (s' : ByteArray) : cmpM k n s k' n' s' = cmpR k n s k' n' s' := by
  unfold cmpM cmpR
  by_cases hv : vboth k n s k' n' s' = 0
  · rw [if_pos hv, if_pos hv]
    unfold vboth at hv
    split at hv
    · rename_i h1
      have a := vcheck_ok h1
      have b := vcheck_ok hv
      congr 1
      unfold vcmp vahead
      have cl := compareBytes_less s.toList s'.toList
      rw [ByteArray.toList_eq, ByteArray.toList_eq] at cl
      rw [cl]
      simp only [← ByteArray.toList_eq]
      by_cases hk : k = k'
      · subst hk
        by_cases h3 : k = 3
        · subst h3
          have e1 : n = 0 := by omega
          have e2 : n' = 0 := by omega
          subst e1 e2
          simp [or3, cmpI]
        · have s1 : s.toList = [] := by rcases a with a | a | a | a <;> simp_all
          have s2 : s'.toList = [] := by rcases b with b | b | b | b <;> simp_all
          rw [s1, s2]
          simp [or3, cmpI, h3, Op.bytesLess]
          by_cases h : n < n'
          · simp [h]
          · simp [h]
      · have hk' : k' ≠ k := fun h => hk h.symm
        simp [hk, hk', or3, cmpI]
        by_cases h : k < k'
        · simp [h]
        · have : k' < k := by omega
          simp [h, this]
    · omega
  · rw [if_neg hv, if_neg hv]
theorem law_compare (k n : Int) (s : ByteArray) (k' n' : Int) (s' : ByteArray) (w : World) (hs : s.size ≤ maxLen) (hs' : s'.size ≤ maxLen) :
    Calls Try.prog 6 #[.agg #[.int .i64 k, .int .i64 n, .string s], .agg #[.int .i64 k', .int .i64 n', .string s']] w fun e w' => e = .returned (.bool true) ∧ Below w.heap.size w w' := by
  have hcs := Lib.hid (cmp_same k n s k' n' s')
  go_enter Try.func6, Try.ntmps6
  go_wp2_with (first | (go_at_call 13; refine (Compare_any _ _ _ _ _ _ _ (by assumption) (by assumption)).mono ?_; rintro e w1 ⟨rfl, hb⟩; have hz := hb.size; (try simp only [World.size_alloc, World.size_setCell, World.size_drew, size_drewN] at hz); (try (have zw1_0 : w.heap.size < w1.heap.size := (by omega))); (try (have cw1_0 := fun o => hb.cell (p := ⟨w.heap.size, o, none⟩) (by (try simp only [World.size_alloc, World.size_setCell, World.size_drew, size_drewN]); omega))); (try (have fw1_0 := fun o => hb.frozen (p := ⟨w.heap.size, o, none⟩) (by (try simp only [World.size_alloc, World.size_setCell, World.size_drew, size_drewN]); omega))); (try (have zw1_1 : w.heap.size + 1 < w1.heap.size := (by omega))); (try (have cw1_1 := fun o => hb.cell (p := ⟨w.heap.size + 1, o, none⟩) (by (try simp only [World.size_alloc, World.size_setCell, World.size_drew, size_drewN]); omega))); (try (have fw1_1 := fun o => hb.frozen (p := ⟨w.heap.size + 1, o, none⟩) (by (try simp only [World.size_alloc, World.size_setCell, World.size_drew, size_drewN]); omega)))) | (rw [← hcs.out]) | (go_at_call 14; refine (Compared_any _ _ _ _ _ _ _ (by assumption) (by assumption)).mono ?_; rintro e w2 ⟨rfl, hb⟩; have hz := hb.size; (try simp only [World.size_alloc, World.size_setCell, World.size_drew, size_drewN] at hz); (try (have zw2_0 : w.heap.size < w2.heap.size := (by omega))); (try (have cw2_0 := fun o => hb.cell (p := ⟨w.heap.size, o, none⟩) (by (try simp only [World.size_alloc, World.size_setCell, World.size_drew, size_drewN]); omega))); (try (have fw2_0 := fun o => hb.frozen (p := ⟨w.heap.size, o, none⟩) (by (try simp only [World.size_alloc, World.size_setCell, World.size_drew, size_drewN]); omega))); (try (have zw2_1 : w.heap.size + 1 < w2.heap.size := (by omega))); (try (have cw2_1 := fun o => hb.cell (p := ⟨w.heap.size + 1, o, none⟩) (by (try simp only [World.size_alloc, World.size_setCell, World.size_drew, size_drewN]); omega))); (try (have fw2_1 := fun o => hb.frozen (p := ⟨w.heap.size + 1, o, none⟩) (by (try simp only [World.size_alloc, World.size_setCell, World.size_drew, size_drewN]); omega)))))
  all_goals
    go_ret
    go_light
    refine ⟨?_, ?_⟩
    · simp [hcs.out]
    · (repeat' (first | (with_reducible exact Below.refl _ _) | (with_reducible assumption) | (with_reducible refine Below.alloc ?_ ?_ _) | (with_reducible refine Below.drew ?_) | (with_reducible refine below_drewN ?_) | (with_reducible refine Below.setCell ?_ ?_ _) | (with_reducible refine below_step ?_ ?_ (by with_reducible assumption)) | go_size))
end Go.Proofs.Ytbedhaagngomgaa
