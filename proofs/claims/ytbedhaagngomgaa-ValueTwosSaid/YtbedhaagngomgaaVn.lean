/- The reference's TwoOf at And and Or, all values. -/
import Derived.Test.YtbedhaagngomgaaVj
set_option linter.unusedSimpArgs false
set_option linter.unusedVariables false
namespace Go.Proofs.Ytbedhaagngomgaa
open Go.RowKit
theorem bytes_nil {s : ByteArray} (h : s.toList = []) : s = ⟨#[]⟩ := by
  rw [ByteArray.toList_eq] at h
  cases s with
  | mk d => simp at h; subst h; rfl
theorem truth_cases {k n : Int} {s : ByteArray} (h : vcheck k n s = 0) (hk : k = 0 ∨ k = 1) : s = ⟨#[]⟩ ∧ ((k = 0 ∧ n = 0) ∨ (k = 1 ∧ n = 0) ∨ (k = 1 ∧ n = 1)) := by
  rcases vcheck_ok h with ⟨h1, h2, h3⟩ | ⟨h1, h2, h3, h4⟩ | ⟨h1, h2⟩ | ⟨h1, h2, h3⟩
  · exact ⟨bytes_nil h3, .inl ⟨h1, h2⟩⟩
  · exact ⟨bytes_nil h4, .inr (by omega)⟩
  · omega
  · omega
theorem vboth_ok {k n : Int} {s : ByteArray} {k' n' : Int} {s' : ByteArray} (h : vboth k n s k' n' s' = 0) : vcheck k n s = 0 ∧ vcheck k' n' s' = 0 := by
  unfold vboth at h
  split at h
  · exact ⟨by assumption, h⟩
  · exact absurd h (by assumption)
set_option maxHeartbeats 4000000 in
theorem TwoOf3 (k n : Int) (s : ByteArray) (k' n' : Int) (s' : ByteArray) (w : World) (hs : s.size ≤ maxLen) (hs' : s'.size ≤ maxLen)
    (ha : -9223372036854775808 ≤ n) (ha' : n ≤ 9223372036854775807) (hb : -9223372036854775808 ≤ n') (hb' : n' ≤ 9223372036854775807) (hv : vboth k n s k' n' s' = 0) :
    Calls Try.prog 16 #[.int .i64 3, .agg #[.int .i64 k, .int .i64 n, .string s], .agg #[.int .i64 k', .int .i64 n', .string s']] w fun e w' =>
      e = .returned (.tuple #[.agg #[.int .i64 (twoR 3 k n s k' n' s').1.1, .int .i64 (twoR 3 k n s k' n' s').1.2.1, .string (twoR 3 k n s k' n' s').1.2.2], .int .i64 (twoR 3 k n s k' n' s').2]) ∧ Below w.heap.size w w' := by
  obtain ⟨v1, v2⟩ := vboth_ok hv
  by_cases hk : k = 0 ∨ k = 1
  · obtain ⟨rfl, hc⟩ := truth_cases v1 hk
    by_cases hk' : k' = 0 ∨ k' = 1
    · obtain ⟨rfl, hc'⟩ := truth_cases v2 hk'
      refine (TwoOf3c k n k' n' w hv hc hc').mono ?_
      rintro e w' ⟨rfl, hb⟩
      refine ⟨?_, hb⟩
      simp [twoR, hv]
    · have hvb : (vboth k n ⟨#[]⟩ k' n' s' != 0) = false := by simp [hv]
      have h0 : k' ≠ 0 := fun h => hk' (.inl h)
      have h1 : k' ≠ 1 := fun h => hk' (.inr h)
      have e1 : (k' != 0) = true := by simp [h0]
      have e2 : (k' != 1) = true := by simp [h1]
      have e3 : (k' == 0) = false := by simp [h0]
      clear v1 v2 hc hk'
      rcases hk with rfl | rfl
      · go_enter Try.func16, Try.ntmps16
        go_wp2_with (first | (go_at_call 26; refine (bothFault_any _ _ _ _ _ _ _ (by assumption) (by assumption)).mono ?_; rintro e w1 ⟨rfl, hb⟩; have hz := hb.size; (try simp only [World.size_alloc, World.size_setCell, World.size_drew, size_drewN] at hz); (try (have zw1_0 : w.heap.size < w1.heap.size := (by omega))); (try (have cw1_0 := fun o => hb.cell (p := ⟨w.heap.size, o, none⟩) (by (try simp only [World.size_alloc, World.size_setCell, World.size_drew, size_drewN]); omega))); (try (have fw1_0 := fun o => hb.frozen (p := ⟨w.heap.size, o, none⟩) (by (try simp only [World.size_alloc, World.size_setCell, World.size_drew, size_drewN]); omega))); (try (have zw1_1 : w.heap.size + 1 < w1.heap.size := (by omega))); (try (have cw1_1 := fun o => hb.cell (p := ⟨w.heap.size + 1, o, none⟩) (by (try simp only [World.size_alloc, World.size_setCell, World.size_drew, size_drewN]); omega))); (try (have fw1_1 := fun o => hb.frozen (p := ⟨w.heap.size + 1, o, none⟩) (by (try simp only [World.size_alloc, World.size_setCell, World.size_drew, size_drewN]); omega))); (try (have zw1_2 : w.heap.size + 1 + 1 < w1.heap.size := (by omega))); (try (have cw1_2 := fun o => hb.cell (p := ⟨w.heap.size + 1 + 1, o, none⟩) (by (try simp only [World.size_alloc, World.size_setCell, World.size_drew, size_drewN]); omega))); (try (have fw1_2 := fun o => hb.frozen (p := ⟨w.heap.size + 1 + 1, o, none⟩) (by (try simp only [World.size_alloc, World.size_setCell, World.size_drew, size_drewN]); omega)))) | (go_at_call 21; refine (in_any _ _ _ _).mono ?_; rintro e w1 ⟨rfl, rfl⟩))
        all_goals
          ((try simp only [Exit.inBlock, Exit.then]); go_light; refine bodyPost_ret (by simp [results, Try.results16, go_sem, *]; try rfl) rfl ?_)
          refine ⟨?_, ?_⟩
          · simp_all [twoR, nov, logicR]
          · (repeat' (first | (with_reducible exact Below.refl _ _) | (with_reducible assumption) | (with_reducible refine Below.alloc ?_ ?_ _) | (with_reducible refine Below.drew ?_) | (with_reducible refine below_drewN ?_) | (with_reducible refine Below.setCell ?_ ?_ _) | (with_reducible refine below_step ?_ ?_ (by with_reducible assumption)) | go_size))
      · go_enter Try.func16, Try.ntmps16
        go_wp2_with (first | (go_at_call 26; refine (bothFault_any _ _ _ _ _ _ _ (by assumption) (by assumption)).mono ?_; rintro e w1 ⟨rfl, hb⟩; have hz := hb.size; (try simp only [World.size_alloc, World.size_setCell, World.size_drew, size_drewN] at hz); (try (have zw1_0 : w.heap.size < w1.heap.size := (by omega))); (try (have cw1_0 := fun o => hb.cell (p := ⟨w.heap.size, o, none⟩) (by (try simp only [World.size_alloc, World.size_setCell, World.size_drew, size_drewN]); omega))); (try (have fw1_0 := fun o => hb.frozen (p := ⟨w.heap.size, o, none⟩) (by (try simp only [World.size_alloc, World.size_setCell, World.size_drew, size_drewN]); omega))); (try (have zw1_1 : w.heap.size + 1 < w1.heap.size := (by omega))); (try (have cw1_1 := fun o => hb.cell (p := ⟨w.heap.size + 1, o, none⟩) (by (try simp only [World.size_alloc, World.size_setCell, World.size_drew, size_drewN]); omega))); (try (have fw1_1 := fun o => hb.frozen (p := ⟨w.heap.size + 1, o, none⟩) (by (try simp only [World.size_alloc, World.size_setCell, World.size_drew, size_drewN]); omega))); (try (have zw1_2 : w.heap.size + 1 + 1 < w1.heap.size := (by omega))); (try (have cw1_2 := fun o => hb.cell (p := ⟨w.heap.size + 1 + 1, o, none⟩) (by (try simp only [World.size_alloc, World.size_setCell, World.size_drew, size_drewN]); omega))); (try (have fw1_2 := fun o => hb.frozen (p := ⟨w.heap.size + 1 + 1, o, none⟩) (by (try simp only [World.size_alloc, World.size_setCell, World.size_drew, size_drewN]); omega)))) | (go_at_call 21; refine (in_any _ _ _ _).mono ?_; rintro e w1 ⟨rfl, rfl⟩))
        all_goals
          ((try simp only [Exit.inBlock, Exit.then]); go_light; refine bodyPost_ret (by simp [results, Try.results16, go_sem, *]; try rfl) rfl ?_)
          refine ⟨?_, ?_⟩
          · simp_all [twoR, nov, logicR]
          · (repeat' (first | (with_reducible exact Below.refl _ _) | (with_reducible assumption) | (with_reducible refine Below.alloc ?_ ?_ _) | (with_reducible refine Below.drew ?_) | (with_reducible refine below_drewN ?_) | (with_reducible refine Below.setCell ?_ ?_ _) | (with_reducible refine below_step ?_ ?_ (by with_reducible assumption)) | go_size))
  · have hvb : (vboth k n s k' n' s' != 0) = false := by simp [hv]
    have h0 : k ≠ 0 := fun h => hk (.inl h)
    have h1 : k ≠ 1 := fun h => hk (.inr h)
    have e1 : (k != 0) = true := by simp [h0]
    have e2 : (k != 1) = true := by simp [h1]
    have e3 : (k == 0) = false := by simp [h0]
    clear v1 v2 hk
    go_enter Try.func16, Try.ntmps16
    go_wp2_with (first | (go_at_call 26; refine (bothFault_any _ _ _ _ _ _ _ (by assumption) (by assumption)).mono ?_; rintro e w1 ⟨rfl, hb⟩; have hz := hb.size; (try simp only [World.size_alloc, World.size_setCell, World.size_drew, size_drewN] at hz); (try (have zw1_0 : w.heap.size < w1.heap.size := (by omega))); (try (have cw1_0 := fun o => hb.cell (p := ⟨w.heap.size, o, none⟩) (by (try simp only [World.size_alloc, World.size_setCell, World.size_drew, size_drewN]); omega))); (try (have fw1_0 := fun o => hb.frozen (p := ⟨w.heap.size, o, none⟩) (by (try simp only [World.size_alloc, World.size_setCell, World.size_drew, size_drewN]); omega))); (try (have zw1_1 : w.heap.size + 1 < w1.heap.size := (by omega))); (try (have cw1_1 := fun o => hb.cell (p := ⟨w.heap.size + 1, o, none⟩) (by (try simp only [World.size_alloc, World.size_setCell, World.size_drew, size_drewN]); omega))); (try (have fw1_1 := fun o => hb.frozen (p := ⟨w.heap.size + 1, o, none⟩) (by (try simp only [World.size_alloc, World.size_setCell, World.size_drew, size_drewN]); omega))); (try (have zw1_2 : w.heap.size + 1 + 1 < w1.heap.size := (by omega))); (try (have cw1_2 := fun o => hb.cell (p := ⟨w.heap.size + 1 + 1, o, none⟩) (by (try simp only [World.size_alloc, World.size_setCell, World.size_drew, size_drewN]); omega))); (try (have fw1_2 := fun o => hb.frozen (p := ⟨w.heap.size + 1 + 1, o, none⟩) (by (try simp only [World.size_alloc, World.size_setCell, World.size_drew, size_drewN]); omega)))) | (go_at_call 21; refine (in_any _ _ _ _).mono ?_; rintro e w1 ⟨rfl, rfl⟩))
    all_goals
      ((try simp only [Exit.inBlock, Exit.then]); go_light; refine bodyPost_ret (by simp [results, Try.results16, go_sem, *]; try rfl) rfl ?_)
      refine ⟨?_, ?_⟩
      · simp_all [twoR, nov, logicR]
      · (repeat' (first | (with_reducible exact Below.refl _ _) | (with_reducible assumption) | (with_reducible refine Below.alloc ?_ ?_ _) | (with_reducible refine Below.drew ?_) | (with_reducible refine below_drewN ?_) | (with_reducible refine Below.setCell ?_ ?_ _) | (with_reducible refine below_step ?_ ?_ (by with_reducible assumption)) | go_size))
set_option maxHeartbeats 4000000 in
theorem TwoOf4 (k n : Int) (s : ByteArray) (k' n' : Int) (s' : ByteArray) (w : World) (hs : s.size ≤ maxLen) (hs' : s'.size ≤ maxLen)
    (ha : -9223372036854775808 ≤ n) (ha' : n ≤ 9223372036854775807) (hb : -9223372036854775808 ≤ n') (hb' : n' ≤ 9223372036854775807) (hv : vboth k n s k' n' s' = 0) :
    Calls Try.prog 16 #[.int .i64 4, .agg #[.int .i64 k, .int .i64 n, .string s], .agg #[.int .i64 k', .int .i64 n', .string s']] w fun e w' =>
      e = .returned (.tuple #[.agg #[.int .i64 (twoR 4 k n s k' n' s').1.1, .int .i64 (twoR 4 k n s k' n' s').1.2.1, .string (twoR 4 k n s k' n' s').1.2.2], .int .i64 (twoR 4 k n s k' n' s').2]) ∧ Below w.heap.size w w' := by
  obtain ⟨v1, v2⟩ := vboth_ok hv
  by_cases hk : k = 0 ∨ k = 1
  · obtain ⟨rfl, hc⟩ := truth_cases v1 hk
    by_cases hk' : k' = 0 ∨ k' = 1
    · obtain ⟨rfl, hc'⟩ := truth_cases v2 hk'
      refine (TwoOf4c k n k' n' w hv hc hc').mono ?_
      rintro e w' ⟨rfl, hb⟩
      refine ⟨?_, hb⟩
      simp [twoR, hv]
    · have hvb : (vboth k n ⟨#[]⟩ k' n' s' != 0) = false := by simp [hv]
      have h0 : k' ≠ 0 := fun h => hk' (.inl h)
      have h1 : k' ≠ 1 := fun h => hk' (.inr h)
      have e1 : (k' != 0) = true := by simp [h0]
      have e2 : (k' != 1) = true := by simp [h1]
      have e3 : (k' == 0) = false := by simp [h0]
      clear v1 v2 hc hk'
      rcases hk with rfl | rfl
      · go_enter Try.func16, Try.ntmps16
        go_wp2_with (first | (go_at_call 26; refine (bothFault_any _ _ _ _ _ _ _ (by assumption) (by assumption)).mono ?_; rintro e w1 ⟨rfl, hb⟩; have hz := hb.size; (try simp only [World.size_alloc, World.size_setCell, World.size_drew, size_drewN] at hz); (try (have zw1_0 : w.heap.size < w1.heap.size := (by omega))); (try (have cw1_0 := fun o => hb.cell (p := ⟨w.heap.size, o, none⟩) (by (try simp only [World.size_alloc, World.size_setCell, World.size_drew, size_drewN]); omega))); (try (have fw1_0 := fun o => hb.frozen (p := ⟨w.heap.size, o, none⟩) (by (try simp only [World.size_alloc, World.size_setCell, World.size_drew, size_drewN]); omega))); (try (have zw1_1 : w.heap.size + 1 < w1.heap.size := (by omega))); (try (have cw1_1 := fun o => hb.cell (p := ⟨w.heap.size + 1, o, none⟩) (by (try simp only [World.size_alloc, World.size_setCell, World.size_drew, size_drewN]); omega))); (try (have fw1_1 := fun o => hb.frozen (p := ⟨w.heap.size + 1, o, none⟩) (by (try simp only [World.size_alloc, World.size_setCell, World.size_drew, size_drewN]); omega))); (try (have zw1_2 : w.heap.size + 1 + 1 < w1.heap.size := (by omega))); (try (have cw1_2 := fun o => hb.cell (p := ⟨w.heap.size + 1 + 1, o, none⟩) (by (try simp only [World.size_alloc, World.size_setCell, World.size_drew, size_drewN]); omega))); (try (have fw1_2 := fun o => hb.frozen (p := ⟨w.heap.size + 1 + 1, o, none⟩) (by (try simp only [World.size_alloc, World.size_setCell, World.size_drew, size_drewN]); omega)))) | (go_at_call 21; refine (in_any _ _ _ _).mono ?_; rintro e w1 ⟨rfl, rfl⟩))
        all_goals
          ((try simp only [Exit.inBlock, Exit.then]); go_light; refine bodyPost_ret (by simp [results, Try.results16, go_sem, *]; try rfl) rfl ?_)
          refine ⟨?_, ?_⟩
          · simp_all [twoR, nov, logicR]
          · (repeat' (first | (with_reducible exact Below.refl _ _) | (with_reducible assumption) | (with_reducible refine Below.alloc ?_ ?_ _) | (with_reducible refine Below.drew ?_) | (with_reducible refine below_drewN ?_) | (with_reducible refine Below.setCell ?_ ?_ _) | (with_reducible refine below_step ?_ ?_ (by with_reducible assumption)) | go_size))
      · go_enter Try.func16, Try.ntmps16
        go_wp2_with (first | (go_at_call 26; refine (bothFault_any _ _ _ _ _ _ _ (by assumption) (by assumption)).mono ?_; rintro e w1 ⟨rfl, hb⟩; have hz := hb.size; (try simp only [World.size_alloc, World.size_setCell, World.size_drew, size_drewN] at hz); (try (have zw1_0 : w.heap.size < w1.heap.size := (by omega))); (try (have cw1_0 := fun o => hb.cell (p := ⟨w.heap.size, o, none⟩) (by (try simp only [World.size_alloc, World.size_setCell, World.size_drew, size_drewN]); omega))); (try (have fw1_0 := fun o => hb.frozen (p := ⟨w.heap.size, o, none⟩) (by (try simp only [World.size_alloc, World.size_setCell, World.size_drew, size_drewN]); omega))); (try (have zw1_1 : w.heap.size + 1 < w1.heap.size := (by omega))); (try (have cw1_1 := fun o => hb.cell (p := ⟨w.heap.size + 1, o, none⟩) (by (try simp only [World.size_alloc, World.size_setCell, World.size_drew, size_drewN]); omega))); (try (have fw1_1 := fun o => hb.frozen (p := ⟨w.heap.size + 1, o, none⟩) (by (try simp only [World.size_alloc, World.size_setCell, World.size_drew, size_drewN]); omega))); (try (have zw1_2 : w.heap.size + 1 + 1 < w1.heap.size := (by omega))); (try (have cw1_2 := fun o => hb.cell (p := ⟨w.heap.size + 1 + 1, o, none⟩) (by (try simp only [World.size_alloc, World.size_setCell, World.size_drew, size_drewN]); omega))); (try (have fw1_2 := fun o => hb.frozen (p := ⟨w.heap.size + 1 + 1, o, none⟩) (by (try simp only [World.size_alloc, World.size_setCell, World.size_drew, size_drewN]); omega)))) | (go_at_call 21; refine (in_any _ _ _ _).mono ?_; rintro e w1 ⟨rfl, rfl⟩))
        all_goals
          ((try simp only [Exit.inBlock, Exit.then]); go_light; refine bodyPost_ret (by simp [results, Try.results16, go_sem, *]; try rfl) rfl ?_)
          refine ⟨?_, ?_⟩
          · simp_all [twoR, nov, logicR]
          · (repeat' (first | (with_reducible exact Below.refl _ _) | (with_reducible assumption) | (with_reducible refine Below.alloc ?_ ?_ _) | (with_reducible refine Below.drew ?_) | (with_reducible refine below_drewN ?_) | (with_reducible refine Below.setCell ?_ ?_ _) | (with_reducible refine below_step ?_ ?_ (by with_reducible assumption)) | go_size))
  · have hvb : (vboth k n s k' n' s' != 0) = false := by simp [hv]
    have h0 : k ≠ 0 := fun h => hk (.inl h)
    have h1 : k ≠ 1 := fun h => hk (.inr h)
    have e1 : (k != 0) = true := by simp [h0]
    have e2 : (k != 1) = true := by simp [h1]
    have e3 : (k == 0) = false := by simp [h0]
    clear v1 v2 hk
    go_enter Try.func16, Try.ntmps16
    go_wp2_with (first | (go_at_call 26; refine (bothFault_any _ _ _ _ _ _ _ (by assumption) (by assumption)).mono ?_; rintro e w1 ⟨rfl, hb⟩; have hz := hb.size; (try simp only [World.size_alloc, World.size_setCell, World.size_drew, size_drewN] at hz); (try (have zw1_0 : w.heap.size < w1.heap.size := (by omega))); (try (have cw1_0 := fun o => hb.cell (p := ⟨w.heap.size, o, none⟩) (by (try simp only [World.size_alloc, World.size_setCell, World.size_drew, size_drewN]); omega))); (try (have fw1_0 := fun o => hb.frozen (p := ⟨w.heap.size, o, none⟩) (by (try simp only [World.size_alloc, World.size_setCell, World.size_drew, size_drewN]); omega))); (try (have zw1_1 : w.heap.size + 1 < w1.heap.size := (by omega))); (try (have cw1_1 := fun o => hb.cell (p := ⟨w.heap.size + 1, o, none⟩) (by (try simp only [World.size_alloc, World.size_setCell, World.size_drew, size_drewN]); omega))); (try (have fw1_1 := fun o => hb.frozen (p := ⟨w.heap.size + 1, o, none⟩) (by (try simp only [World.size_alloc, World.size_setCell, World.size_drew, size_drewN]); omega))); (try (have zw1_2 : w.heap.size + 1 + 1 < w1.heap.size := (by omega))); (try (have cw1_2 := fun o => hb.cell (p := ⟨w.heap.size + 1 + 1, o, none⟩) (by (try simp only [World.size_alloc, World.size_setCell, World.size_drew, size_drewN]); omega))); (try (have fw1_2 := fun o => hb.frozen (p := ⟨w.heap.size + 1 + 1, o, none⟩) (by (try simp only [World.size_alloc, World.size_setCell, World.size_drew, size_drewN]); omega)))) | (go_at_call 21; refine (in_any _ _ _ _).mono ?_; rintro e w1 ⟨rfl, rfl⟩))
    all_goals
      ((try simp only [Exit.inBlock, Exit.then]); go_light; refine bodyPost_ret (by simp [results, Try.results16, go_sem, *]; try rfl) rfl ?_)
      refine ⟨?_, ?_⟩
      · simp_all [twoR, nov, logicR]
      · (repeat' (first | (with_reducible exact Below.refl _ _) | (with_reducible assumption) | (with_reducible refine Below.alloc ?_ ?_ _) | (with_reducible refine Below.drew ?_) | (with_reducible refine below_drewN ?_) | (with_reducible refine Below.setCell ?_ ?_ _) | (with_reducible refine below_step ?_ ?_ (by with_reducible assumption)) | go_size))
end Go.Proofs.Ytbedhaagngomgaa
