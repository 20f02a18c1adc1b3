/- The reference's TwoOf whole; both answers are one; the law of Two. -/
import Derived.Test.YtbedhaagngomgaaVn
import Derived.Test.YtbedhaagngomgaaVl
import Derived.Test.YtbedhaagngomgaaVh
set_option linter.unusedSimpArgs false
set_option linter.unusedVariables false
namespace Go.Proofs.Ytbedhaagngomgaa
open Go.RowKit
theorem TwoOf_any (kind k n : Int) (s : ByteArray) (k' n' : Int) (s' : ByteArray) (w : World) (hs : s.size ≤ maxLen) (hs' : s'.size ≤ maxLen)
    (ha : -9223372036854775808 ≤ n) (ha' : n ≤ 9223372036854775807) (hb : -9223372036854775808 ≤ n') (hb' : n' ≤ 9223372036854775807) :
    Calls Try.prog 16 #[.int .i64 kind, .agg #[.int .i64 k, .int .i64 n, .string s], .agg #[.int .i64 k', .int .i64 n', .string s']] w fun e w' =>
      e = .returned (.tuple #[.agg #[.int .i64 (twoR kind k n s k' n' s').1.1, .int .i64 (twoR kind k n s k' n' s').1.2.1, .string (twoR kind k n s k' n' s').1.2.2], .int .i64 (twoR kind k n s k' n' s').2]) ∧ Below w.heap.size w w' := by
  by_cases hv : vboth k n s k' n' s' = 0
  · by_cases h : kind < 3 ∨ 10 < kind ∨ kind = 5
    · exact TwoOf_other kind k n s k' n' s' w hs hs' ha ha' hb hb' hv h
    by_cases h8 : 8 ≤ kind
    · exact TwoOf_ari kind k n s k' n' s' w hs hs' ha ha' hb hb' hv ⟨h8, by omega⟩
    by_cases h6 : kind = 6
    · subst h6; exact TwoOf6 k n s k' n' s' w hs hs' ha ha' hb hb' hv
    by_cases h7 : kind = 7
    · subst h7; exact TwoOf7 k n s k' n' s' w hs hs' ha ha' hb hb' hv
    by_cases h3 : kind = 3
    · subst h3; exact TwoOf3 k n s k' n' s' w hs hs' ha ha' hb hb' hv
    · obtain rfl : kind = 4 := by omega
      exact TwoOf4 k n s k' n' s' w hs hs' ha ha' hb hb' hv
  · exact TwoOf_bad kind k n s k' n' s' w hs hs' ha ha' hb hb' hv
theorem compareBytes_zero (a b : List UInt8) : Lib.compareBytes a b = 0 ↔ a = b := by
  rw [compareBytes_less]
  constructor
  · intro h
    split at h
    · simp at h
    · split at h
      · simp at h
      · exact bytesLess_total a b (by simpa using ‹¬ Op.bytesLess a b = true›) (by simpa using ‹¬ Op.bytesLess b a = true›)
  · rintro rfl
    simp [bytesLess_irrefl]
theorem cmpI_zero (a b : Int) : cmpI a b = 0 ↔ a = b := by
  unfold cmpI
  repeat' split <;> omega
theorem vcmp_zero (k n : Int) (s : ByteArray) (n' : Int) (s' : ByteArray) : vcmp k n s k n' s' = 0 ↔ n = n' ∧ s.toList = s'.toList := by
  unfold vcmp or3
  rw [if_pos ((cmpI_zero k k).2 rfl)]
  by_cases h : cmpI n n' = 0
  · rw [if_pos h, compareBytes_zero, ← ByteArray.toList_eq, ← ByteArray.toList_eq]
    have := (cmpI_zero n n').1 h
    simp [this]
  · rw [if_neg h]
    have : ¬ n = n' := fun e => h ((cmpI_zero n n').2 e)
    simp [this, h]
theorem vcmp_neg {k n : Int} {s : ByteArray} {k' n' : Int} {s' : ByteArray} (hv : vboth k n s k' n' s' = 0) : vcmp k n s k' n' s' < 0 ↔ vahead k n s k' n' s' = true := by
  have h := congrArg (·.1) (cmp_same k n s k' n' s')
  simp only [cmpM, cmpR, if_pos hv] at h
  rw [h]
  split
  · rename_i h; simp [h]
  · rename_i h
    simp only [h]
    split <;> simp
theorem logic_same {k n : Int} {s : ByteArray} {k' n' : Int} {s' : ByteArray} (hv : vboth k n s k' n' s' = 0) (d : Int) (hd : d = 0 ∨ d = 1) : logicM k n s k' n' s' d = logicR k n s k' n' s' d := by
  obtain ⟨v1, v2⟩ := vboth_ok hv
  by_cases hk : k = 0 ∨ k = 1
  · obtain ⟨rfl, hc⟩ := truth_cases v1 hk
    by_cases hk' : k' = 0 ∨ k' = 1
    · obtain ⟨rfl, hc'⟩ := truth_cases v2 hk'
      clear hv v1 v2 hk hk'
      rcases hd with rfl | rfl <;> rcases hc with ⟨rfl, rfl⟩ | ⟨rfl, rfl⟩ | ⟨rfl, rfl⟩ <;> rcases hc' with ⟨rfl, rfl⟩ | ⟨rfl, rfl⟩ | ⟨rfl, rfl⟩ <;> simp [logicM, logicR, isYes, nov]
    · have h0 : k' ≠ 0 := fun h => hk' (.inl h)
      have h1 : k' ≠ 1 := fun h => hk' (.inr h)
      simp [logicM, logicR, h0, h1, nov]
  · have h0 : k ≠ 0 := fun h => hk (.inl h)
    have h1 : k ≠ 1 := fun h => hk (.inr h)
    simp [logicM, logicR, h0, h1, nov]
theorem two_same (kind k n : Int) (s : ByteArray) (k' n' : Int) (s' : ByteArray) : twoM kind k n s k' n' s' = twoR kind k n s k' n' s' := by
  unfold twoM twoR
  by_cases hv : vboth k n s k' n' s' = 0
  · rw [if_pos hv, if_pos hv]
    by_cases h3 : kind = 3
    · rw [if_pos h3, if_pos h3]; exact logic_same hv 0 (.inl rfl)
    rw [if_neg h3, if_neg h3]
    by_cases h4 : kind = 4
    · rw [if_pos h4, if_pos h4]; exact logic_same hv 1 (.inr rfl)
    rw [if_neg h4, if_neg h4]
    by_cases h67 : kind = 6 ∨ kind = 7
    · rw [if_pos h67, if_pos h67]
      unfold eqlM eqlR
      split
      · rfl
      split
      · rename_i hk
        have e1 := vcmp_neg hv
        subst hk
        have e2 := vcmp_zero k n s n' s'
        rcases h67 with rfl | rfl
        · simp [e2]
        · simp [e1]
      · rfl
    · rw [if_neg h67, if_neg h67]
  · rw [if_neg hv, if_neg hv]
theorem law_two (kind k n : Int) (s : ByteArray) (k' n' : Int) (s' : ByteArray) (w : World) (hs : s.size ≤ maxLen) (hs' : s'.size ≤ maxLen)
    (ha : -9223372036854775808 ≤ n) (ha' : n ≤ 9223372036854775807) (hb : -9223372036854775808 ≤ n') (hb' : n' ≤ 9223372036854775807) :
    Calls Try.prog 7 #[.int .i64 kind, .agg #[.int .i64 k, .int .i64 n, .string s], .agg #[.int .i64 k', .int .i64 n', .string s']] w fun e w' => e = .returned (.bool true) ∧ Below w.heap.size w w' := by
  have H2 := TwoOf_any kind k n s k' n' s'
  rw [← two_same] at H2
  have H := Lib.hid H2
  clear H2
  go_enter Try.func7, Try.ntmps7
  go_wp2_with (first | (go_at_call 15; refine (Two_any _ _ _ _ _ _ _ _ (by assumption) (by assumption) (by assumption) (by assumption) (by assumption) (by assumption)).mono ?_; rintro e w1 ⟨rfl, hb⟩; have hz := hb.size; (try simp only [World.size_alloc, World.size_setCell, World.size_drew, size_drewN] at hz); (try (have zw1_0 : w.heap.size < w1.heap.size := (by omega))); (try (have cw1_0 := fun o => hb.cell (p := ⟨w.heap.size, o, none⟩) (by (try simp only [World.size_alloc, World.size_setCell, World.size_drew, size_drewN]); omega))); (try (have fw1_0 := fun o => hb.frozen (p := ⟨w.heap.size, o, none⟩) (by (try simp only [World.size_alloc, World.size_setCell, World.size_drew, size_drewN]); omega))); (try (have zw1_1 : w.heap.size + 1 < w1.heap.size := (by omega))); (try (have cw1_1 := fun o => hb.cell (p := ⟨w.heap.size + 1, o, none⟩) (by (try simp only [World.size_alloc, World.size_setCell, World.size_drew, size_drewN]); omega))); (try (have fw1_1 := fun o => hb.frozen (p := ⟨w.heap.size + 1, o, none⟩) (by (try simp only [World.size_alloc, World.size_setCell, World.size_drew, size_drewN]); omega)))) | (go_at_call 16; refine (H.out _ (by assumption) (by assumption) (by assumption) (by assumption) (by assumption) (by assumption)).mono ?_; rintro e w2 ⟨rfl, hb⟩; have hz := hb.size; (try simp only [World.size_alloc, World.size_setCell, World.size_drew, size_drewN] at hz); (try (have zw2_0 : w.heap.size < w2.heap.size := (by omega))); (try (have cw2_0 := fun o => hb.cell (p := ⟨w.heap.size, o, none⟩) (by (try simp only [World.size_alloc, World.size_setCell, World.size_drew, size_drewN]); omega))); (try (have fw2_0 := fun o => hb.frozen (p := ⟨w.heap.size, o, none⟩) (by (try simp only [World.size_alloc, World.size_setCell, World.size_drew, size_drewN]); omega))); (try (have zw2_1 : w.heap.size + 1 < w2.heap.size := (by omega))); (try (have cw2_1 := fun o => hb.cell (p := ⟨w.heap.size + 1, o, none⟩) (by (try simp only [World.size_alloc, World.size_setCell, World.size_drew, size_drewN]); omega))); (try (have fw2_1 := fun o => hb.frozen (p := ⟨w.heap.size + 1, o, none⟩) (by (try simp only [World.size_alloc, World.size_setCell, World.size_drew, size_drewN]); omega))); (try (have zw2_2 : w1.heap.size < w2.heap.size := (by omega))); (try (have cw2_2 := fun o => hb.cell (p := ⟨w1.heap.size, o, none⟩) (by (try simp only [World.size_alloc, World.size_setCell, World.size_drew, size_drewN]); omega))); (try (have fw2_2 := fun o => hb.frozen (p := ⟨w1.heap.size, o, none⟩) (by (try simp only [World.size_alloc, World.size_setCell, World.size_drew, size_drewN]); omega)))))
  all_goals
    go_ret
    go_light
    refine ⟨?_, ?_⟩
    · rfl
    · (repeat' (first | (with_reducible exact Below.refl _ _) | (with_reducible assumption) | (with_reducible refine Below.alloc ?_ ?_ _) | (with_reducible refine Below.drew ?_) | (with_reducible refine below_drewN ?_) | (with_reducible refine Below.setCell ?_ ?_ _) | (with_reducible refine below_step ?_ ?_ (by with_reducible assumption)) | go_size))
end Go.Proofs.Ytbedhaagngomgaa
