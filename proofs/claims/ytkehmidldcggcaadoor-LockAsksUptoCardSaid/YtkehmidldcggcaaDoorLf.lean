/- sameLocks of equal lists; the reference's modeOf, against, aheadOf, waitsFor. -/
import Derived.Test.YtkehmidldcggcaaDoorLe
set_option linter.unusedSimpArgs false
set_option linter.unusedVariables false
namespace Go.Proofs.YtkehmidldcggcaaDoor
open Go.RowKit Go.Joins
/-- Cells of an element, read in a later world. -/
theorem SlAt.at {w : World} {a : Option Addr} {l : List LK} (h : LksAt w a l) {j : Nat} {x : LK} (hj : l[j]? = some x) : ∃ b o, a = some ⟨b, o, none⟩ ∧ b < w.heap.size ∧ w.cell? ⟨b, o + j * 3, none⟩ = some (.int .i64 x.t) ∧ w.cell? ⟨b, o + j * 3 + 1, none⟩ = some (.string x.s) ∧ w.cell? ⟨b, o + j * 3 + 2, none⟩ = some (.int .i64 x.m) := by
  rcases h with rfl | ⟨b, o, rfl, hb, hc⟩
  · simp at hj
  · exact ⟨b, o, rfl, hb, lk_cells hc hj⟩
theorem cell_drewN (w : World) (n : Nat) (a : Addr) : (w.drewN n).cell? a = w.cell? a := rfl
theorem drewN_drewN (w : World) (n m : Nat) : (w.drewN n).drewN m = w.drewN (n + m) := by simp [World.drewN, Nat.add_assoc]
set_option maxRecDepth 100000 in
set_option maxHeartbeats 2000000 in
theorem sameLocks_any (a1 a2 b1 b2 : Option Addr) (l1 l2 : List LK) (p1 p2 d1 d2 : Nat) (w : World) (h1 : LksAt w a1 l1) (h2 : LksAt w a2 l2) (h3 : LksAt w b1 l1) (h4 : LksAt w b2 l2) (n1 : l1.length ≤ 1048576) (n2 : l2.length ≤ 1048576) :
    Calls Tryd.prog 17 #[.agg #[.slice a1 l1.length p1, .slice a2 l2.length p2], .agg #[.slice b1 l1.length d1, .slice b2 l2.length d2]] w fun e w' => e = .returned (.bool true) ∧ Below w.heap.size w w' := by
  have bel := Joins.below_alloc2 w (.cells #[.slice a1 l1.length p1, .slice a2 l2.length p2] 30) (.cells #[.slice b1 l1.length d1, .slice b2 l2.length d2] 30)
  have k0 : ((w.alloc (.cells #[.slice a1 l1.length p1, .slice a2 l2.length p2] 30)).alloc (.cells #[.slice b1 l1.length d1, .slice b2 l2.length d2] 30)).cell? ⟨w.heap.size, 0, none⟩ = some (.slice a1 l1.length p1) := by simp
  have k1 : ((w.alloc (.cells #[.slice a1 l1.length p1, .slice a2 l2.length p2] 30)).alloc (.cells #[.slice b1 l1.length d1, .slice b2 l2.length d2] 30)).cell? ⟨w.heap.size, 1, none⟩ = some (.slice a2 l2.length p2) := by simp
  have k2 : ((w.alloc (.cells #[.slice a1 l1.length p1, .slice a2 l2.length p2] 30)).alloc (.cells #[.slice b1 l1.length d1, .slice b2 l2.length d2] 30)).cell? ⟨w.heap.size + 1, 0, none⟩ = some (.slice b1 l1.length d1) := by simp
  have k3 : ((w.alloc (.cells #[.slice a1 l1.length p1, .slice a2 l2.length p2] 30)).alloc (.cells #[.slice b1 l1.length d1, .slice b2 l2.length d2] 30)).cell? ⟨w.heap.size + 1, 1, none⟩ = some (.slice b2 l2.length d2) := by simp
  have K := And.intro bel (And.intro k0 (And.intro k1 (And.intro k2 k3)))
  have H1 := Lib.hid (h1.below bel (Nat.le_refl _))
  have H2 := Lib.hid (h2.below bel (Nat.le_refl _))
  have H3 := Lib.hid (h3.below bel (Nat.le_refl _))
  have H4 := Lib.hid (h4.below bel (Nat.le_refl _))
  have KK := Lib.hid K
  clear h1 h2 h3 h4 bel k0 k1 k2 k3 K
  go_enter Tryd.func17, Tryd.ntmps17
  go_wp2
  generalize hW : ((w.alloc (.cells #[.slice a1 l1.length p1, .slice a2 l2.length p2] 30)).alloc (.cells #[.slice b1 l1.length d1, .slice b2 l2.length d2] 30)) = W at H1 H2 H3 H4 KK ⊢
  obtain ⟨bel, k0, k1, k2, k3⟩ := KK.out
  have BEL := Lib.hid bel
  clear bel hW KK
  go_loopw [5] (fun i wr => ∃ k n : Nat, k ≤ l1.length ∧ i = .int .i64 k ∧ wr = W.drewN n) (fun i _ => l1.length - (intOf i).toNat)
  case atStart => exact ⟨0, _, by omega, rfl, (World.drewN_zero W).symm⟩
  case round =>
    obtain ⟨k, n, hk, rfl, rfl⟩ := hrel
    by_cases hlt : k < l1.length
    · obtain ⟨x, hx⟩ : ∃ x, l1[k]? = some x := ⟨l1[k], by simp [hlt]⟩
      obtain ⟨b, o, rfl, hb, q0, q1, q2⟩ := H1.out.at hx
      obtain ⟨b', o', rfl, hb', q3, q4, q5⟩ := H3.out.at hx
      obtain ⟨xt, xs, xm⟩ := x
      simp only at q0 q1 q2 q3 q4 q5
      have i1 : (0 : Int) ≤ (k : Int) := by omega
      have i2 : (k : Int) < (l1.length : Int) := by omega
      go_wp2
      go_quiet (fail)
      go_wp2
      go_roundw
      case rel => exact ⟨k + 1, _, by omega, by go_num, rfl⟩
      case measure => simp [intOf]; omega
    · obtain rfl : k = l1.length := by omega
      go_wp2
      go_loopw [6] (fun i wr => ∃ k n : Nat, k ≤ l2.length ∧ i = .int .i64 k ∧ wr = W.drewN n) (fun i _ => l2.length - (intOf i).toNat)
      case atStart => exact ⟨0, _, by omega, rfl, rfl⟩
      case round =>
        obtain ⟨k, n, hk, rfl, rfl⟩ := hrel
        by_cases hlt : k < l2.length
        · obtain ⟨x, hx⟩ : ∃ x, l2[k]? = some x := ⟨l2[k], by simp [hlt]⟩
          obtain ⟨b, o, rfl, hb, q0, q1, q2⟩ := H2.out.at hx
          obtain ⟨b', o', rfl, hb', q3, q4, q5⟩ := H4.out.at hx
          obtain ⟨xt, xs, xm⟩ := x
          simp only at q0 q1 q2 q3 q4 q5
          have i1 : (0 : Int) ≤ (k : Int) := by omega
          have i2 : (k : Int) < (l2.length : Int) := by omega
          go_wp2
          go_quiet (fail)
          go_wp2
          go_roundw
          case rel => exact ⟨k + 1, _, by omega, by go_num, rfl⟩
          case measure => simp [intOf]; omega
        · obtain rfl : k = l2.length := by omega
          go_wp2
          go_ret
          exact ⟨rfl, below_drewN BEL.out⟩
end Go.Proofs.YtkehmidldcggcaaDoor
