/- Ops copied, ops compared; the law ParseExpressions walked. -/
import Derived.Test.YtegakpedpadhkaaDoorXg
import Derived.Laws.AppendOwnNone
import Derived.Laws.OwnMore
set_option linter.unusedSimpArgs false
set_option linter.unusedVariables false
namespace Go.Proofs.YtegakpedpadhkaaDoor
open Go.RowKit
theorem infoOp : (Tryd.prog.info? 65).map (fun i => (i.zero, i.size, i.bytes)) = some (some (.agg #[.int .i64 0, .int .i64 0, .int .i64 0, .string ⟨#[]⟩, .string ⟨#[]⟩]), 5, 56) := by kernel_rfl
def flatO (l : List OP) : List Value := l.flatMap OP.cells
theorem flatO_len : ∀ l : List OP, (flatO l).length = l.length * 5
  | [] => rfl
  | x :: r => by show (OP.cells x ++ flatO r).length = _; rw [List.length_append, flatO_len r]; simp [OP.cells]; omega
theorem flatO_at : ∀ (l : List OP) (j : Nat) (x : OP), l[j]? = some x → ∀ i v, (OP.cells x)[i]? = some v → (flatO l)[j * 5 + i]? = some v
  | [], j, x, h, _, _, _ => by simp at h
  | y :: r, 0, x, h, i, v, hi => by
    simp at h; subst h
    have hl : i < 5 := by
      have := (List.getElem?_eq_some_iff.1 hi).1
      simpa [OP.cells] using this
    show (OP.cells y ++ flatO r)[0 * 5 + i]? = _
    rw [List.getElem?_append_left (by simp [OP.cells]; omega)]
    simpa using hi
  | y :: r, j + 1, x, h, i, v, hi => by
    show (OP.cells y ++ flatO r)[(j + 1) * 5 + i]? = _
    rw [List.getElem?_append_right (by simp [OP.cells]; omega)]
    have := flatO_at r j x (by simpa using h) i v hi
    have e : (j + 1) * 5 + i - (OP.cells y).length = j * 5 + i := by simp [OP.cells]; omega
    rw [e]; exact this
theorem flatO_get : ∀ (l : List OP) (j : Nat) (u : Value), (flatO l)[j]? = some u → ∃ q x i, l[q]? = some x ∧ (OP.cells x)[i]? = some u ∧ j = q * 5 + i
  | [], j, u, h => by simp [flatO] at h
  | x :: r, 0, u, h => ⟨0, x, 0, rfl, h, rfl⟩
  | x :: r, 1, u, h => ⟨0, x, 1, rfl, h, rfl⟩
  | x :: r, 2, u, h => ⟨0, x, 2, rfl, h, rfl⟩
  | x :: r, 3, u, h => ⟨0, x, 3, rfl, h, rfl⟩
  | x :: r, 4, u, h => ⟨0, x, 4, rfl, h, rfl⟩
  | x :: r, j + 5, u, h => by
    obtain ⟨q, y, i, h1, h2, h3⟩ := flatO_get r j u h
    exact ⟨q + 1, y, i, h1, h2, by omega⟩
theorem flatO_one (l : List OP) : ∀ u ∈ flatO l, u.oneCell' = true := by
  intro u hu
  obtain ⟨x, _, hx⟩ := List.mem_flatMap.1 hu
  simp [OP.cells] at hx
  rcases hx with rfl | rfl | rfl | rfl | rfl <;> rfl
/-- A slice of the call's own reads as the list. -/
theorem ops_of_owns {w : World} {base n : Nat} {v : Value} {l : List OP} (h : w.ownsRow base 65 5 v n (flatO l)) : n = l.length ∧ ∃ a cap, v = .slice a l.length cap ∧ OpsAt w a l := by
  have hn : n = l.length := by have := h.1; rw [flatO_len] at this; omega
  subst hn
  refine ⟨rfl, ?_⟩
  rcases h.2 with ⟨rfl, hz⟩ | ⟨g, cap, cur, rfl, hg, hh, hc, _, hs, ht⟩
  · have : l = [] := List.length_eq_zero_iff.1 hz
    subst this
    exact ⟨none, 0, rfl, .inl rfl⟩
  · refine ⟨_, _, rfl, .inr ⟨g, 0, rfl, (Array.getElem?_eq_some_iff.1 hh).1, fun j x hj i v hi => ?_⟩⟩
    have h3 := flatO_at l j x hj i v hi
    have hj' := (List.getElem?_eq_some_iff.1 hj).1
    have hi' : i < 5 := by simpa [OP.cells] using (List.getElem?_eq_some_iff.1 hi).1
    rw [← ht] at h3
    rw [List.getElem?_take_of_lt (by omega), Array.getElem?_toList] at h3
    rw [Joins.cell_of_block hh, Nat.zero_add, h3]
theorem ops_any (a : Option Addr) (l : List OP) (cap : Nat) (w : World) (hl : OpsAt w a l) (hz : a = none → cap = 0) (hn : l.length ≤ 1048576) :
    Calls Tryd.prog 15 #[.slice a l.length cap] w fun e w' => (∃ b d, e = .returned (.slice b l.length d) ∧ OpsAt w' b l) ∧ Below w.heap.size w w' := by
  obtain ⟨i0, hi0, hz0, hz1, hz2⟩ := info_parts infoOp
  cases a with
  | none =>
    obtain rfl := hz rfl
    have : l = [] := by
      rcases hl with h | ⟨b, o, h, _⟩
      · exact h
      · cases h
    subst this
    go_enter Tryd.func15, Tryd.ntmps15
    go_wp2_with (at_builtin; refine wpList_append_own_none rfl (.const (.slice none 0 0)) (.tmp 3) 29 rfl w.heap.size 65 i0 5 Tryd.underlying29 hi0 (.slice none 0 0) 0 [] rfl (World.ownsRow_nil _ _ _ _) rfl ?_)
    go_ret
    refine ⟨?_, Below.refl _ _⟩
    first | exact ⟨none, 0, rfl, .inl rfl⟩ | exact ⟨none, ⟨0, rfl⟩, .inl rfl⟩
  | some ad =>
    have HN : Hid (∀ j u, (flatO l)[j]? = some u → w.cell? (ad.add j) = some u) := by
      rcases hl with rfl | ⟨b, o, h, hb, hc⟩
      · intro j u h; simp [flatO] at h
      · obtain rfl : ad = ⟨b, o, none⟩ := by simpa using h
        intro j u hj
        obtain ⟨q, x, i, h1, h2, rfl⟩ := flatO_get l j u hj
        rw [add_none _ _ rfl]
        have := hc q x h1 i u h2
        rwa [Nat.add_assoc] at this
    clear hl
    go_enter Tryd.func15, Tryd.ntmps15
    go_wp2_with (at_builtin; refine wpList_append_own _ rfl (.const (.slice none 0 0)) (.tmp 3) 29 rfl w.heap.size 65 i0 _ 5 56 Tryd.underlying29 hi0 hz0 hz1 hz2 rfl (by decide) (.slice none 0 0) 0 [] rfl (World.ownsRow_nil _ _ _ _) ad l.length cap (flatO l) rfl (flatO_len l) HN.out (flatO_one l) ?m1 ?m2 (Nat.le_refl _) ?_)
    case m1 => unfold maxLen; omega
    case m2 => omega
    intro v' w' own grow _
    have O := Lib.hid own
    have G := Lib.hid grow
    clear own grow
    go_wp2
    go_ret
    obtain ⟨-, b, d, rfl, h⟩ := ops_of_owns (by simpa using O.out)
    exact ⟨⟨b, d, rfl, h⟩, (Below.refl _ _).grown G.out (Nat.le_refl _) (fun k hk => by simp [Value.ownBlock] at hk)⟩
set_option maxRecDepth 100000 in
set_option maxHeartbeats 1000000 in
theorem sameOps_any (a b : Option Addr) (l : List OP) (p d : Nat) (w : World) (h1 : OpsAt w a l) (h2 : OpsAt w b l) (n1 : l.length ≤ 1048576) :
    Calls Tryd.prog 18 #[.slice a l.length p, .slice b l.length d] w fun e w' => e = .returned (.bool true) ∧ Below w.heap.size w w' := by
  have H1 := Lib.hid h1
  have H2 := Lib.hid h2
  clear h1 h2
  go_enter Tryd.func18, Tryd.ntmps18
  go_wp2
  go_loopw [5] (fun i wr => ∃ k n : Nat, k ≤ l.length ∧ i = .int .i64 k ∧ wr = w.drewN n) (fun i _ => l.length - (intOf i).toNat)
  case atStart => exact ⟨0, 0, by omega, rfl, (World.drewN_zero w).symm⟩
  case round =>
    obtain ⟨k, n, hk, rfl, rfl⟩ := hrel
    by_cases hlt : k < l.length
    · obtain ⟨x, hx⟩ : ∃ x, l[k]? = some x := ⟨l[k], by simp [hlt]⟩
      obtain ⟨b1, o1, rfl, hb1, c0, c1, c2, c3, c4⟩ := H1.out.at hx
      obtain ⟨b2, o2, rfl, hb2, d0, d1, d2, d3, d4⟩ := H2.out.at hx
      obtain ⟨ok, vk, vn, vs, nm⟩ := x
      simp only at c0 c1 c2 c3 c4 d0 d1 d2 d3 d4
      have i1 : (0 : Int) ≤ (k : Int) := by omega
      have i2 : (k : Int) < (l.length : Int) := by omega
      clear hx
      go_wp2
      go_quiet (fail)
      go_wp2
      go_roundw
      case rel => exact ⟨k + 1, _, by omega, by go_num, rfl⟩
      case measure => simp [intOf]; omega
    · obtain rfl : k = l.length := by omega
      go_wp2
      go_ret
      exact ⟨rfl, below_drewN (Below.refl _ _)⟩
set_option maxRecDepth 100000 in
set_option maxHeartbeats 1000000 in
theorem law_expressions (a : Option Addr) (l : List OP) (cap : Nat) (w : World) (hl : OpsAt w a l) (hz : a = none → cap = 0) (hn : l.length ≤ 1048576) (hs : ∀ x ∈ l, x.vs.size ≤ maxLen ∧ x.nm.size ≤ maxLen) (hM : StrsAt w 0 marksS) (hg : 0 < w.heap.size) (hW : StrsAt w 1 wordsS) (hv : 1 < w.heap.size) :
    Calls Tryd.prog 5 #[.slice a l.length cap] w fun e w' => e = .returned (.bool true) ∧ Below w.heap.size w w' := by
  have HL := Lib.hid hl
  have HS := Lib.hid hs
  have HM := Lib.hid hM
  have HW := Lib.hid hW
  have HO := Lib.hid (ops_any a l cap w hl hz hn)
  clear hl hs hM hW hz
  have HE := Lib.hid (fun (b : Option Addr) d w1 (h : OpsAt w1 b l) (hb : Below w.heap.size w w1) => expression_any b l d w1 h hn HS.out (HM.out.below hb hg) (Nat.lt_of_lt_of_le hg hb.size) (HW.out.below hb hv) (Nat.lt_of_lt_of_le hv hb.size))
  have HF := Lib.hid (fun w1 (hb : Below w.heap.size w w1) => expressionFault_any a l cap w1 (HL.out.below hb (Nat.le_refl _)) hn HS.out)
  go_enter Tryd.func5, Tryd.ntmps5
  go_wp2_with (first
    | (go_at_call 15; refine (HO.out).mono ?_; rintro e w1 ⟨⟨b, d, rfl, hb1'⟩, hb⟩; have hz := hb.size; (try simp only [World.size_alloc, World.size_setCell, World.size_drew, size_drewN] at hz); have HB1 := Lib.hid hb1'; have hb1 := hb; clear hb1')
    | (go_at_call 16; refine (HE.out _ _ _ HB1.out (by (repeat' (first | (with_reducible exact Below.refl _ _) | (with_reducible assumption) | (with_reducible refine Below.alloc ?_ ?_ _) | (with_reducible refine Below.drew ?_) | (with_reducible refine below_drewN ?_) | (with_reducible refine Below.setCell ?_ ?_ _) | (with_reducible refine below_step ?_ ?_ (by with_reducible assumption)) | go_size)))).mono ?_; rintro e w2 ⟨rfl, hb⟩; have hz := hb.size; (try simp only [World.size_alloc, World.size_setCell, World.size_drew, size_drewN] at hz); have hb2 := hb)
    | (go_at_call 17; refine (HF.out _ (by (repeat' (first | (with_reducible exact Below.refl _ _) | (with_reducible assumption) | (with_reducible refine Below.alloc ?_ ?_ _) | (with_reducible refine Below.drew ?_) | (with_reducible refine below_drewN ?_) | (with_reducible refine Below.setCell ?_ ?_ _) | (with_reducible refine below_step ?_ ?_ (by with_reducible assumption)) | go_size)))).mono ?_; rintro e w3 ⟨rfl, hb⟩; have hz := hb.size; (try simp only [World.size_alloc, World.size_setCell, World.size_drew, size_drewN] at hz); have hb3 := hb)
    | (go_at_call 18; refine (sameOps_any _ _ l _ _ _ (HB1.out.below (B := w1.heap.size) (by (repeat' (first | (with_reducible exact Below.refl _ _) | (with_reducible assumption) | (with_reducible refine Below.alloc ?_ ?_ _) | (with_reducible refine Below.drew ?_) | (with_reducible refine below_drewN ?_) | (with_reducible refine Below.setCell ?_ ?_ _) | (with_reducible refine below_step ?_ ?_ (by with_reducible assumption)) | go_size))) (Nat.le_refl _)) (HL.out.below (by (repeat' (first | (with_reducible exact Below.refl _ _) | (with_reducible assumption) | (with_reducible refine Below.alloc ?_ ?_ _) | (with_reducible refine Below.drew ?_) | (with_reducible refine below_drewN ?_) | (with_reducible refine Below.setCell ?_ ?_ _) | (with_reducible refine below_step ?_ ?_ (by with_reducible assumption)) | go_size))) (Nat.le_refl _)) hn).mono ?_; rintro e w4 ⟨rfl, hb⟩; have hz := hb.size; (try simp only [World.size_alloc, World.size_setCell, World.size_drew, size_drewN] at hz)))
  all_goals
    go_ret
    go_light
    exact ⟨rfl, by (repeat' (first | (with_reducible exact Below.refl _ _) | (with_reducible assumption) | (with_reducible refine Below.alloc ?_ ?_ _) | (with_reducible refine Below.drew ?_) | (with_reducible refine below_drewN ?_) | (with_reducible refine Below.setCell ?_ ?_ _) | (with_reducible refine below_step ?_ ?_ (by with_reducible assumption)) | go_size))⟩
end Go.Proofs.YtegakpedpadhkaaDoor
