/- Texts of the law ExprBounds, part 4: lemmas; what is proved stands in the last text. -/
import Derived.Test.YtoecmmpjndcolaaGreatDoorZz3
import Derived.Shelf.Strings.Replace
import Derived.Ground.NamesProg
import Derived.Test.YtoecmmpjndcolaaGreatDoorProg
import Derived.Test.YtoecmmpjndcolaaGreatDoorZz1
set_option linter.unusedSimpArgs false
set_option linter.unusedVariables false
/- Bounds: the reference's side. -/
namespace Go.AM
open Go Go.RowKit
open Go.Proofs.YtoecmmpjndcolaaGreatDoor (OP nameM litM exprM exprFrom stepM popsM vcheck)
attribute [local irreducible] AWP retA
def nilV : V := ⟨0, 0, ⟨#[]⟩⟩
def sideA : Option (Int × V) → AV
  | none => .tup [.r (.int .i64 0), .agg (eV nilV), .r (.bool false)]
  | some (w, v) => .tup [.r (.int .i64 w), .agg (eV v), .r (.bool true)]
theorem say_other {key : ByteArray} {nt : Bool} {l : List OP} (h : l.length ≠ 3) : sayM key nt l = none := by
  match l, h with
  | [], _ => rfl
  | [_], _ => rfl
  | [_, _], _ => rfl
  | _ :: _ :: _ :: _ :: _, _ => rfl
set_option maxRecDepth 100000 in
set_option maxHeartbeats 16000000 in
theorem side_short (G : List (Nat × List Value)) (t : Bool) (key : ByteArray) (ops : List OP) (n : Nat) (o : OP) (hn : ops.length = n + 1) (hx : ops[n]? = some o) (hl : n ≤ 1000) (hs : if o.k = 5 then n ≠ 3 else n ≠ 2) :
    Con Go.Proofs.Tryz.prog G 23 [.r (.string key), .ro t 5 (ops.map eO)] [] 0 (Is (sideA (sideM key ops)) [] 0) No := by
  have hgl : ops.getLast? = some o := by rw [List.getLast?_eq_getElem?, hn, Nat.add_sub_cancel, hx]
  have hU : sideM key ops = none := by
    rw [sideM, hgl]
    simp only
    split at hs
    · rename_i h5; rw [if_pos h5, say_other (by rw [List.length_dropLast]; omega)]
    · rename_i h5; rw [if_neg h5, say_other (by omega)]
  rw [hU]
  simp only [sideA, nilV, eV]
  refine con_of_awp Go.Proofs.Tryz.func23 rfl (by kernel_rfl) (of_decide_eq_true (by kernel_rfl)) ?_; intro E hG hE; subst hG; simp only [ent]
  have e1 : (ops.length : Int) - 1 = (n : Nat) := by omega
  by_cases h5 : o.k = 5
  · rw [if_pos h5] at hs
    have hle : (n : Int) ≤ ops.length := by omega
    have htl : (List.take n (List.map eO ops)).length = n := by rw [List.length_take, List.length_map]; omega
    have d1 : ((n : Int) != 3) = true := by simp; omega
    (repeat' (first | refine awp_seq ?_ | refine awp_block ?_ | refine awp_skip ?_ | refine awp_exit ?_ | ((first | refine rR (fun K kp hK hkp => ?_) | refine rD (id := 17) mixed 2 [0,1] (fun K kp hK hkp => ?_) | refine rD (id := 21) mixed 2 [0,1] (fun K kp hK hkp => ?_) | refine rD (id := 22) mixed 2 [0,1] (fun K kp hK hkp => ?_) | refine iG ?_ | refine iD ?_); simp (implicitDefEqProofs := false) (maxSteps := 2000000) (disch := omega) only [go_sem, hx, eO, e1, h5, d1, htl]; (repeat' (first | (refine hK _ ?_; clear hK hkp kp K) | (with_reducible refine And.intro ?_ ?_) | omega))) | ((first | refine aG (fun h => ?_) (fun h => ?_) | refine aD (fun h => ?_) (fun h => ?_) | refine aX (fun h => ?_) (fun h => ?_)) <;> simp only [h]) | refine awp_cond_t rfl ?_ | refine awp_cond_f rfl ?_ | ((refine awp_cond rfl (fun h => ?_) (fun h => ?_) <;> try simp only [ifs] at h) <;> (try (exfalso; omega))) | refine awp_ret ?_))
    (refine retA_is (by (simp (implicitDefEqProofs := false) (maxSteps := 2000000) (disch := omega) only [go_sem, Go.Proofs.Tryz.results23]); rfl) ?_; refine eN hE ?_; simp [oneA, ren, renL])
  · rw [if_neg h5] at hs
    have d1 : ((ops.length : Int) != 3) = true := by simp; omega
    have k5 : (o.k == 5) = false := by simpa using h5
    (repeat' (first | refine awp_seq ?_ | refine awp_block ?_ | refine awp_skip ?_ | refine awp_exit ?_ | ((first | refine rR (fun K kp hK hkp => ?_) | refine rD (id := 17) mixed 2 [0,1] (fun K kp hK hkp => ?_) | refine rD (id := 21) mixed 2 [0,1] (fun K kp hK hkp => ?_) | refine rD (id := 22) mixed 2 [0,1] (fun K kp hK hkp => ?_) | refine iG ?_ | refine iD ?_); simp (implicitDefEqProofs := false) (maxSteps := 2000000) (disch := omega) only [go_sem, hx, eO, e1, k5, d1]; (repeat' (first | (refine hK _ ?_; clear hK hkp kp K) | (with_reducible refine And.intro ?_ ?_) | omega))) | ((first | refine aG (fun h => ?_) (fun h => ?_) | refine aD (fun h => ?_) (fun h => ?_) | refine aX (fun h => ?_) (fun h => ?_)) <;> simp only [h]) | refine awp_cond_t rfl ?_ | refine awp_cond_f rfl ?_ | ((refine awp_cond rfl (fun h => ?_) (fun h => ?_) <;> try simp only [ifs] at h) <;> (try (exfalso; omega))) | refine awp_ret ?_))
    (refine retA_is (by (simp (implicitDefEqProofs := false) (maxSteps := 2000000) (disch := omega) only [go_sem, Go.Proofs.Tryz.results23]); rfl) ?_; refine eN hE ?_; simp [oneA, ren, renL])
set_option maxRecDepth 100000 in
set_option maxHeartbeats 16000000 in
theorem side_three (G : List (Nat × List Value)) (t : Bool) (key : ByteArray) (nt : Bool) (a b c o : OP) (ho : o.k = 5) (hc : nt = false → c.k ≠ 5) :
    Con Go.Proofs.Tryz.prog G 23 [.r (.string key), .ro t 5 ((if nt then [a, b, c, o] else [a, b, c]).map eO)] [] 0 (Is (sideA (sayM key nt [a, b, c])) [] 0) No := by
  refine con_of_awp Go.Proofs.Tryz.func23 rfl (by kernel_rfl) (of_decide_eq_true (by kernel_rfl)) ?_; intro E hG hE; subst hG; simp only [ent]
  have b2 : sayM key nt [a, b, c] = if (isCol key a && b.k == 1) = true then (if b.vk = 0 then none else if c.k = 6 ∧ nt = false then some (0, valO b) else if c.k ≠ 7 then none else if nt = true then some (-1, valO b) else some (1, valO b))
    else if (isCol key b && a.k == 1) = true then (if a.vk = 0 then none else if c.k = 6 ∧ nt = false then some (0, valO a) else if c.k ≠ 7 then none else if nt = true then some (1, valO a) else some (-1, valO a))
    else none := rfl
  have k5' : nt = false → (c.k == 5) = false := fun h => by simpa using hc h
  by_cases hf : isCol key a = true ∧ b.k = 1
  · obtain ⟨hf1, kb⟩ := hf
    have ka : a.k = 2 := by simp [isCol] at hf1; exact hf1.1
    have kn : (a.nm.toList == key.toList) = true := by simp only [isCol, Bool.and_eq_true] at hf1; exact hf1.2
    by_cases hv : b.vk = 0
    · have hS : sayM key nt [a, b, c] = none := by rw [b2]; simp [hf1, kb, hv]
      rw [hS]
      cases nt
      · have k5 := k5' rfl
        simp only [if_neg (show ¬ (false = true) by decide), List.map_cons, List.map_nil]
        (repeat' (first | refine awp_seq ?_ | refine awp_block ?_ | refine awp_skip ?_ | refine awp_exit ?_ | ((first | refine rR (fun K kp hK hkp => ?_) | refine rD (id := 17) mixed 2 [0,1] (fun K kp hK hkp => ?_) | refine rD (id := 21) mixed 2 [0,1] (fun K kp hK hkp => ?_) | refine rD (id := 22) mixed 2 [0,1] (fun K kp hK hkp => ?_) | refine iG ?_ | refine iD ?_); simp (implicitDefEqProofs := false) (maxSteps := 2000000) (disch := omega) only [go_sem, eO, eV, nilV, k5, ka, kb, kn, hv]; (repeat' (first | (refine hK _ ?_; clear hK hkp kp K) | (with_reducible refine And.intro ?_ ?_) | omega))) | ((first | refine aG (fun h => ?_) (fun h => ?_) | refine aD (fun h => ?_) (fun h => ?_) | refine aX (fun h => ?_) (fun h => ?_)) <;> simp only [h]) | refine awp_cond_t rfl ?_ | refine awp_cond_f rfl ?_ | ((refine awp_cond rfl (fun h => ?_) (fun h => ?_) <;> try simp only [ifs] at h) <;> (try (exfalso; omega))) | refine awp_ret ?_))
        (refine retA_is (by (simp (implicitDefEqProofs := false) (maxSteps := 2000000) (disch := omega) only [go_sem, Go.Proofs.Tryz.results23, sideA, eV, nilV, valO]); rfl) ?_; refine eN hE ?_; simp [oneA, ren, renL, sideA, eV, nilV, valO])
      · skip
        simp only [if_true, List.map_cons, List.map_nil]
        (repeat' (first | refine awp_seq ?_ | refine awp_block ?_ | refine awp_skip ?_ | refine awp_exit ?_ | ((first | refine rR (fun K kp hK hkp => ?_) | refine rD (id := 17) mixed 2 [0,1] (fun K kp hK hkp => ?_) | refine rD (id := 21) mixed 2 [0,1] (fun K kp hK hkp => ?_) | refine rD (id := 22) mixed 2 [0,1] (fun K kp hK hkp => ?_) | refine iG ?_ | refine iD ?_); simp (implicitDefEqProofs := false) (maxSteps := 2000000) (disch := omega) only [go_sem, eO, eV, nilV, ho, ka, kb, kn, hv]; (repeat' (first | (refine hK _ ?_; clear hK hkp kp K) | (with_reducible refine And.intro ?_ ?_) | omega))) | ((first | refine aG (fun h => ?_) (fun h => ?_) | refine aD (fun h => ?_) (fun h => ?_) | refine aX (fun h => ?_) (fun h => ?_)) <;> simp only [h]) | refine awp_cond_t rfl ?_ | refine awp_cond_f rfl ?_ | ((refine awp_cond rfl (fun h => ?_) (fun h => ?_) <;> try simp only [ifs] at h) <;> (try (exfalso; omega))) | refine awp_ret ?_))
        (refine retA_is (by (simp (implicitDefEqProofs := false) (maxSteps := 2000000) (disch := omega) only [go_sem, Go.Proofs.Tryz.results23, sideA, eV, nilV, valO]); rfl) ?_; refine eN hE ?_; simp [oneA, ren, renL, sideA, eV, nilV, valO])
    · have hv0 : (b.vk == 0) = false := by simpa using hv
      by_cases h6 : c.k = 6
      · cases nt
        · have k5 := k5' rfl
          have hS : sayM key false [a, b, c] = some (0, valO b) := by rw [b2]; simp [hf1, kb, hv, h6]
          rw [hS]
          simp only [if_neg (show ¬ (false = true) by decide), List.map_cons, List.map_nil]
          (repeat' (first | refine awp_seq ?_ | refine awp_block ?_ | refine awp_skip ?_ | refine awp_exit ?_ | ((first | refine rR (fun K kp hK hkp => ?_) | refine rD (id := 17) mixed 2 [0,1] (fun K kp hK hkp => ?_) | refine rD (id := 21) mixed 2 [0,1] (fun K kp hK hkp => ?_) | refine rD (id := 22) mixed 2 [0,1] (fun K kp hK hkp => ?_) | refine iG ?_ | refine iD ?_); simp (implicitDefEqProofs := false) (maxSteps := 2000000) (disch := omega) only [go_sem, eO, eV, nilV, k5, ka, kb, kn, hv0, h6]; (repeat' (first | (refine hK _ ?_; clear hK hkp kp K) | (with_reducible refine And.intro ?_ ?_) | omega))) | ((first | refine aG (fun h => ?_) (fun h => ?_) | refine aD (fun h => ?_) (fun h => ?_) | refine aX (fun h => ?_) (fun h => ?_)) <;> simp only [h]) | refine awp_cond_t rfl ?_ | refine awp_cond_f rfl ?_ | ((refine awp_cond rfl (fun h => ?_) (fun h => ?_) <;> try simp only [ifs] at h) <;> (try (exfalso; omega))) | refine awp_ret ?_))
          (refine retA_is (by (simp (implicitDefEqProofs := false) (maxSteps := 2000000) (disch := omega) only [go_sem, Go.Proofs.Tryz.results23, sideA, eV, nilV, valO]); rfl) ?_; refine eN hE ?_; simp [oneA, ren, renL, sideA, eV, nilV, valO])
        · have hS : sayM key true [a, b, c] = none := by rw [b2]; simp [hf1, kb, hv, h6]
          rw [hS]
          simp only [if_true, List.map_cons, List.map_nil]
          (repeat' (first | refine awp_seq ?_ | refine awp_block ?_ | refine awp_skip ?_ | refine awp_exit ?_ | ((first | refine rR (fun K kp hK hkp => ?_) | refine rD (id := 17) mixed 2 [0,1] (fun K kp hK hkp => ?_) | refine rD (id := 21) mixed 2 [0,1] (fun K kp hK hkp => ?_) | refine rD (id := 22) mixed 2 [0,1] (fun K kp hK hkp => ?_) | refine iG ?_ | refine iD ?_); simp (implicitDefEqProofs := false) (maxSteps := 2000000) (disch := omega) only [go_sem, eO, eV, nilV, ho, ka, kb, kn, hv0, h6]; (repeat' (first | (refine hK _ ?_; clear hK hkp kp K) | (with_reducible refine And.intro ?_ ?_) | omega))) | ((first | refine aG (fun h => ?_) (fun h => ?_) | refine aD (fun h => ?_) (fun h => ?_) | refine aX (fun h => ?_) (fun h => ?_)) <;> simp only [h]) | refine awp_cond_t rfl ?_ | refine awp_cond_f rfl ?_ | ((refine awp_cond rfl (fun h => ?_) (fun h => ?_) <;> try simp only [ifs] at h) <;> (try (exfalso; omega))) | refine awp_ret ?_))
          (refine retA_is (by (simp (implicitDefEqProofs := false) (maxSteps := 2000000) (disch := omega) only [go_sem, Go.Proofs.Tryz.results23, sideA, eV, nilV, valO]); rfl) ?_; refine eN hE ?_; simp [oneA, ren, renL, sideA, eV, nilV, valO])
      · have k6 : (c.k == 6) = false := by simpa using h6
        by_cases h7 : c.k = 7
        · cases nt
          · have k5 := k5' rfl
            have hS : sayM key false [a, b, c] = some (1, valO b) := by rw [b2]; simp [hf1, kb, hv, h7]
            rw [hS]
            simp only [if_neg (show ¬ (false = true) by decide), List.map_cons, List.map_nil]
            (repeat' (first | refine awp_seq ?_ | refine awp_block ?_ | refine awp_skip ?_ | refine awp_exit ?_ | ((first | refine rR (fun K kp hK hkp => ?_) | refine rD (id := 17) mixed 2 [0,1] (fun K kp hK hkp => ?_) | refine rD (id := 21) mixed 2 [0,1] (fun K kp hK hkp => ?_) | refine rD (id := 22) mixed 2 [0,1] (fun K kp hK hkp => ?_) | refine iG ?_ | refine iD ?_); simp (implicitDefEqProofs := false) (maxSteps := 2000000) (disch := omega) only [go_sem, eO, eV, nilV, k5, ka, kb, kn, hv0, h7]; (repeat' (first | (refine hK _ ?_; clear hK hkp kp K) | (with_reducible refine And.intro ?_ ?_) | omega))) | ((first | refine aG (fun h => ?_) (fun h => ?_) | refine aD (fun h => ?_) (fun h => ?_) | refine aX (fun h => ?_) (fun h => ?_)) <;> simp only [h]) | refine awp_cond_t rfl ?_ | refine awp_cond_f rfl ?_ | ((refine awp_cond rfl (fun h => ?_) (fun h => ?_) <;> try simp only [ifs] at h) <;> (try (exfalso; omega))) | refine awp_ret ?_))
            (refine retA_is (by (simp (implicitDefEqProofs := false) (maxSteps := 2000000) (disch := omega) only [go_sem, Go.Proofs.Tryz.results23, sideA, eV, nilV, valO]); rfl) ?_; refine eN hE ?_; simp [oneA, ren, renL, sideA, eV, nilV, valO])
          · skip
            have hS : sayM key true [a, b, c] = some (-1, valO b) := by rw [b2]; simp [hf1, kb, hv, h7]
            rw [hS]
            simp only [if_true, List.map_cons, List.map_nil]
            (repeat' (first | refine awp_seq ?_ | refine awp_block ?_ | refine awp_skip ?_ | refine awp_exit ?_ | ((first | refine rR (fun K kp hK hkp => ?_) | refine rD (id := 17) mixed 2 [0,1] (fun K kp hK hkp => ?_) | refine rD (id := 21) mixed 2 [0,1] (fun K kp hK hkp => ?_) | refine rD (id := 22) mixed 2 [0,1] (fun K kp hK hkp => ?_) | refine iG ?_ | refine iD ?_); simp (implicitDefEqProofs := false) (maxSteps := 2000000) (disch := omega) only [go_sem, eO, eV, nilV, ho, ka, kb, kn, hv0, h7]; (repeat' (first | (refine hK _ ?_; clear hK hkp kp K) | (with_reducible refine And.intro ?_ ?_) | omega))) | ((first | refine aG (fun h => ?_) (fun h => ?_) | refine aD (fun h => ?_) (fun h => ?_) | refine aX (fun h => ?_) (fun h => ?_)) <;> simp only [h]) | refine awp_cond_t rfl ?_ | refine awp_cond_f rfl ?_ | ((refine awp_cond rfl (fun h => ?_) (fun h => ?_) <;> try simp only [ifs] at h) <;> (try (exfalso; omega))) | refine awp_ret ?_))
            (refine retA_is (by (simp (implicitDefEqProofs := false) (maxSteps := 2000000) (disch := omega) only [go_sem, Go.Proofs.Tryz.results23, sideA, eV, nilV, valO]); rfl) ?_; refine eN hE ?_; simp [oneA, ren, renL, sideA, eV, nilV, valO])
        · have k7 : (c.k != 7) = true := by simpa using h7
          have hS : sayM key nt [a, b, c] = none := by rw [b2]; simp [hf1, kb, hv, h6, h7]
          rw [hS]
          cases nt
          · have k5 := k5' rfl
            simp only [if_neg (show ¬ (false = true) by decide), List.map_cons, List.map_nil]
            (repeat' (first | refine awp_seq ?_ | refine awp_block ?_ | refine awp_skip ?_ | refine awp_exit ?_ | ((first | refine rR (fun K kp hK hkp => ?_) | refine rD (id := 17) mixed 2 [0,1] (fun K kp hK hkp => ?_) | refine rD (id := 21) mixed 2 [0,1] (fun K kp hK hkp => ?_) | refine rD (id := 22) mixed 2 [0,1] (fun K kp hK hkp => ?_) | refine iG ?_ | refine iD ?_); simp (implicitDefEqProofs := false) (maxSteps := 2000000) (disch := omega) only [go_sem, eO, eV, nilV, k5, ka, kb, kn, hv0, k6, k7]; (repeat' (first | (refine hK _ ?_; clear hK hkp kp K) | (with_reducible refine And.intro ?_ ?_) | omega))) | ((first | refine aG (fun h => ?_) (fun h => ?_) | refine aD (fun h => ?_) (fun h => ?_) | refine aX (fun h => ?_) (fun h => ?_)) <;> simp only [h]) | refine awp_cond_t rfl ?_ | refine awp_cond_f rfl ?_ | ((refine awp_cond rfl (fun h => ?_) (fun h => ?_) <;> try simp only [ifs] at h) <;> (try (exfalso; omega))) | refine awp_ret ?_))
            (refine retA_is (by (simp (implicitDefEqProofs := false) (maxSteps := 2000000) (disch := omega) only [go_sem, Go.Proofs.Tryz.results23, sideA, eV, nilV, valO]); rfl) ?_; refine eN hE ?_; simp [oneA, ren, renL, sideA, eV, nilV, valO])
          · skip
            simp only [if_true, List.map_cons, List.map_nil]
            (repeat' (first | refine awp_seq ?_ | refine awp_block ?_ | refine awp_skip ?_ | refine awp_exit ?_ | ((first | refine rR (fun K kp hK hkp => ?_) | refine rD (id := 17) mixed 2 [0,1] (fun K kp hK hkp => ?_) | refine rD (id := 21) mixed 2 [0,1] (fun K kp hK hkp => ?_) | refine rD (id := 22) mixed 2 [0,1] (fun K kp hK hkp => ?_) | refine iG ?_ | refine iD ?_); simp (implicitDefEqProofs := false) (maxSteps := 2000000) (disch := omega) only [go_sem, eO, eV, nilV, ho, ka, kb, kn, hv0, k6, k7]; (repeat' (first | (refine hK _ ?_; clear hK hkp kp K) | (with_reducible refine And.intro ?_ ?_) | omega))) | ((first | refine aG (fun h => ?_) (fun h => ?_) | refine aD (fun h => ?_) (fun h => ?_) | refine aX (fun h => ?_) (fun h => ?_)) <;> simp only [h]) | refine awp_cond_t rfl ?_ | refine awp_cond_f rfl ?_ | ((refine awp_cond rfl (fun h => ?_) (fun h => ?_) <;> try simp only [ifs] at h) <;> (try (exfalso; omega))) | refine awp_ret ?_))
            (refine retA_is (by (simp (implicitDefEqProofs := false) (maxSteps := 2000000) (disch := omega) only [go_sem, Go.Proofs.Tryz.results23, sideA, eV, nilV, valO]); rfl) ?_; refine eN hE ?_; simp [oneA, ren, renL, sideA, eV, nilV, valO])
  by_cases hg : isCol key b = true ∧ a.k = 1
  · obtain ⟨hg1, ka⟩ := hg
    have kb : b.k = 2 := by simp [isCol] at hg1; exact hg1.1
    have kn : (b.nm.toList == key.toList) = true := by simp only [isCol, Bool.and_eq_true] at hg1; exact hg1.2
    have ca : isCol key a = false := by simp [isCol, ka]
    by_cases hv : a.vk = 0
    · have hS : sayM key nt [a, b, c] = none := by rw [b2]; simp [hg1, ka, ca, hv]
      rw [hS]
      cases nt
      · have k5 := k5' rfl
        simp only [if_neg (show ¬ (false = true) by decide), List.map_cons, List.map_nil]
        (repeat' (first | refine awp_seq ?_ | refine awp_block ?_ | refine awp_skip ?_ | refine awp_exit ?_ | ((first | refine rR (fun K kp hK hkp => ?_) | refine rD (id := 17) mixed 2 [0,1] (fun K kp hK hkp => ?_) | refine rD (id := 21) mixed 2 [0,1] (fun K kp hK hkp => ?_) | refine rD (id := 22) mixed 2 [0,1] (fun K kp hK hkp => ?_) | refine iG ?_ | refine iD ?_); simp (implicitDefEqProofs := false) (maxSteps := 2000000) (disch := omega) only [go_sem, eO, eV, nilV, k5, ka, kb, kn, hv]; (repeat' (first | (refine hK _ ?_; clear hK hkp kp K) | (with_reducible refine And.intro ?_ ?_) | omega))) | ((first | refine aG (fun h => ?_) (fun h => ?_) | refine aD (fun h => ?_) (fun h => ?_) | refine aX (fun h => ?_) (fun h => ?_)) <;> simp only [h]) | refine awp_cond_t rfl ?_ | refine awp_cond_f rfl ?_ | ((refine awp_cond rfl (fun h => ?_) (fun h => ?_) <;> try simp only [ifs] at h) <;> (try (exfalso; omega))) | refine awp_ret ?_))
        (refine retA_is (by (simp (implicitDefEqProofs := false) (maxSteps := 2000000) (disch := omega) only [go_sem, Go.Proofs.Tryz.results23, sideA, eV, nilV, valO]); rfl) ?_; refine eN hE ?_; simp [oneA, ren, renL, sideA, eV, nilV, valO])
      · skip
        simp only [if_true, List.map_cons, List.map_nil]
        (repeat' (first | refine awp_seq ?_ | refine awp_block ?_ | refine awp_skip ?_ | refine awp_exit ?_ | ((first | refine rR (fun K kp hK hkp => ?_) | refine rD (id := 17) mixed 2 [0,1] (fun K kp hK hkp => ?_) | refine rD (id := 21) mixed 2 [0,1] (fun K kp hK hkp => ?_) | refine rD (id := 22) mixed 2 [0,1] (fun K kp hK hkp => ?_) | refine iG ?_ | refine iD ?_); simp (implicitDefEqProofs := false) (maxSteps := 2000000) (disch := omega) only [go_sem, eO, eV, nilV, ho, ka, kb, kn, hv]; (repeat' (first | (refine hK _ ?_; clear hK hkp kp K) | (with_reducible refine And.intro ?_ ?_) | omega))) | ((first | refine aG (fun h => ?_) (fun h => ?_) | refine aD (fun h => ?_) (fun h => ?_) | refine aX (fun h => ?_) (fun h => ?_)) <;> simp only [h]) | refine awp_cond_t rfl ?_ | refine awp_cond_f rfl ?_ | ((refine awp_cond rfl (fun h => ?_) (fun h => ?_) <;> try simp only [ifs] at h) <;> (try (exfalso; omega))) | refine awp_ret ?_))
        (refine retA_is (by (simp (implicitDefEqProofs := false) (maxSteps := 2000000) (disch := omega) only [go_sem, Go.Proofs.Tryz.results23, sideA, eV, nilV, valO]); rfl) ?_; refine eN hE ?_; simp [oneA, ren, renL, sideA, eV, nilV, valO])
    · have hv0 : (a.vk == 0) = false := by simpa using hv
      by_cases h6 : c.k = 6
      · cases nt
        · have k5 := k5' rfl
          have hS : sayM key false [a, b, c] = some (0, valO a) := by rw [b2]; simp [hg1, ka, ca, hv, h6]
          rw [hS]
          simp only [if_neg (show ¬ (false = true) by decide), List.map_cons, List.map_nil]
          (repeat' (first | refine awp_seq ?_ | refine awp_block ?_ | refine awp_skip ?_ | refine awp_exit ?_ | ((first | refine rR (fun K kp hK hkp => ?_) | refine rD (id := 17) mixed 2 [0,1] (fun K kp hK hkp => ?_) | refine rD (id := 21) mixed 2 [0,1] (fun K kp hK hkp => ?_) | refine rD (id := 22) mixed 2 [0,1] (fun K kp hK hkp => ?_) | refine iG ?_ | refine iD ?_); simp (implicitDefEqProofs := false) (maxSteps := 2000000) (disch := omega) only [go_sem, eO, eV, nilV, k5, ka, kb, kn, hv0, h6]; (repeat' (first | (refine hK _ ?_; clear hK hkp kp K) | (with_reducible refine And.intro ?_ ?_) | omega))) | ((first | refine aG (fun h => ?_) (fun h => ?_) | refine aD (fun h => ?_) (fun h => ?_) | refine aX (fun h => ?_) (fun h => ?_)) <;> simp only [h]) | refine awp_cond_t rfl ?_ | refine awp_cond_f rfl ?_ | ((refine awp_cond rfl (fun h => ?_) (fun h => ?_) <;> try simp only [ifs] at h) <;> (try (exfalso; omega))) | refine awp_ret ?_))
          (refine retA_is (by (simp (implicitDefEqProofs := false) (maxSteps := 2000000) (disch := omega) only [go_sem, Go.Proofs.Tryz.results23, sideA, eV, nilV, valO]); rfl) ?_; refine eN hE ?_; simp [oneA, ren, renL, sideA, eV, nilV, valO])
        · have hS : sayM key true [a, b, c] = none := by rw [b2]; simp [hg1, ka, ca, hv, h6]
          rw [hS]
          simp only [if_true, List.map_cons, List.map_nil]
          (repeat' (first | refine awp_seq ?_ | refine awp_block ?_ | refine awp_skip ?_ | refine awp_exit ?_ | ((first | refine rR (fun K kp hK hkp => ?_) | refine rD (id := 17) mixed 2 [0,1] (fun K kp hK hkp => ?_) | refine rD (id := 21) mixed 2 [0,1] (fun K kp hK hkp => ?_) | refine rD (id := 22) mixed 2 [0,1] (fun K kp hK hkp => ?_) | refine iG ?_ | refine iD ?_); simp (implicitDefEqProofs := false) (maxSteps := 2000000) (disch := omega) only [go_sem, eO, eV, nilV, ho, ka, kb, kn, hv0, h6]; (repeat' (first | (refine hK _ ?_; clear hK hkp kp K) | (with_reducible refine And.intro ?_ ?_) | omega))) | ((first | refine aG (fun h => ?_) (fun h => ?_) | refine aD (fun h => ?_) (fun h => ?_) | refine aX (fun h => ?_) (fun h => ?_)) <;> simp only [h]) | refine awp_cond_t rfl ?_ | refine awp_cond_f rfl ?_ | ((refine awp_cond rfl (fun h => ?_) (fun h => ?_) <;> try simp only [ifs] at h) <;> (try (exfalso; omega))) | refine awp_ret ?_))
          (refine retA_is (by (simp (implicitDefEqProofs := false) (maxSteps := 2000000) (disch := omega) only [go_sem, Go.Proofs.Tryz.results23, sideA, eV, nilV, valO]); rfl) ?_; refine eN hE ?_; simp [oneA, ren, renL, sideA, eV, nilV, valO])
      · have k6 : (c.k == 6) = false := by simpa using h6
        by_cases h7 : c.k = 7
        · cases nt
          · have k5 := k5' rfl
            have hS : sayM key false [a, b, c] = some (-1, valO a) := by rw [b2]; simp [hg1, ka, ca, hv, h7]
            rw [hS]
            simp only [if_neg (show ¬ (false = true) by decide), List.map_cons, List.map_nil]
            (repeat' (first | refine awp_seq ?_ | refine awp_block ?_ | refine awp_skip ?_ | refine awp_exit ?_ | ((first | refine rR (fun K kp hK hkp => ?_) | refine rD (id := 17) mixed 2 [0,1] (fun K kp hK hkp => ?_) | refine rD (id := 21) mixed 2 [0,1] (fun K kp hK hkp => ?_) | refine rD (id := 22) mixed 2 [0,1] (fun K kp hK hkp => ?_) | refine iG ?_ | refine iD ?_); simp (implicitDefEqProofs := false) (maxSteps := 2000000) (disch := omega) only [go_sem, eO, eV, nilV, k5, ka, kb, kn, hv0, h7]; (repeat' (first | (refine hK _ ?_; clear hK hkp kp K) | (with_reducible refine And.intro ?_ ?_) | omega))) | ((first | refine aG (fun h => ?_) (fun h => ?_) | refine aD (fun h => ?_) (fun h => ?_) | refine aX (fun h => ?_) (fun h => ?_)) <;> simp only [h]) | refine awp_cond_t rfl ?_ | refine awp_cond_f rfl ?_ | ((refine awp_cond rfl (fun h => ?_) (fun h => ?_) <;> try simp only [ifs] at h) <;> (try (exfalso; omega))) | refine awp_ret ?_))
            (refine retA_is (by (simp (implicitDefEqProofs := false) (maxSteps := 2000000) (disch := omega) only [go_sem, Go.Proofs.Tryz.results23, sideA, eV, nilV, valO]); rfl) ?_; refine eN hE ?_; simp [oneA, ren, renL, sideA, eV, nilV, valO])
          · skip
            have hS : sayM key true [a, b, c] = some (1, valO a) := by rw [b2]; simp [hg1, ka, ca, hv, h7]
            rw [hS]
            simp only [if_true, List.map_cons, List.map_nil]
            (repeat' (first | refine awp_seq ?_ | refine awp_block ?_ | refine awp_skip ?_ | refine awp_exit ?_ | ((first | refine rR (fun K kp hK hkp => ?_) | refine rD (id := 17) mixed 2 [0,1] (fun K kp hK hkp => ?_) | refine rD (id := 21) mixed 2 [0,1] (fun K kp hK hkp => ?_) | refine rD (id := 22) mixed 2 [0,1] (fun K kp hK hkp => ?_) | refine iG ?_ | refine iD ?_); simp (implicitDefEqProofs := false) (maxSteps := 2000000) (disch := omega) only [go_sem, eO, eV, nilV, ho, ka, kb, kn, hv0, h7]; (repeat' (first | (refine hK _ ?_; clear hK hkp kp K) | (with_reducible refine And.intro ?_ ?_) | omega))) | ((first | refine aG (fun h => ?_) (fun h => ?_) | refine aD (fun h => ?_) (fun h => ?_) | refine aX (fun h => ?_) (fun h => ?_)) <;> simp only [h]) | refine awp_cond_t rfl ?_ | refine awp_cond_f rfl ?_ | ((refine awp_cond rfl (fun h => ?_) (fun h => ?_) <;> try simp only [ifs] at h) <;> (try (exfalso; omega))) | refine awp_ret ?_))
            (refine retA_is (by (simp (implicitDefEqProofs := false) (maxSteps := 2000000) (disch := omega) only [go_sem, Go.Proofs.Tryz.results23, sideA, eV, nilV, valO]); rfl) ?_; refine eN hE ?_; simp [oneA, ren, renL, sideA, eV, nilV, valO])
        · have k7 : (c.k != 7) = true := by simpa using h7
          have hS : sayM key nt [a, b, c] = none := by rw [b2]; simp [hg1, ka, ca, hv, h6, h7]
          rw [hS]
          cases nt
          · have k5 := k5' rfl
            simp only [if_neg (show ¬ (false = true) by decide), List.map_cons, List.map_nil]
            (repeat' (first | refine awp_seq ?_ | refine awp_block ?_ | refine awp_skip ?_ | refine awp_exit ?_ | ((first | refine rR (fun K kp hK hkp => ?_) | refine rD (id := 17) mixed 2 [0,1] (fun K kp hK hkp => ?_) | refine rD (id := 21) mixed 2 [0,1] (fun K kp hK hkp => ?_) | refine rD (id := 22) mixed 2 [0,1] (fun K kp hK hkp => ?_) | refine iG ?_ | refine iD ?_); simp (implicitDefEqProofs := false) (maxSteps := 2000000) (disch := omega) only [go_sem, eO, eV, nilV, k5, ka, kb, kn, hv0, k6, k7]; (repeat' (first | (refine hK _ ?_; clear hK hkp kp K) | (with_reducible refine And.intro ?_ ?_) | omega))) | ((first | refine aG (fun h => ?_) (fun h => ?_) | refine aD (fun h => ?_) (fun h => ?_) | refine aX (fun h => ?_) (fun h => ?_)) <;> simp only [h]) | refine awp_cond_t rfl ?_ | refine awp_cond_f rfl ?_ | ((refine awp_cond rfl (fun h => ?_) (fun h => ?_) <;> try simp only [ifs] at h) <;> (try (exfalso; omega))) | refine awp_ret ?_))
            (refine retA_is (by (simp (implicitDefEqProofs := false) (maxSteps := 2000000) (disch := omega) only [go_sem, Go.Proofs.Tryz.results23, sideA, eV, nilV, valO]); rfl) ?_; refine eN hE ?_; simp [oneA, ren, renL, sideA, eV, nilV, valO])
          · skip
            simp only [if_true, List.map_cons, List.map_nil]
            (repeat' (first | refine awp_seq ?_ | refine awp_block ?_ | refine awp_skip ?_ | refine awp_exit ?_ | ((first | refine rR (fun K kp hK hkp => ?_) | refine rD (id := 17) mixed 2 [0,1] (fun K kp hK hkp => ?_) | refine rD (id := 21) mixed 2 [0,1] (fun K kp hK hkp => ?_) | refine rD (id := 22) mixed 2 [0,1] (fun K kp hK hkp => ?_) | refine iG ?_ | refine iD ?_); simp (implicitDefEqProofs := false) (maxSteps := 2000000) (disch := omega) only [go_sem, eO, eV, nilV, ho, ka, kb, kn, hv0, k6, k7]; (repeat' (first | (refine hK _ ?_; clear hK hkp kp K) | (with_reducible refine And.intro ?_ ?_) | omega))) | ((first | refine aG (fun h => ?_) (fun h => ?_) | refine aD (fun h => ?_) (fun h => ?_) | refine aX (fun h => ?_) (fun h => ?_)) <;> simp only [h]) | refine awp_cond_t rfl ?_ | refine awp_cond_f rfl ?_ | ((refine awp_cond rfl (fun h => ?_) (fun h => ?_) <;> try simp only [ifs] at h) <;> (try (exfalso; omega))) | refine awp_ret ?_))
            (refine retA_is (by (simp (implicitDefEqProofs := false) (maxSteps := 2000000) (disch := omega) only [go_sem, Go.Proofs.Tryz.results23, sideA, eV, nilV, valO]); rfl) ?_; refine eN hE ?_; simp [oneA, ren, renL, sideA, eV, nilV, valO])
  have hS : sayM key nt [a, b, c] = none := by
    have f1 : (isCol key a && b.k == 1) = false := by
      cases h1 : isCol key a
      · rfl
      · cases h2 : (b.k == 1)
        · rfl
        · exact (hf ⟨h1, by simpa using h2⟩).elim
    have f2 : (isCol key b && a.k == 1) = false := by
      cases h1 : isCol key b
      · rfl
      · cases h2 : (a.k == 1)
        · rfl
        · exact (hg ⟨h1, by simpa using h2⟩).elim
    rw [b2, f1, f2]; simp
  rw [hS]
  have fA : ((a.k == 2) = false ∨ (a.k = 2 ∧ (a.nm.toList == key.toList) = false)) ∨ ((a.k = 2 ∧ (a.nm.toList == key.toList) = true) ∧ (b.k == 1) = false) := by
    cases h1 : (a.k == 2)
    · exact .inl (.inl rfl)
    · have h1' : a.k = 2 := by simpa using h1
      cases h2 : (a.nm.toList == key.toList)
      · exact .inl (.inr ⟨h1', rfl⟩)
      · refine .inr ⟨⟨h1', rfl⟩, ?_⟩
        cases h3 : (b.k == 1)
        · rfl
        · exact (hf ⟨by simp [isCol, h1', by simpa using h2], by simpa using h3⟩).elim
  have fB : ((b.k == 2) = false ∨ (b.k = 2 ∧ (b.nm.toList == key.toList) = false)) ∨ ((b.k = 2 ∧ (b.nm.toList == key.toList) = true) ∧ (a.k == 1) = false) := by
    cases h1 : (b.k == 2)
    · exact .inl (.inl rfl)
    · have h1' : b.k = 2 := by simpa using h1
      cases h2 : (b.nm.toList == key.toList)
      · exact .inl (.inr ⟨h1', rfl⟩)
      · refine .inr ⟨⟨h1', rfl⟩, ?_⟩
        cases h3 : (a.k == 1)
        · rfl
        · exact (hg ⟨by simp [isCol, h1', by simpa using h2], by simpa using h3⟩).elim
  clear hf hg hS b2
  rcases fA with (pa | ⟨pa, qa⟩) | ⟨⟨pa, qa⟩, ra⟩
  · rcases fB with (pb | ⟨pb, qb⟩) | ⟨⟨pb, qb⟩, rb⟩
    · cases nt
      · have k5 := k5' rfl
        simp only [if_neg (show ¬ (false = true) by decide), List.map_cons, List.map_nil]
        (repeat' (first | refine awp_seq ?_ | refine awp_block ?_ | refine awp_skip ?_ | refine awp_exit ?_ | ((first | refine rR (fun K kp hK hkp => ?_) | refine rD (id := 17) mixed 2 [0,1] (fun K kp hK hkp => ?_) | refine rD (id := 21) mixed 2 [0,1] (fun K kp hK hkp => ?_) | refine rD (id := 22) mixed 2 [0,1] (fun K kp hK hkp => ?_) | refine iG ?_ | refine iD ?_); simp (implicitDefEqProofs := false) (maxSteps := 2000000) (disch := omega) only [go_sem, eO, eV, nilV, k5, pa, pb]; (repeat' (first | (refine hK _ ?_; clear hK hkp kp K) | (with_reducible refine And.intro ?_ ?_) | omega))) | ((first | refine aG (fun h => ?_) (fun h => ?_) | refine aD (fun h => ?_) (fun h => ?_) | refine aX (fun h => ?_) (fun h => ?_)) <;> simp only [h]) | refine awp_cond_t rfl ?_ | refine awp_cond_f rfl ?_ | ((refine awp_cond rfl (fun h => ?_) (fun h => ?_) <;> try simp only [ifs] at h) <;> (try (exfalso; omega))) | refine awp_ret ?_))
        (refine retA_is (by (simp (implicitDefEqProofs := false) (maxSteps := 2000000) (disch := omega) only [go_sem, Go.Proofs.Tryz.results23, sideA, eV, nilV, valO]); rfl) ?_; refine eN hE ?_; simp [oneA, ren, renL, sideA, eV, nilV, valO])
      · skip
        simp only [if_true, List.map_cons, List.map_nil]
        (repeat' (first | refine awp_seq ?_ | refine awp_block ?_ | refine awp_skip ?_ | refine awp_exit ?_ | ((first | refine rR (fun K kp hK hkp => ?_) | refine rD (id := 17) mixed 2 [0,1] (fun K kp hK hkp => ?_) | refine rD (id := 21) mixed 2 [0,1] (fun K kp hK hkp => ?_) | refine rD (id := 22) mixed 2 [0,1] (fun K kp hK hkp => ?_) | refine iG ?_ | refine iD ?_); simp (implicitDefEqProofs := false) (maxSteps := 2000000) (disch := omega) only [go_sem, eO, eV, nilV, ho, pa, pb]; (repeat' (first | (refine hK _ ?_; clear hK hkp kp K) | (with_reducible refine And.intro ?_ ?_) | omega))) | ((first | refine aG (fun h => ?_) (fun h => ?_) | refine aD (fun h => ?_) (fun h => ?_) | refine aX (fun h => ?_) (fun h => ?_)) <;> simp only [h]) | refine awp_cond_t rfl ?_ | refine awp_cond_f rfl ?_ | ((refine awp_cond rfl (fun h => ?_) (fun h => ?_) <;> try simp only [ifs] at h) <;> (try (exfalso; omega))) | refine awp_ret ?_))
        (refine retA_is (by (simp (implicitDefEqProofs := false) (maxSteps := 2000000) (disch := omega) only [go_sem, Go.Proofs.Tryz.results23, sideA, eV, nilV, valO]); rfl) ?_; refine eN hE ?_; simp [oneA, ren, renL, sideA, eV, nilV, valO])
    · cases nt
      · have k5 := k5' rfl
        simp only [if_neg (show ¬ (false = true) by decide), List.map_cons, List.map_nil]
        (repeat' (first | refine awp_seq ?_ | refine awp_block ?_ | refine awp_skip ?_ | refine awp_exit ?_ | ((first | refine rR (fun K kp hK hkp => ?_) | refine rD (id := 17) mixed 2 [0,1] (fun K kp hK hkp => ?_) | refine rD (id := 21) mixed 2 [0,1] (fun K kp hK hkp => ?_) | refine rD (id := 22) mixed 2 [0,1] (fun K kp hK hkp => ?_) | refine iG ?_ | refine iD ?_); simp (implicitDefEqProofs := false) (maxSteps := 2000000) (disch := omega) only [go_sem, eO, eV, nilV, k5, pa, pb, qb]; (repeat' (first | (refine hK _ ?_; clear hK hkp kp K) | (with_reducible refine And.intro ?_ ?_) | omega))) | ((first | refine aG (fun h => ?_) (fun h => ?_) | refine aD (fun h => ?_) (fun h => ?_) | refine aX (fun h => ?_) (fun h => ?_)) <;> simp only [h]) | refine awp_cond_t rfl ?_ | refine awp_cond_f rfl ?_ | ((refine awp_cond rfl (fun h => ?_) (fun h => ?_) <;> try simp only [ifs] at h) <;> (try (exfalso; omega))) | refine awp_ret ?_))
        (refine retA_is (by (simp (implicitDefEqProofs := false) (maxSteps := 2000000) (disch := omega) only [go_sem, Go.Proofs.Tryz.results23, sideA, eV, nilV, valO]); rfl) ?_; refine eN hE ?_; simp [oneA, ren, renL, sideA, eV, nilV, valO])
      · skip
        simp only [if_true, List.map_cons, List.map_nil]
        (repeat' (first | refine awp_seq ?_ | refine awp_block ?_ | refine awp_skip ?_ | refine awp_exit ?_ | ((first | refine rR (fun K kp hK hkp => ?_) | refine rD (id := 17) mixed 2 [0,1] (fun K kp hK hkp => ?_) | refine rD (id := 21) mixed 2 [0,1] (fun K kp hK hkp => ?_) | refine rD (id := 22) mixed 2 [0,1] (fun K kp hK hkp => ?_) | refine iG ?_ | refine iD ?_); simp (implicitDefEqProofs := false) (maxSteps := 2000000) (disch := omega) only [go_sem, eO, eV, nilV, ho, pa, pb, qb]; (repeat' (first | (refine hK _ ?_; clear hK hkp kp K) | (with_reducible refine And.intro ?_ ?_) | omega))) | ((first | refine aG (fun h => ?_) (fun h => ?_) | refine aD (fun h => ?_) (fun h => ?_) | refine aX (fun h => ?_) (fun h => ?_)) <;> simp only [h]) | refine awp_cond_t rfl ?_ | refine awp_cond_f rfl ?_ | ((refine awp_cond rfl (fun h => ?_) (fun h => ?_) <;> try simp only [ifs] at h) <;> (try (exfalso; omega))) | refine awp_ret ?_))
        (refine retA_is (by (simp (implicitDefEqProofs := false) (maxSteps := 2000000) (disch := omega) only [go_sem, Go.Proofs.Tryz.results23, sideA, eV, nilV, valO]); rfl) ?_; refine eN hE ?_; simp [oneA, ren, renL, sideA, eV, nilV, valO])
    · cases nt
      · have k5 := k5' rfl
        simp only [if_neg (show ¬ (false = true) by decide), List.map_cons, List.map_nil]
        (repeat' (first | refine awp_seq ?_ | refine awp_block ?_ | refine awp_skip ?_ | refine awp_exit ?_ | ((first | refine rR (fun K kp hK hkp => ?_) | refine rD (id := 17) mixed 2 [0,1] (fun K kp hK hkp => ?_) | refine rD (id := 21) mixed 2 [0,1] (fun K kp hK hkp => ?_) | refine rD (id := 22) mixed 2 [0,1] (fun K kp hK hkp => ?_) | refine iG ?_ | refine iD ?_); simp (implicitDefEqProofs := false) (maxSteps := 2000000) (disch := omega) only [go_sem, eO, eV, nilV, k5, pa, pb, qb, rb]; (repeat' (first | (refine hK _ ?_; clear hK hkp kp K) | (with_reducible refine And.intro ?_ ?_) | omega))) | ((first | refine aG (fun h => ?_) (fun h => ?_) | refine aD (fun h => ?_) (fun h => ?_) | refine aX (fun h => ?_) (fun h => ?_)) <;> simp only [h]) | refine awp_cond_t rfl ?_ | refine awp_cond_f rfl ?_ | ((refine awp_cond rfl (fun h => ?_) (fun h => ?_) <;> try simp only [ifs] at h) <;> (try (exfalso; omega))) | refine awp_ret ?_))
        (refine retA_is (by (simp (implicitDefEqProofs := false) (maxSteps := 2000000) (disch := omega) only [go_sem, Go.Proofs.Tryz.results23, sideA, eV, nilV, valO]); rfl) ?_; refine eN hE ?_; simp [oneA, ren, renL, sideA, eV, nilV, valO])
      · skip
        simp only [if_true, List.map_cons, List.map_nil]
        (repeat' (first | refine awp_seq ?_ | refine awp_block ?_ | refine awp_skip ?_ | refine awp_exit ?_ | ((first | refine rR (fun K kp hK hkp => ?_) | refine rD (id := 17) mixed 2 [0,1] (fun K kp hK hkp => ?_) | refine rD (id := 21) mixed 2 [0,1] (fun K kp hK hkp => ?_) | refine rD (id := 22) mixed 2 [0,1] (fun K kp hK hkp => ?_) | refine iG ?_ | refine iD ?_); simp (implicitDefEqProofs := false) (maxSteps := 2000000) (disch := omega) only [go_sem, eO, eV, nilV, ho, pa, pb, qb, rb]; (repeat' (first | (refine hK _ ?_; clear hK hkp kp K) | (with_reducible refine And.intro ?_ ?_) | omega))) | ((first | refine aG (fun h => ?_) (fun h => ?_) | refine aD (fun h => ?_) (fun h => ?_) | refine aX (fun h => ?_) (fun h => ?_)) <;> simp only [h]) | refine awp_cond_t rfl ?_ | refine awp_cond_f rfl ?_ | ((refine awp_cond rfl (fun h => ?_) (fun h => ?_) <;> try simp only [ifs] at h) <;> (try (exfalso; omega))) | refine awp_ret ?_))
        (refine retA_is (by (simp (implicitDefEqProofs := false) (maxSteps := 2000000) (disch := omega) only [go_sem, Go.Proofs.Tryz.results23, sideA, eV, nilV, valO]); rfl) ?_; refine eN hE ?_; simp [oneA, ren, renL, sideA, eV, nilV, valO])
  · rcases fB with (pb | ⟨pb, qb⟩) | ⟨⟨pb, qb⟩, rb⟩
    · cases nt
      · have k5 := k5' rfl
        simp only [if_neg (show ¬ (false = true) by decide), List.map_cons, List.map_nil]
        (repeat' (first | refine awp_seq ?_ | refine awp_block ?_ | refine awp_skip ?_ | refine awp_exit ?_ | ((first | refine rR (fun K kp hK hkp => ?_) | refine rD (id := 17) mixed 2 [0,1] (fun K kp hK hkp => ?_) | refine rD (id := 21) mixed 2 [0,1] (fun K kp hK hkp => ?_) | refine rD (id := 22) mixed 2 [0,1] (fun K kp hK hkp => ?_) | refine iG ?_ | refine iD ?_); simp (implicitDefEqProofs := false) (maxSteps := 2000000) (disch := omega) only [go_sem, eO, eV, nilV, k5, pa, qa, pb]; (repeat' (first | (refine hK _ ?_; clear hK hkp kp K) | (with_reducible refine And.intro ?_ ?_) | omega))) | ((first | refine aG (fun h => ?_) (fun h => ?_) | refine aD (fun h => ?_) (fun h => ?_) | refine aX (fun h => ?_) (fun h => ?_)) <;> simp only [h]) | refine awp_cond_t rfl ?_ | refine awp_cond_f rfl ?_ | ((refine awp_cond rfl (fun h => ?_) (fun h => ?_) <;> try simp only [ifs] at h) <;> (try (exfalso; omega))) | refine awp_ret ?_))
        (refine retA_is (by (simp (implicitDefEqProofs := false) (maxSteps := 2000000) (disch := omega) only [go_sem, Go.Proofs.Tryz.results23, sideA, eV, nilV, valO]); rfl) ?_; refine eN hE ?_; simp [oneA, ren, renL, sideA, eV, nilV, valO])
      · skip
        simp only [if_true, List.map_cons, List.map_nil]
        (repeat' (first | refine awp_seq ?_ | refine awp_block ?_ | refine awp_skip ?_ | refine awp_exit ?_ | ((first | refine rR (fun K kp hK hkp => ?_) | refine rD (id := 17) mixed 2 [0,1] (fun K kp hK hkp => ?_) | refine rD (id := 21) mixed 2 [0,1] (fun K kp hK hkp => ?_) | refine rD (id := 22) mixed 2 [0,1] (fun K kp hK hkp => ?_) | refine iG ?_ | refine iD ?_); simp (implicitDefEqProofs := false) (maxSteps := 2000000) (disch := omega) only [go_sem, eO, eV, nilV, ho, pa, qa, pb]; (repeat' (first | (refine hK _ ?_; clear hK hkp kp K) | (with_reducible refine And.intro ?_ ?_) | omega))) | ((first | refine aG (fun h => ?_) (fun h => ?_) | refine aD (fun h => ?_) (fun h => ?_) | refine aX (fun h => ?_) (fun h => ?_)) <;> simp only [h]) | refine awp_cond_t rfl ?_ | refine awp_cond_f rfl ?_ | ((refine awp_cond rfl (fun h => ?_) (fun h => ?_) <;> try simp only [ifs] at h) <;> (try (exfalso; omega))) | refine awp_ret ?_))
        (refine retA_is (by (simp (implicitDefEqProofs := false) (maxSteps := 2000000) (disch := omega) only [go_sem, Go.Proofs.Tryz.results23, sideA, eV, nilV, valO]); rfl) ?_; refine eN hE ?_; simp [oneA, ren, renL, sideA, eV, nilV, valO])
    · cases nt
      · have k5 := k5' rfl
        simp only [if_neg (show ¬ (false = true) by decide), List.map_cons, List.map_nil]
        (repeat' (first | refine awp_seq ?_ | refine awp_block ?_ | refine awp_skip ?_ | refine awp_exit ?_ | ((first | refine rR (fun K kp hK hkp => ?_) | refine rD (id := 17) mixed 2 [0,1] (fun K kp hK hkp => ?_) | refine rD (id := 21) mixed 2 [0,1] (fun K kp hK hkp => ?_) | refine rD (id := 22) mixed 2 [0,1] (fun K kp hK hkp => ?_) | refine iG ?_ | refine iD ?_); simp (implicitDefEqProofs := false) (maxSteps := 2000000) (disch := omega) only [go_sem, eO, eV, nilV, k5, pa, qa, pb, qb]; (repeat' (first | (refine hK _ ?_; clear hK hkp kp K) | (with_reducible refine And.intro ?_ ?_) | omega))) | ((first | refine aG (fun h => ?_) (fun h => ?_) | refine aD (fun h => ?_) (fun h => ?_) | refine aX (fun h => ?_) (fun h => ?_)) <;> simp only [h]) | refine awp_cond_t rfl ?_ | refine awp_cond_f rfl ?_ | ((refine awp_cond rfl (fun h => ?_) (fun h => ?_) <;> try simp only [ifs] at h) <;> (try (exfalso; omega))) | refine awp_ret ?_))
        (refine retA_is (by (simp (implicitDefEqProofs := false) (maxSteps := 2000000) (disch := omega) only [go_sem, Go.Proofs.Tryz.results23, sideA, eV, nilV, valO]); rfl) ?_; refine eN hE ?_; simp [oneA, ren, renL, sideA, eV, nilV, valO])
      · skip
        simp only [if_true, List.map_cons, List.map_nil]
        (repeat' (first | refine awp_seq ?_ | refine awp_block ?_ | refine awp_skip ?_ | refine awp_exit ?_ | ((first | refine rR (fun K kp hK hkp => ?_) | refine rD (id := 17) mixed 2 [0,1] (fun K kp hK hkp => ?_) | refine rD (id := 21) mixed 2 [0,1] (fun K kp hK hkp => ?_) | refine rD (id := 22) mixed 2 [0,1] (fun K kp hK hkp => ?_) | refine iG ?_ | refine iD ?_); simp (implicitDefEqProofs := false) (maxSteps := 2000000) (disch := omega) only [go_sem, eO, eV, nilV, ho, pa, qa, pb, qb]; (repeat' (first | (refine hK _ ?_; clear hK hkp kp K) | (with_reducible refine And.intro ?_ ?_) | omega))) | ((first | refine aG (fun h => ?_) (fun h => ?_) | refine aD (fun h => ?_) (fun h => ?_) | refine aX (fun h => ?_) (fun h => ?_)) <;> simp only [h]) | refine awp_cond_t rfl ?_ | refine awp_cond_f rfl ?_ | ((refine awp_cond rfl (fun h => ?_) (fun h => ?_) <;> try simp only [ifs] at h) <;> (try (exfalso; omega))) | refine awp_ret ?_))
        (refine retA_is (by (simp (implicitDefEqProofs := false) (maxSteps := 2000000) (disch := omega) only [go_sem, Go.Proofs.Tryz.results23, sideA, eV, nilV, valO]); rfl) ?_; refine eN hE ?_; simp [oneA, ren, renL, sideA, eV, nilV, valO])
    · cases nt
      · have k5 := k5' rfl
        simp only [if_neg (show ¬ (false = true) by decide), List.map_cons, List.map_nil]
        (repeat' (first | refine awp_seq ?_ | refine awp_block ?_ | refine awp_skip ?_ | refine awp_exit ?_ | ((first | refine rR (fun K kp hK hkp => ?_) | refine rD (id := 17) mixed 2 [0,1] (fun K kp hK hkp => ?_) | refine rD (id := 21) mixed 2 [0,1] (fun K kp hK hkp => ?_) | refine rD (id := 22) mixed 2 [0,1] (fun K kp hK hkp => ?_) | refine iG ?_ | refine iD ?_); simp (implicitDefEqProofs := false) (maxSteps := 2000000) (disch := omega) only [go_sem, eO, eV, nilV, k5, pa, qa, pb, qb, rb]; (repeat' (first | (refine hK _ ?_; clear hK hkp kp K) | (with_reducible refine And.intro ?_ ?_) | omega))) | ((first | refine aG (fun h => ?_) (fun h => ?_) | refine aD (fun h => ?_) (fun h => ?_) | refine aX (fun h => ?_) (fun h => ?_)) <;> simp only [h]) | refine awp_cond_t rfl ?_ | refine awp_cond_f rfl ?_ | ((refine awp_cond rfl (fun h => ?_) (fun h => ?_) <;> try simp only [ifs] at h) <;> (try (exfalso; omega))) | refine awp_ret ?_))
        (refine retA_is (by (simp (implicitDefEqProofs := false) (maxSteps := 2000000) (disch := omega) only [go_sem, Go.Proofs.Tryz.results23, sideA, eV, nilV, valO]); rfl) ?_; refine eN hE ?_; simp [oneA, ren, renL, sideA, eV, nilV, valO])
      · skip
        simp only [if_true, List.map_cons, List.map_nil]
        (repeat' (first | refine awp_seq ?_ | refine awp_block ?_ | refine awp_skip ?_ | refine awp_exit ?_ | ((first | refine rR (fun K kp hK hkp => ?_) | refine rD (id := 17) mixed 2 [0,1] (fun K kp hK hkp => ?_) | refine rD (id := 21) mixed 2 [0,1] (fun K kp hK hkp => ?_) | refine rD (id := 22) mixed 2 [0,1] (fun K kp hK hkp => ?_) | refine iG ?_ | refine iD ?_); simp (implicitDefEqProofs := false) (maxSteps := 2000000) (disch := omega) only [go_sem, eO, eV, nilV, ho, pa, qa, pb, qb, rb]; (repeat' (first | (refine hK _ ?_; clear hK hkp kp K) | (with_reducible refine And.intro ?_ ?_) | omega))) | ((first | refine aG (fun h => ?_) (fun h => ?_) | refine aD (fun h => ?_) (fun h => ?_) | refine aX (fun h => ?_) (fun h => ?_)) <;> simp only [h]) | refine awp_cond_t rfl ?_ | refine awp_cond_f rfl ?_ | ((refine awp_cond rfl (fun h => ?_) (fun h => ?_) <;> try simp only [ifs] at h) <;> (try (exfalso; omega))) | refine awp_ret ?_))
        (refine retA_is (by (simp (implicitDefEqProofs := false) (maxSteps := 2000000) (disch := omega) only [go_sem, Go.Proofs.Tryz.results23, sideA, eV, nilV, valO]); rfl) ?_; refine eN hE ?_; simp [oneA, ren, renL, sideA, eV, nilV, valO])
  · rcases fB with (pb | ⟨pb, qb⟩) | ⟨⟨pb, qb⟩, rb⟩
    · cases nt
      · have k5 := k5' rfl
        simp only [if_neg (show ¬ (false = true) by decide), List.map_cons, List.map_nil]
        (repeat' (first | refine awp_seq ?_ | refine awp_block ?_ | refine awp_skip ?_ | refine awp_exit ?_ | ((first | refine rR (fun K kp hK hkp => ?_) | refine rD (id := 17) mixed 2 [0,1] (fun K kp hK hkp => ?_) | refine rD (id := 21) mixed 2 [0,1] (fun K kp hK hkp => ?_) | refine rD (id := 22) mixed 2 [0,1] (fun K kp hK hkp => ?_) | refine iG ?_ | refine iD ?_); simp (implicitDefEqProofs := false) (maxSteps := 2000000) (disch := omega) only [go_sem, eO, eV, nilV, k5, pa, qa, ra, pb]; (repeat' (first | (refine hK _ ?_; clear hK hkp kp K) | (with_reducible refine And.intro ?_ ?_) | omega))) | ((first | refine aG (fun h => ?_) (fun h => ?_) | refine aD (fun h => ?_) (fun h => ?_) | refine aX (fun h => ?_) (fun h => ?_)) <;> simp only [h]) | refine awp_cond_t rfl ?_ | refine awp_cond_f rfl ?_ | ((refine awp_cond rfl (fun h => ?_) (fun h => ?_) <;> try simp only [ifs] at h) <;> (try (exfalso; omega))) | refine awp_ret ?_))
        (refine retA_is (by (simp (implicitDefEqProofs := false) (maxSteps := 2000000) (disch := omega) only [go_sem, Go.Proofs.Tryz.results23, sideA, eV, nilV, valO]); rfl) ?_; refine eN hE ?_; simp [oneA, ren, renL, sideA, eV, nilV, valO])
      · skip
        simp only [if_true, List.map_cons, List.map_nil]
        (repeat' (first | refine awp_seq ?_ | refine awp_block ?_ | refine awp_skip ?_ | refine awp_exit ?_ | ((first | refine rR (fun K kp hK hkp => ?_) | refine rD (id := 17) mixed 2 [0,1] (fun K kp hK hkp => ?_) | refine rD (id := 21) mixed 2 [0,1] (fun K kp hK hkp => ?_) | refine rD (id := 22) mixed 2 [0,1] (fun K kp hK hkp => ?_) | refine iG ?_ | refine iD ?_); simp (implicitDefEqProofs := false) (maxSteps := 2000000) (disch := omega) only [go_sem, eO, eV, nilV, ho, pa, qa, ra, pb]; (repeat' (first | (refine hK _ ?_; clear hK hkp kp K) | (with_reducible refine And.intro ?_ ?_) | omega))) | ((first | refine aG (fun h => ?_) (fun h => ?_) | refine aD (fun h => ?_) (fun h => ?_) | refine aX (fun h => ?_) (fun h => ?_)) <;> simp only [h]) | refine awp_cond_t rfl ?_ | refine awp_cond_f rfl ?_ | ((refine awp_cond rfl (fun h => ?_) (fun h => ?_) <;> try simp only [ifs] at h) <;> (try (exfalso; omega))) | refine awp_ret ?_))
        (refine retA_is (by (simp (implicitDefEqProofs := false) (maxSteps := 2000000) (disch := omega) only [go_sem, Go.Proofs.Tryz.results23, sideA, eV, nilV, valO]); rfl) ?_; refine eN hE ?_; simp [oneA, ren, renL, sideA, eV, nilV, valO])
    · cases nt
      · have k5 := k5' rfl
        simp only [if_neg (show ¬ (false = true) by decide), List.map_cons, List.map_nil]
        (repeat' (first | refine awp_seq ?_ | refine awp_block ?_ | refine awp_skip ?_ | refine awp_exit ?_ | ((first | refine rR (fun K kp hK hkp => ?_) | refine rD (id := 17) mixed 2 [0,1] (fun K kp hK hkp => ?_) | refine rD (id := 21) mixed 2 [0,1] (fun K kp hK hkp => ?_) | refine rD (id := 22) mixed 2 [0,1] (fun K kp hK hkp => ?_) | refine iG ?_ | refine iD ?_); simp (implicitDefEqProofs := false) (maxSteps := 2000000) (disch := omega) only [go_sem, eO, eV, nilV, k5, pa, qa, ra, pb, qb]; (repeat' (first | (refine hK _ ?_; clear hK hkp kp K) | (with_reducible refine And.intro ?_ ?_) | omega))) | ((first | refine aG (fun h => ?_) (fun h => ?_) | refine aD (fun h => ?_) (fun h => ?_) | refine aX (fun h => ?_) (fun h => ?_)) <;> simp only [h]) | refine awp_cond_t rfl ?_ | refine awp_cond_f rfl ?_ | ((refine awp_cond rfl (fun h => ?_) (fun h => ?_) <;> try simp only [ifs] at h) <;> (try (exfalso; omega))) | refine awp_ret ?_))
        (refine retA_is (by (simp (implicitDefEqProofs := false) (maxSteps := 2000000) (disch := omega) only [go_sem, Go.Proofs.Tryz.results23, sideA, eV, nilV, valO]); rfl) ?_; refine eN hE ?_; simp [oneA, ren, renL, sideA, eV, nilV, valO])
      · skip
        simp only [if_true, List.map_cons, List.map_nil]
        (repeat' (first | refine awp_seq ?_ | refine awp_block ?_ | refine awp_skip ?_ | refine awp_exit ?_ | ((first | refine rR (fun K kp hK hkp => ?_) | refine rD (id := 17) mixed 2 [0,1] (fun K kp hK hkp => ?_) | refine rD (id := 21) mixed 2 [0,1] (fun K kp hK hkp => ?_) | refine rD (id := 22) mixed 2 [0,1] (fun K kp hK hkp => ?_) | refine iG ?_ | refine iD ?_); simp (implicitDefEqProofs := false) (maxSteps := 2000000) (disch := omega) only [go_sem, eO, eV, nilV, ho, pa, qa, ra, pb, qb]; (repeat' (first | (refine hK _ ?_; clear hK hkp kp K) | (with_reducible refine And.intro ?_ ?_) | omega))) | ((first | refine aG (fun h => ?_) (fun h => ?_) | refine aD (fun h => ?_) (fun h => ?_) | refine aX (fun h => ?_) (fun h => ?_)) <;> simp only [h]) | refine awp_cond_t rfl ?_ | refine awp_cond_f rfl ?_ | ((refine awp_cond rfl (fun h => ?_) (fun h => ?_) <;> try simp only [ifs] at h) <;> (try (exfalso; omega))) | refine awp_ret ?_))
        (refine retA_is (by (simp (implicitDefEqProofs := false) (maxSteps := 2000000) (disch := omega) only [go_sem, Go.Proofs.Tryz.results23, sideA, eV, nilV, valO]); rfl) ?_; refine eN hE ?_; simp [oneA, ren, renL, sideA, eV, nilV, valO])
    · cases nt
      · have k5 := k5' rfl
        simp only [if_neg (show ¬ (false = true) by decide), List.map_cons, List.map_nil]
        (repeat' (first | refine awp_seq ?_ | refine awp_block ?_ | refine awp_skip ?_ | refine awp_exit ?_ | ((first | refine rR (fun K kp hK hkp => ?_) | refine rD (id := 17) mixed 2 [0,1] (fun K kp hK hkp => ?_) | refine rD (id := 21) mixed 2 [0,1] (fun K kp hK hkp => ?_) | refine rD (id := 22) mixed 2 [0,1] (fun K kp hK hkp => ?_) | refine iG ?_ | refine iD ?_); simp (implicitDefEqProofs := false) (maxSteps := 2000000) (disch := omega) only [go_sem, eO, eV, nilV, k5, pa, qa, ra, pb, qb, rb]; (repeat' (first | (refine hK _ ?_; clear hK hkp kp K) | (with_reducible refine And.intro ?_ ?_) | omega))) | ((first | refine aG (fun h => ?_) (fun h => ?_) | refine aD (fun h => ?_) (fun h => ?_) | refine aX (fun h => ?_) (fun h => ?_)) <;> simp only [h]) | refine awp_cond_t rfl ?_ | refine awp_cond_f rfl ?_ | ((refine awp_cond rfl (fun h => ?_) (fun h => ?_) <;> try simp only [ifs] at h) <;> (try (exfalso; omega))) | refine awp_ret ?_))
        (refine retA_is (by (simp (implicitDefEqProofs := false) (maxSteps := 2000000) (disch := omega) only [go_sem, Go.Proofs.Tryz.results23, sideA, eV, nilV, valO]); rfl) ?_; refine eN hE ?_; simp [oneA, ren, renL, sideA, eV, nilV, valO])
      · skip
        simp only [if_true, List.map_cons, List.map_nil]
        (repeat' (first | refine awp_seq ?_ | refine awp_block ?_ | refine awp_skip ?_ | refine awp_exit ?_ | ((first | refine rR (fun K kp hK hkp => ?_) | refine rD (id := 17) mixed 2 [0,1] (fun K kp hK hkp => ?_) | refine rD (id := 21) mixed 2 [0,1] (fun K kp hK hkp => ?_) | refine rD (id := 22) mixed 2 [0,1] (fun K kp hK hkp => ?_) | refine iG ?_ | refine iD ?_); simp (implicitDefEqProofs := false) (maxSteps := 2000000) (disch := omega) only [go_sem, eO, eV, nilV, ho, pa, qa, ra, pb, qb, rb]; (repeat' (first | (refine hK _ ?_; clear hK hkp kp K) | (with_reducible refine And.intro ?_ ?_) | omega))) | ((first | refine aG (fun h => ?_) (fun h => ?_) | refine aD (fun h => ?_) (fun h => ?_) | refine aX (fun h => ?_) (fun h => ?_)) <;> simp only [h]) | refine awp_cond_t rfl ?_ | refine awp_cond_f rfl ?_ | ((refine awp_cond rfl (fun h => ?_) (fun h => ?_) <;> try simp only [ifs] at h) <;> (try (exfalso; omega))) | refine awp_ret ?_))
        (refine retA_is (by (simp (implicitDefEqProofs := false) (maxSteps := 2000000) (disch := omega) only [go_sem, Go.Proofs.Tryz.results23, sideA, eV, nilV, valO]); rfl) ?_; refine eN hE ?_; simp [oneA, ren, renL, sideA, eV, nilV, valO])
end Go.AM
/- Kinds: expr.fold. -/
namespace Go.AM
open Go Go.RowKit
open Go.Proofs.YtoecmmpjndcolaaGreatDoor (OP nameM litM exprM exprFrom stepM popsM)
attribute [local irreducible] AWP retA
def foldR (x : Except Int (List Int)) : AV := match x with
  | .error e => madeA (.error e)
  | .ok st => madeA (.ok (st.getD 0 0))
theorem made_err {l : List CO} {o : OP} {a b e : Int} (h : madeM l o a b = .error e) : e ≠ 0 := by
  unfold madeM at h
  repeat' split at h
  all_goals cases h
  all_goals decide
theorem hgt_step {o : OP} {r : List OP} {n m : Nat} (h : hgt arO (o :: r) n = some m) : arO o ≤ n ∧ hgt arO r (n + 1 - arO o) = some m := by
  unfold hgt at h
  split at h
  · cases h
  · exact ⟨by omega, h⟩
set_option maxRecDepth 100000 in
set_option maxHeartbeats 8000000 in
theorem fold_con (G : List (Nat × List Value)) (u t : Bool) (l : List CO) (ops : List OP) (hl : l.length ≤ 1048576) (ho : ops.length ≤ 40) (hk : ∀ o ∈ ops, 1 ≤ o.k ∧ o.k ≤ 11) (hh : hgt arO ops 0 = some 1) :
    Con Go.Proofs.Tryz.prog G 55 [.ro t 5 (ops.map eO), .fn 56 [.re u [.ro true 2 (l.map eC)] 0]] [] 0 (Is (foldR (foldS arO (madeM l) 0 ops [])) [] 0) No := by
  refine con_of_awp Go.Proofs.Tryz.func55 rfl (by kernel_rfl) (of_decide_eq_true (by kernel_rfl)) ?_; intro E hG hE; subst hG; simp only [ent]
  (repeat' (first | refine awp_seq ?_ | refine awp_block ?_ | refine awp_skip ?_ | refine awp_exit ?_ | ((first | refine rR (fun K kp hK hkp => ?_) | refine iG ?_); simp (implicitDefEqProofs := false) (maxSteps := 2000000) (disch := omega) only [go_sem]; (repeat' (first | (refine hK _ ?_; clear hK hkp kp K) | (with_reducible refine And.intro ?_ ?_) | omega))) | ((first | refine aG (fun h => ?_) (fun h => ?_) | refine aD (fun h => ?_) (fun h => ?_) | refine aX (fun h => ?_) (fun h => ?_)) <;> simp only [h]) | refine awp_cond_t rfl ?_ | refine awp_cond_f rfl ?_ | ((refine awp_cond rfl (fun h => ?_) (fun h => ?_) <;> try simp only [ifs] at h) <;> (try (exfalso; omega))) | refine awp_ret ?_))
  (refine AWP.emb (emb_nil 7 3 1 ?_) ?_; (· rfl); dsimp only)
  refine awp_loop (fun q : Nat × List Int => ⟨[(18, .r (.int .i64 q.1)), (17, .r (.int .i64 ops.length)), (16, .ro t 5 (ops.map eO)), (7, .s 0 0 q.2.length), (1, .fn 56 [.re u [.ro true 2 (l.map eC)] 0]), (6, .r (.int .i64 0))], [(0, .lst 3 1 (q.2.map eI))], 1⟩)
    (fun q => q.1 ≤ ops.length ∧ q.2.length ≤ q.1 ∧ foldS arO (madeM l) 0 (ops.drop q.1) q.2 = foldS arO (madeM l) 0 ops [] ∧ hgt arO (ops.drop q.1) q.2.length = some 1) (fun q => ops.length - q.1) (0, []) ?_ ?_ ?_
  · exact ⟨by simp, by simp, by simp, by simpa using hh⟩
  · (refine emb [0] ?_ ?_ rfl ?_ ?_ ?_ ?_ <;> simp [okM, okO, lk, ren, renL, renNd, by_, hE] <;> (try omega))
  rintro ⟨k, st⟩ ⟨hkl, hsl, hno, hg⟩
  simp only at hkl hsl hno hg ⊢
  by_cases hlt : k < ops.length
  · obtain ⟨o, hx⟩ : ∃ x, ops[k]? = some x := ⟨ops[k], by simp [hlt]⟩
    obtain ⟨g1, g11⟩ := hk o (List.mem_of_getElem? hx)
    rw [drop_at hx] at hno hg
    obtain ⟨har, hg2⟩ := hgt_step hg
    have wc := works_con E.G o g1 g11
    rw [foldS] at hno
    have h2 := arO_le o
    obtain h0 | h0 | h0 : arO o = 0 ∨ arO o = 1 ∨ arO o = 2 := by omega
    · rw [h0] at wc hno hg2
      simp only [Int.cast_ofNat_Int] at wc
      have em : ((st.length : Int) - 0) = (st.length : Int) := by omega
      simp only [Nat.lt_irrefl, if_false, Nat.sub_zero, List.take_length, show ¬ 1 < 0 by omega] at hno
      have kc := kindOf1_con E.G u true l o 0 0 hl g1 g11
      cases hm : madeM l o 0 0 with
      | error e =>
        rw [hm] at kc hno; simp only [madeA, eO] at kc
        have he : (e != 0) = true := by simp [made_err hm]
        (repeat' (first | refine awp_seq ?_ | refine awp_block ?_ | refine awp_skip ?_ | refine awp_exit ?_ | ((first | refine rR (fun K kp hK hkp => ?_) | refine cR wc ?_ | refine cR kc ?_ | refine iG ?_); simp (implicitDefEqProofs := false) (maxSteps := 2000000) (disch := omega) only [go_sem, hx, eO, eI, he, em]; (repeat' (first | (refine hK _ ?_; clear hK hkp kp K) | (with_reducible refine And.intro ?_ ?_) | omega))) | ((first | refine aG (fun h => ?_) (fun h => ?_) | refine aD (fun h => ?_) (fun h => ?_) | refine aX (fun h => ?_) (fun h => ?_)) <;> simp only [h]) | refine awp_cond_t rfl ?_ | refine awp_cond_f rfl ?_ | ((refine awp_cond rfl (fun h => ?_) (fun h => ?_) <;> try simp only [ifs] at h) <;> (try (exfalso; omega))) | refine awp_ret ?_))
        rw [← hno]
        simp only [foldR, madeA]
        (refine retA_is (by (simp (implicitDefEqProofs := false) (maxSteps := 2000000) (disch := omega) only [go_sem, Go.Proofs.Tryz.results55]); rfl) ?_; refine eN hE ?_; simp [oneA, ren, renL])
      | ok x =>
        rw [hm] at kc hno; simp only [madeA, eO] at kc
        (repeat' (first | refine awp_seq ?_ | refine awp_block ?_ | refine awp_skip ?_ | refine awp_exit ?_ | ((first | refine rR (fun K kp hK hkp => ?_) | refine cR wc ?_ | refine cR kc ?_ | refine iG ?_); simp (implicitDefEqProofs := false) (maxSteps := 2000000) (disch := omega) only [go_sem, hx, eO, eI, em]; (repeat' (first | (refine hK _ ?_; clear hK hkp kp K) | (with_reducible refine And.intro ?_ ?_) | omega))) | ((first | refine aG (fun h => ?_) (fun h => ?_) | refine aD (fun h => ?_) (fun h => ?_) | refine aX (fun h => ?_) (fun h => ?_)) <;> simp only [h]) | refine awp_cond_t rfl ?_ | refine awp_cond_f rfl ?_ | ((refine awp_cond rfl (fun h => ?_) (fun h => ?_) <;> try simp only [ifs] at h) <;> (try (exfalso; omega))) | refine awp_ret ?_))
        ((first | (refine nextB ((k + 1, st ++ [x])) ?_ ?_ ?_) | (refine nextA ((k + 1, st ++ [x])) ?_ ?_ ?_)); rotate_left; (· (try dsimp only); (first | omega | (simp only [List.length_drop, List.length_cons, List.length_append]; omega) | (simp; done) | (simp; omega))); (· (refine emb [3] ?_ ?_ rfl ?_ ?_ ?_ ?_ <;> simp [okM, okO, lk, ren, renL, renNd, by_, hE, eI, hx] <;> (try omega))))
        exact ⟨by omega, by simp; omega, hno, by first | (rw [← hg2]; congr 1; simp; done) | (rw [← hg2]; congr 1; simp; omega)⟩
    · rw [h0] at wc hno hg2
      simp only [Int.cast_ofNat_Int] at wc
      obtain ⟨m, hm0⟩ : ∃ m, st.length = m + 1 := ⟨st.length - 1, by omega⟩
      have em : ((st.length : Int) - 1) = (m : Int) := by omega
      have em2 : st.length - 1 = m := by omega
      obtain ⟨a, ha⟩ : ∃ a, st[m]? = some a := ⟨st[m]'(by omega), by simp⟩
      have l1 : ((m : Int) < (st.length : Int)) = True := eq_true (by omega)
      have ga : st.getD m 0 = a := by rw [List.getD, ha]; rfl
      simp only [em2, show 0 < 1 by omega, Nat.lt_irrefl, if_true, if_false, ga] at hno
      have kc := kindOf1_con E.G u true l o a 0 hl g1 g11
      cases hm : madeM l o a 0 with
      | error e =>
        rw [hm] at kc hno; simp only [madeA, eO] at kc
        have he : (e != 0) = true := by simp [made_err hm]
        (repeat' (first | refine awp_seq ?_ | refine awp_block ?_ | refine awp_skip ?_ | refine awp_exit ?_ | ((first | refine rR (fun K kp hK hkp => ?_) | refine cR wc ?_ | refine cR kc ?_ | refine iG ?_); simp (implicitDefEqProofs := false) (maxSteps := 2000000) (disch := omega) only [go_sem, hx, eO, eI, he, em, ha, l1]; (repeat' (first | (refine hK _ ?_; clear hK hkp kp K) | (with_reducible refine And.intro ?_ ?_) | omega))) | ((first | refine aG (fun h => ?_) (fun h => ?_) | refine aD (fun h => ?_) (fun h => ?_) | refine aX (fun h => ?_) (fun h => ?_)) <;> simp only [h]) | refine awp_cond_t rfl ?_ | refine awp_cond_f rfl ?_ | ((refine awp_cond rfl (fun h => ?_) (fun h => ?_) <;> try simp only [ifs] at h) <;> (try (exfalso; omega))) | refine awp_ret ?_))
        rw [← hno]
        simp only [foldR, madeA]
        (refine retA_is (by (simp (implicitDefEqProofs := false) (maxSteps := 2000000) (disch := omega) only [go_sem, Go.Proofs.Tryz.results55]); rfl) ?_; refine eN hE ?_; simp [oneA, ren, renL])
      | ok x =>
        rw [hm] at kc hno; simp only [madeA, eO] at kc
        (repeat' (first | refine awp_seq ?_ | refine awp_block ?_ | refine awp_skip ?_ | refine awp_exit ?_ | ((first | refine rR (fun K kp hK hkp => ?_) | refine cR wc ?_ | refine cR kc ?_ | refine iG ?_); simp (implicitDefEqProofs := false) (maxSteps := 2000000) (disch := omega) only [go_sem, hx, eO, eI, em, ha, l1]; (repeat' (first | (refine hK _ ?_; clear hK hkp kp K) | (with_reducible refine And.intro ?_ ?_) | omega))) | ((first | refine aG (fun h => ?_) (fun h => ?_) | refine aD (fun h => ?_) (fun h => ?_) | refine aX (fun h => ?_) (fun h => ?_)) <;> simp only [h]) | refine awp_cond_t rfl ?_ | refine awp_cond_f rfl ?_ | ((refine awp_cond rfl (fun h => ?_) (fun h => ?_) <;> try simp only [ifs] at h) <;> (try (exfalso; omega))) | refine awp_ret ?_))
        ((first | (refine nextB ((k + 1, st.take m ++ [x])) ?_ ?_ ?_) | (refine nextA ((k + 1, st.take m ++ [x])) ?_ ?_ ?_)); rotate_left; (· (try dsimp only); (first | omega | (simp only [List.length_drop, List.length_cons, List.length_append]; omega) | (simp; done) | (simp; omega))); (· (refine emb [3] ?_ ?_ rfl ?_ ?_ ?_ ?_ <;> simp [okM, okO, lk, ren, renL, renNd, by_, hE, eI, List.map_take] <;> (try omega))))
        exact ⟨by omega, by simp; omega, hno, by first | (rw [← hg2]; congr 1; simp; done) | (rw [← hg2]; congr 1; simp; omega)⟩
    · rw [h0] at wc hno hg2
      simp only [Int.cast_ofNat_Int] at wc
      obtain ⟨m, hm0⟩ : ∃ m, st.length = m + 2 := ⟨st.length - 2, by omega⟩
      have em : ((st.length : Int) - 2) = (m : Int) := by omega
      have em2 : st.length - 2 = m := by omega
      obtain ⟨a, ha⟩ : ∃ a, st[m]? = some a := ⟨st[m]'(by omega), by simp⟩
      have l1 : ((m : Int) < (st.length : Int)) = True := eq_true (by omega)
      have ga : st.getD m 0 = a := by rw [List.getD, ha]; rfl
      obtain ⟨b, hb⟩ : ∃ b, st[m + 1]? = some b := ⟨st[m + 1]'(by omega), by simp⟩
      have l2 : ((m : Int) + 1 < (st.length : Int)) = True := eq_true (by omega)
      have gb : st.getD (m + 1) 0 = b := by rw [List.getD, hb]; rfl
      simp only [em2, show 0 < 2 by omega, show 1 < 2 by omega, if_true, ga, gb] at hno
      have kc := kindOf1_con E.G u true l o a b hl g1 g11
      cases hm : madeM l o a b with
      | error e =>
        rw [hm] at kc hno; simp only [madeA, eO] at kc
        have he : (e != 0) = true := by simp [made_err hm]
        (repeat' (first | refine awp_seq ?_ | refine awp_block ?_ | refine awp_skip ?_ | refine awp_exit ?_ | ((first | refine rR (fun K kp hK hkp => ?_) | refine cR wc ?_ | refine cR kc ?_ | refine iG ?_); simp (implicitDefEqProofs := false) (maxSteps := 2000000) (disch := omega) only [go_sem, hx, eO, eI, he, em, ha, l1, hb, l2]; (repeat' (first | (refine hK _ ?_; clear hK hkp kp K) | (with_reducible refine And.intro ?_ ?_) | omega))) | ((first | refine aG (fun h => ?_) (fun h => ?_) | refine aD (fun h => ?_) (fun h => ?_) | refine aX (fun h => ?_) (fun h => ?_)) <;> simp only [h]) | refine awp_cond_t rfl ?_ | refine awp_cond_f rfl ?_ | ((refine awp_cond rfl (fun h => ?_) (fun h => ?_) <;> try simp only [ifs] at h) <;> (try (exfalso; omega))) | refine awp_ret ?_))
        rw [← hno]
        simp only [foldR, madeA]
        (refine retA_is (by (simp (implicitDefEqProofs := false) (maxSteps := 2000000) (disch := omega) only [go_sem, Go.Proofs.Tryz.results55]); rfl) ?_; refine eN hE ?_; simp [oneA, ren, renL])
      | ok x =>
        rw [hm] at kc hno; simp only [madeA, eO] at kc
        (repeat' (first | refine awp_seq ?_ | refine awp_block ?_ | refine awp_skip ?_ | refine awp_exit ?_ | ((first | refine rR (fun K kp hK hkp => ?_) | refine cR wc ?_ | refine cR kc ?_ | refine iG ?_); simp (implicitDefEqProofs := false) (maxSteps := 2000000) (disch := omega) only [go_sem, hx, eO, eI, em, ha, l1, hb, l2]; (repeat' (first | (refine hK _ ?_; clear hK hkp kp K) | (with_reducible refine And.intro ?_ ?_) | omega))) | ((first | refine aG (fun h => ?_) (fun h => ?_) | refine aD (fun h => ?_) (fun h => ?_) | refine aX (fun h => ?_) (fun h => ?_)) <;> simp only [h]) | refine awp_cond_t rfl ?_ | refine awp_cond_f rfl ?_ | ((refine awp_cond rfl (fun h => ?_) (fun h => ?_) <;> try simp only [ifs] at h) <;> (try (exfalso; omega))) | refine awp_ret ?_))
        ((first | (refine nextB ((k + 1, st.take m ++ [x])) ?_ ?_ ?_) | (refine nextA ((k + 1, st.take m ++ [x])) ?_ ?_ ?_)); rotate_left; (· (try dsimp only); (first | omega | (simp only [List.length_drop, List.length_cons, List.length_append]; omega) | (simp; done) | (simp; omega))); (· (refine emb [3] ?_ ?_ rfl ?_ ?_ ?_ ?_ <;> simp [okM, okO, lk, ren, renL, renNd, by_, hE, eI, List.map_take] <;> (try omega))))
        exact ⟨by omega, by simp; omega, hno, by first | (rw [← hg2]; congr 1; simp; done) | (rw [← hg2]; congr 1; simp; omega)⟩
  · have hgz : st.length = 1 := by rw [List.drop_of_length_le (by omega)] at hg; simpa [hgt] using hg
    obtain ⟨x, rfl⟩ : ∃ x, st = [x] := List.length_eq_one_iff.1 hgz
    rw [List.drop_of_length_le (by omega), foldS] at hno
    rw [← hno]
    simp only [foldR, madeA]
    (repeat' (first | refine awp_seq ?_ | refine awp_block ?_ | refine awp_skip ?_ | refine awp_exit ?_ | ((first | refine rR (fun K kp hK hkp => ?_) | refine iG ?_); simp (implicitDefEqProofs := false) (maxSteps := 2000000) (disch := omega) only [go_sem, eI]; (repeat' (first | (refine hK _ ?_; clear hK hkp kp K) | (with_reducible refine And.intro ?_ ?_) | omega))) | ((first | refine aG (fun h => ?_) (fun h => ?_) | refine aD (fun h => ?_) (fun h => ?_) | refine aX (fun h => ?_) (fun h => ?_)) <;> simp only [h]) | refine awp_cond_t rfl ?_ | refine awp_cond_f rfl ?_ | ((refine awp_cond rfl (fun h => ?_) (fun h => ?_) <;> try simp only [ifs] at h) <;> (try (exfalso; omega))) | refine awp_ret ?_))
    (refine retA_is (by (simp (implicitDefEqProofs := false) (maxSteps := 2000000) (disch := omega) only [go_sem, Go.Proofs.Tryz.results55, eI]); rfl) ?_; refine eN hE ?_; simp [oneA, ren, renL, eI])
end Go.AM
/- Kinds: the reference's kindOf: from the last op down. -/
namespace Go.AM
open Go Go.RowKit
open Go.Proofs.YtoecmmpjndcolaaGreatDoor (OP nameM litM exprM exprFrom stepM popsM)
attribute [local irreducible] AWP retA
theorem evT_err {l : List CO} : ∀ {tr : RT OP} {e : Int}, evT (madeM l) 0 tr = .error e → e ≠ 0
  | .l o, e, h => made_err h
  | .u o s, e, h => by
    rw [evT] at h
    split at h
    · rename_i e' h'; cases h; exact evT_err h'
    · exact made_err h
  | .b o s t, e, h => by
    rw [evT] at h
    split at h
    · rename_i e' h'; cases h; exact evT_err h'
    split at h
    · rename_i e' h'; cases h; exact evT_err h'
    · exact made_err h
theorem ar_ks {o : OP} (h1 : 1 ≤ o.k) (h11 : o.k ≤ 11) : (arO o = 0 → o.k = 1 ∨ o.k = 2) ∧ (arO o = 1 → o.k = 5 ∨ o.k = 11) ∧ (arO o = 2 → o.k = 3 ∨ o.k = 4 ∨ o.k = 6 ∨ o.k = 7 ∨ o.k = 8 ∨ o.k = 9 ∨ o.k = 10) := by
  obtain h | h | h | h | h | h | h | h | h | h | h : o.k = 1 ∨ o.k = 2 ∨ o.k = 3 ∨ o.k = 4 ∨ o.k = 5 ∨ o.k = 6 ∨ o.k = 7 ∨ o.k = 8 ∨ o.k = 9 ∨ o.k = 10 ∨ o.k = 11 := by omega
  all_goals simp [arO, popsM, h]
set_option maxRecDepth 100000 in
set_option maxHeartbeats 8000000 in
theorem kindOfR_con (G : List (Nat × List Value)) (u t : Bool) (l : List CO) (hl : l.length ≤ 1048576) : ∀ tr : RT OP, tr.wf arO → (∀ o ∈ tr.flat, 1 ≤ o.k ∧ o.k ≤ 11) → tr.flat.length ≤ 1000 → Con Go.Proofs.Tryz.prog G 38 [.ro u 2 (l.map eC), .ro t 5 (tr.flat.map eO)] [] 0 (Is (madeA (evT (madeM l) 0 tr)) [] 0) No
  | .l o, hw, hk, hn => by
    obtain ⟨k1, k11⟩ := hk o (by simp [RT.flat])
    simp only [RT.wf] at hw
    simp only [RT.flat, List.map_cons, List.map_nil, evT]
    refine con_of_awp Go.Proofs.Tryz.func38 rfl (by kernel_rfl) (of_decide_eq_true (by kernel_rfl)) ?_; intro E hG hE; subst hG; simp only [ent]
    have fc := colOf_con E.G u l o.nm hl
    obtain h | h := (ar_ks k1 k11).1 hw
    · (repeat' (first | refine awp_seq ?_ | refine awp_block ?_ | refine awp_skip ?_ | refine awp_exit ?_ | ((first | refine rR (fun K kp hK hkp => ?_) | refine iG ?_); simp (implicitDefEqProofs := false) (maxSteps := 2000000) (disch := omega) only [go_sem, eO, h]; (repeat' (first | (refine hK _ ?_; clear hK hkp kp K) | (with_reducible refine And.intro ?_ ?_) | omega))) | ((first | refine aG (fun h => ?_) (fun h => ?_) | refine aD (fun h => ?_) (fun h => ?_) | refine aX (fun h => ?_) (fun h => ?_)) <;> simp only [h]) | refine awp_cond_t rfl ?_ | refine awp_cond_f rfl ?_ | ((refine awp_cond rfl (fun h => ?_) (fun h => ?_) <;> try simp only [ifs] at h) <;> (try (exfalso; omega))) | refine awp_ret ?_))
      (refine retA_is (by (simp (implicitDefEqProofs := false) (maxSteps := 2000000) (disch := omega) only [go_sem, Go.Proofs.Tryz.results38, madeM, h, madeA]); rfl) ?_; refine eN hE ?_; simp [oneA, ren, renL, madeM, h, madeA])
    · by_cases hf : findM l o.nm < 0
      · have d1 : decide (findM l o.nm < 0) = true := decide_eq_true hf
        (repeat' (first | refine awp_seq ?_ | refine awp_block ?_ | refine awp_skip ?_ | refine awp_exit ?_ | ((first | refine rR (fun K kp hK hkp => ?_) | refine cR fc ?_ | refine iG ?_); simp (implicitDefEqProofs := false) (maxSteps := 2000000) (disch := omega) only [go_sem, eO, h, d1]; (repeat' (first | (refine hK _ ?_; clear hK hkp kp K) | (with_reducible refine And.intro ?_ ?_) | omega))) | ((first | refine aG (fun h => ?_) (fun h => ?_) | refine aD (fun h => ?_) (fun h => ?_) | refine aX (fun h => ?_) (fun h => ?_)) <;> simp only [h]) | refine awp_cond_t rfl ?_ | refine awp_cond_f rfl ?_ | ((refine awp_cond rfl (fun h => ?_) (fun h => ?_) <;> try simp only [ifs] at h) <;> (try (exfalso; omega))) | refine awp_ret ?_))
        (refine retA_is (by (simp (implicitDefEqProofs := false) (maxSteps := 2000000) (disch := omega) only [go_sem, Go.Proofs.Tryz.results38, madeM, h, hf, madeA]); rfl) ?_; refine eN hE ?_; simp [oneA, ren, renL, madeM, h, hf, madeA])
      · have d1 : decide (findM l o.nm < 0) = false := decide_eq_false hf
        obtain ⟨c, hc⟩ := findM_lt l o.nm hf
        have hg : (0 ≤ findM l o.nm) = True := eq_true (by omega)
        (repeat' (first | refine awp_seq ?_ | refine awp_block ?_ | refine awp_skip ?_ | refine awp_exit ?_ | ((first | refine rR (fun K kp hK hkp => ?_) | refine cR fc ?_ | refine iG ?_); simp (implicitDefEqProofs := false) (maxSteps := 2000000) (disch := omega) only [go_sem, eO, h, d1, hc, hg, eC]; (repeat' (first | (refine hK _ ?_; clear hK hkp kp K) | (with_reducible refine And.intro ?_ ?_) | omega))) | ((first | refine aG (fun h => ?_) (fun h => ?_) | refine aD (fun h => ?_) (fun h => ?_) | refine aX (fun h => ?_) (fun h => ?_)) <;> simp only [h]) | refine awp_cond_t rfl ?_ | refine awp_cond_f rfl ?_ | ((refine awp_cond rfl (fun h => ?_) (fun h => ?_) <;> try simp only [ifs] at h) <;> (try (exfalso; omega))) | refine awp_ret ?_))
        (refine retA_is (by (simp (implicitDefEqProofs := false) (maxSteps := 2000000) (disch := omega) only [go_sem, Go.Proofs.Tryz.results38, madeM, h, hf, hc, madeA]); rfl) ?_; refine eN hE ?_; simp [oneA, ren, renL, madeM, h, hf, hc, madeA])
  | .u o s, hw, hk, hn => by
    obtain ⟨hw1, hw2⟩ := hw
    obtain ⟨k1, k11⟩ := hk o (by simp [RT.flat])
    have ih := kindOfR_con G u t l hl s hw2 (fun x hx => hk x (by simp [RT.flat, hx])) (by simp [RT.flat] at hn; omega)
    obtain ⟨ops, hops⟩ : ∃ ops, ops = (RT.u o s).flat := ⟨_, rfl⟩
    rw [← hops]
    obtain ⟨n, hne⟩ : ∃ n, n = s.flat.length := ⟨_, rfl⟩
    have hln : ops.length = n + 1 := by rw [hops, hne]; simp [RT.flat]
    have hx : ops[n]? = some o := by rw [hops, hne]; simp [RT.flat]
    have htk : ops.take n = s.flat := by rw [hops, hne]; simp [RT.flat]
    have e1 : (ops.length : Int) - 1 = (n : Nat) := by omega
    have hle : n ≤ 1000 := by rw [← hops] at hn; omega
    have hmt : s.flat.map eO = (ops.map eO).take n := by rw [← List.map_take, htk]
    rw [hmt] at ih
    have hle2 : (n : Int) ≤ ops.length := by omega
    have wc := works2_con G o.k
    have hpa : popsM o.k = 1 := by have := Go.Proofs.YtoecmmpjndcolaaGreatDoor.popsM_bd o.k; unfold arO at hw1; omega
    rw [hpa] at wc
    cases hm : evT (madeM l) 0 s with
    | error e =>
      have he : (e != 0) = true := by simp [evT_err hm]
      rw [show evT (madeM l) 0 (RT.u o s) = .error e by rw [evT, hm]]
      rw [hm] at ih; simp only [madeA] at ih ⊢
      obtain h | h := (ar_ks k1 k11).2.1 hw1
      all_goals
        rw [h] at wc
        refine con_of_awp Go.Proofs.Tryz.func38 rfl (by kernel_rfl) (of_decide_eq_true (by kernel_rfl)) ?_; intro E hG hE; subst hG; simp only [ent]
        (repeat' (first | refine awp_seq ?_ | refine awp_block ?_ | refine awp_skip ?_ | refine awp_exit ?_ | ((first | refine rR (fun K kp hK hkp => ?_) | refine cR wc ?_ | refine cR ih ?_ | refine iG ?_); simp (implicitDefEqProofs := false) (maxSteps := 2000000) (disch := omega) only [go_sem, eO, h, hx, e1, he]; (repeat' (first | (refine hK _ ?_; clear hK hkp kp K) | (with_reducible refine And.intro ?_ ?_) | omega))) | ((first | refine aG (fun h => ?_) (fun h => ?_) | refine aD (fun h => ?_) (fun h => ?_) | refine aX (fun h => ?_) (fun h => ?_)) <;> simp only [h]) | refine awp_cond_t rfl ?_ | refine awp_cond_f rfl ?_ | ((refine awp_cond rfl (fun h => ?_) (fun h => ?_) <;> try simp only [ifs] at h) <;> (try (exfalso; omega))) | refine awp_ret ?_))
        (refine retA_is (by (simp (implicitDefEqProofs := false) (maxSteps := 2000000) (disch := omega) only [go_sem, Go.Proofs.Tryz.results38]); rfl) ?_; refine eN hE ?_; simp [oneA, ren, renL])
    | ok a =>
      rw [show evT (madeM l) 0 (RT.u o s) = madeM l o a 0 by rw [evT, hm]]
      rw [hm] at ih; simp only [madeA] at ih
      obtain h | h := (ar_ks k1 k11).2.1 hw1
      · rw [h] at wc
        refine con_of_awp Go.Proofs.Tryz.func38 rfl (by kernel_rfl) (of_decide_eq_true (by kernel_rfl)) ?_; intro E hG hE; subst hG; simp only [ent]
        (repeat' (first | refine awp_seq ?_ | refine awp_block ?_ | refine awp_skip ?_ | refine awp_exit ?_ | ((first | refine rR (fun K kp hK hkp => ?_) | refine cR wc ?_ | refine cR ih ?_ | refine iG ?_); simp (implicitDefEqProofs := false) (maxSteps := 2000000) (disch := omega) only [go_sem, eO, h, hx, e1]; (repeat' (first | (refine hK _ ?_; clear hK hkp kp K) | (with_reducible refine And.intro ?_ ?_) | omega))) | ((first | refine aG (fun h => ?_) (fun h => ?_) | refine aD (fun h => ?_) (fun h => ?_) | refine aX (fun h => ?_) (fun h => ?_)) <;> simp only [h]) | refine awp_cond_t rfl ?_ | refine awp_cond_f rfl ?_ | ((refine awp_cond rfl (fun h => ?_) (fun h => ?_) <;> try simp only [ifs] at h) <;> (try (exfalso; omega))) | refine awp_ret ?_))
        all_goals (refine retA_is (by (simp (implicitDefEqProofs := false) (maxSteps := 2000000) (disch := omega) only [go_sem, Go.Proofs.Tryz.results38]); rfl) ?_; refine (embV_nil hE (by simp) ?_).s; clear hE hops wc ih; simp_all [oneA, ren, renL, madeM, madeA, isK])
      · rw [h] at wc
        refine con_of_awp Go.Proofs.Tryz.func38 rfl (by kernel_rfl) (of_decide_eq_true (by kernel_rfl)) ?_; intro E hG hE; subst hG; simp only [ent]
        (repeat' (first | refine awp_seq ?_ | refine awp_block ?_ | refine awp_skip ?_ | refine awp_exit ?_ | ((first | refine rR (fun K kp hK hkp => ?_) | refine cR wc ?_ | refine cR ih ?_ | refine iG ?_); simp (implicitDefEqProofs := false) (maxSteps := 2000000) (disch := omega) only [go_sem, eO, h, hx, e1]; (repeat' (first | (refine hK _ ?_; clear hK hkp kp K) | (with_reducible refine And.intro ?_ ?_) | omega))) | ((first | refine aG (fun h => ?_) (fun h => ?_) | refine aD (fun h => ?_) (fun h => ?_) | refine aX (fun h => ?_) (fun h => ?_)) <;> simp only [h]) | refine awp_cond_t rfl ?_ | refine awp_cond_f rfl ?_ | ((refine awp_cond rfl (fun h => ?_) (fun h => ?_) <;> try simp only [ifs] at h) <;> (try (exfalso; omega))) | refine awp_ret ?_))
        (refine retA_is (by (simp (implicitDefEqProofs := false) (maxSteps := 2000000) (disch := omega) only [go_sem, Go.Proofs.Tryz.results38, madeM, h, madeA]); rfl) ?_; refine eN hE ?_; simp [oneA, ren, renL, madeM, h, madeA])
  | .b o r s, hw, hk, hn => by
    obtain ⟨hw1, hw2, hw3⟩ := hw
    obtain ⟨k1, k11⟩ := hk o (by simp [RT.flat])
    have ihr := kindOfR_con G u t l hl r hw2 (fun x hx => hk x (by simp [RT.flat, hx])) (by simp [RT.flat] at hn; omega)
    have ihs := kindOfR_con G u t l hl s hw3 (fun x hx => hk x (by simp [RT.flat, hx])) (by simp [RT.flat] at hn; omega)
    obtain ⟨ops, hops⟩ : ∃ ops, ops = (RT.b o r s).flat := ⟨_, rfl⟩
    rw [← hops]
    obtain ⟨m, hme⟩ : ∃ m, m = r.flat.length := ⟨_, rfl⟩
    obtain ⟨n, hne⟩ : ∃ n, n = r.flat.length + s.flat.length := ⟨_, rfl⟩
    have hln : ops.length = n + 1 := by rw [hops, hne]; simp [RT.flat]; omega
    have hx : ops[n]? = some o := by rw [hops, hne, ← List.length_append]; simp only [RT.flat]; exact List.getElem?_concat_length
    have htk : ops.take n = r.flat ++ s.flat := by rw [hops, hne, ← List.length_append]; simp only [RT.flat]; exact List.take_left
    have htm : ops.take m = r.flat := by rw [hops, hme]; simp [RT.flat]
    have e1 : (ops.length : Int) - 1 = (n : Nat) := by omega
    have hle : n ≤ 1000 := by rw [← hops] at hn; omega
    have hmr : r.flat.map eO = (ops.map eO).take m := by rw [← List.map_take, htm]
    have hms : s.flat.map eO = ((ops.map eO).take n).drop m := by rw [← List.map_take, ← List.map_drop, htk, hme]; simp
    rw [hmr] at ihr
    rw [hms] at ihs
    have hbe : begM arO ops n = m := by rw [hops, hne, hme]; have := begM_tree (ar := arO) r.flat s [o] hw3; simpa [RT.flat] using this
    have bc := begins_con G t ops n (by rw [hops]; exact hn) (by omega) (by
      intro i k hi hc
      rcases Nat.eq_zero_or_pos i with rfl | h0
      · exfalso
        have hp := RT.flat_pos r
        unfold begM at hbe
        simp only [List.take_zero, List.reverse_nil, cnt, Nat.add_zero, Nat.sub_zero] at hc
        omega
      · exact h0)
    rw [hbe] at bc
    have wc := works2_con G o.k
    have hpa : popsM o.k = 2 := by have := Go.Proofs.YtoecmmpjndcolaaGreatDoor.popsM_bd o.k; unfold arO at hw1; omega
    rw [hpa] at wc
    cases hm1 : evT (madeM l) 0 r with
    | error e =>
      have he : (e != 0) = true := by simp [evT_err hm1]
      have he2 : (e == 0) = false := by simp [evT_err hm1]
      rw [show evT (madeM l) 0 (RT.b o r s) = .error e by rw [evT, hm1]]
      rw [hm1] at ihr; simp only [madeA] at ihr ⊢
      obtain h | h | h | h | h | h | h := (ar_ks k1 k11).2.2 hw1
      all_goals
        rw [h] at wc
        refine con_of_awp Go.Proofs.Tryz.func38 rfl (by kernel_rfl) (of_decide_eq_true (by kernel_rfl)) ?_; intro E hG hE; subst hG; simp only [ent]
        (repeat' (first | refine awp_seq ?_ | refine awp_block ?_ | refine awp_skip ?_ | refine awp_exit ?_ | ((first | refine rR (fun K kp hK hkp => ?_) | refine cR wc ?_ | refine cR ihr ?_ | refine cR bc ?_ | refine iG ?_); simp (implicitDefEqProofs := false) (maxSteps := 2000000) (disch := omega) only [go_sem, eO, h, hx, e1, he, he2]; (repeat' (first | (refine hK _ ?_; clear hK hkp kp K) | (with_reducible refine And.intro ?_ ?_) | omega))) | ((first | refine aG (fun h => ?_) (fun h => ?_) | refine aD (fun h => ?_) (fun h => ?_) | refine aX (fun h => ?_) (fun h => ?_)) <;> simp only [h]) | refine awp_cond_t rfl ?_ | refine awp_cond_f rfl ?_ | ((refine awp_cond rfl (fun h => ?_) (fun h => ?_) <;> try simp only [ifs] at h) <;> (try (exfalso; omega))) | refine awp_ret ?_))
        (refine retA_is (by (simp (implicitDefEqProofs := false) (maxSteps := 2000000) (disch := omega) only [go_sem, Go.Proofs.Tryz.results38]); rfl) ?_; refine eN hE ?_; simp [oneA, ren, renL])
    | ok a => 
    cases hm2 : evT (madeM l) 0 s with
    | error e =>
      have he : (e != 0) = true := by simp [evT_err hm2]
      rw [show evT (madeM l) 0 (RT.b o r s) = .error e by rw [evT, hm1, hm2]]
      rw [hm1] at ihr; rw [hm2] at ihs; simp only [madeA] at ihr ihs ⊢
      obtain h | h | h | h | h | h | h := (ar_ks k1 k11).2.2 hw1
      all_goals
        rw [h] at wc
        refine con_of_awp Go.Proofs.Tryz.func38 rfl (by kernel_rfl) (of_decide_eq_true (by kernel_rfl)) ?_; intro E hG hE; subst hG; simp only [ent]
        (repeat' (first | refine awp_seq ?_ | refine awp_block ?_ | refine awp_skip ?_ | refine awp_exit ?_ | ((first | refine rR (fun K kp hK hkp => ?_) | refine cR wc ?_ | refine cR ihs ?_ | refine cR ihr ?_ | refine cR bc ?_ | refine iG ?_); simp (implicitDefEqProofs := false) (maxSteps := 2000000) (disch := omega) only [go_sem, eO, h, hx, e1, he]; (repeat' (first | (refine hK _ ?_; clear hK hkp kp K) | (with_reducible refine And.intro ?_ ?_) | omega))) | ((first | refine aG (fun h => ?_) (fun h => ?_) | refine aD (fun h => ?_) (fun h => ?_) | refine aX (fun h => ?_) (fun h => ?_)) <;> simp only [h]) | refine awp_cond_t rfl ?_ | refine awp_cond_f rfl ?_ | ((refine awp_cond rfl (fun h => ?_) (fun h => ?_) <;> try simp only [ifs] at h) <;> (try (exfalso; omega))) | refine awp_ret ?_))
        (refine retA_is (by (simp (implicitDefEqProofs := false) (maxSteps := 2000000) (disch := omega) only [go_sem, Go.Proofs.Tryz.results38]); rfl) ?_; refine eN hE ?_; simp [oneA, ren, renL])
    | ok b =>
      rw [show evT (madeM l) 0 (RT.b o r s) = madeM l o a b by rw [evT, hm1, hm2]]
      rw [hm1] at ihr; rw [hm2] at ihs; simp only [madeA] at ihr ihs
      obtain h | h | h | h | h | h | h := (ar_ks k1 k11).2.2 hw1
      all_goals
        rw [h] at wc
        refine con_of_awp Go.Proofs.Tryz.func38 rfl (by kernel_rfl) (of_decide_eq_true (by kernel_rfl)) ?_; intro E hG hE; subst hG; simp only [ent]
        (repeat' (first | refine awp_seq ?_ | refine awp_block ?_ | refine awp_skip ?_ | refine awp_exit ?_ | ((first | refine rR (fun K kp hK hkp => ?_) | refine cR wc ?_ | refine cR ihs ?_ | refine cR ihr ?_ | refine cR bc ?_ | refine iG ?_); simp (implicitDefEqProofs := false) (maxSteps := 2000000) (disch := omega) only [go_sem, eO, h, hx, e1]; (repeat' (first | (refine hK _ ?_; clear hK hkp kp K) | (with_reducible refine And.intro ?_ ?_) | omega))) | ((first | refine aG (fun h => ?_) (fun h => ?_) | refine aD (fun h => ?_) (fun h => ?_) | refine aX (fun h => ?_) (fun h => ?_)) <;> simp only [h]) | refine awp_cond_t rfl ?_ | refine awp_cond_f rfl ?_ | ((refine awp_cond rfl (fun h => ?_) (fun h => ?_) <;> try simp only [ifs] at h) <;> (try (exfalso; omega))) | refine awp_ret ?_))
        all_goals (refine retA_is (by (simp (implicitDefEqProofs := false) (maxSteps := 2000000) (disch := omega) only [go_sem, Go.Proofs.Tryz.results38]); rfl) ?_; refine (embV_nil hE (by simp) ?_).s; clear hE hops wc ihs ihr bc; simp_all [oneA, ren, renL, madeM, madeA, isK])
end Go.AM
/- Bounds: the reference's side, whole; musts. -/
namespace Go.AM
open Go Go.RowKit
open Go.Proofs.YtoecmmpjndcolaaGreatDoor (OP nameM litM exprM exprFrom stepM popsM vcheck)
attribute [local irreducible] AWP retA
theorem side_con (G : List (Nat × List Value)) (t : Bool) (key : ByteArray) (ops : List OP) (n : Nat) (o : OP) (hn : ops.length = n + 1) (hx : ops[n]? = some o) (hl : n ≤ 1000) :
    Con Go.Proofs.Tryz.prog G 23 [.r (.string key), .ro t 5 (ops.map eO)] [] 0 (Is (sideA (sideM key ops)) [] 0) No := by
  by_cases h5 : o.k = 5
  · by_cases h : n = 3
    · subst h
      match ops, hn, hx with
      | [a, b, c, d], _, hx =>
        obtain rfl : d = o := by simpa using hx
        have e : sideM key [a, b, c, d] = sayM key true [a, b, c] := by
          rw [sideM]
          simp only [List.getLast?_cons_cons, List.getLast?_singleton, if_pos h5]
          rfl
        rw [e]
        exact side_three G t key true a b c d h5 (fun h => by cases h)
    · exact side_short G t key ops n o hn hx hl (by rw [if_pos h5]; exact h)
  · by_cases h : n = 2
    · subst h
      match ops, hn, hx with
      | [a, b, c], _, hx =>
        obtain rfl : c = o := by simpa using hx
        have e : sideM key [a, b, c] = sayM key false [a, b, c] := by
          rw [sideM]
          simp only [List.getLast?_cons_cons, List.getLast?_singleton, if_neg h5]
        rw [e]
        exact side_three G t key false a b c ⟨5, 0, 0, ⟨#[]⟩, ⟨#[]⟩⟩ rfl (fun _ => h5)
    · exact side_short G t key ops n o hn hx hl (by rw [if_neg h5]; exact h)
def eP (l : List OP) : List AV := [.ro true 5 (l.map eO)]
@[simp] theorem ptA_eO2 (a : OP) : (∀ x, x ∈ eO a → PT x) = True := eq_true (by intro x hx; simp [eO] at hx; rcases hx with rfl | rfl | rfl | rfl | rfl <;> exact .r _)
instance : PTf eO := ⟨fun a => of_eq_true (ptA_eO2 a)⟩
@[simp] theorem ptA_eP (a : List OP) : (∀ x, x ∈ eP a → PT x) = True := eq_true (by intro x hx; simp only [eP, List.mem_singleton] at hx; subst hx; exact .ro _ _ (pt_map _ _))
instance : PTf eP := ⟨fun a => of_eq_true (ptA_eP a)⟩
theorem parts_len : ∀ tr : RT OP, (partsT tr).length ≤ tr.flat.length
  | .l o => by simp [partsT, RT.flat]
  | .u o s => by simp [partsT, RT.flat]
  | .b o p q => by
    have h1 := parts_len p
    have h2 := parts_len q
    rw [partsT]
    split
    · simp [RT.flat]; omega
    · simp [RT.flat]; omega
set_option maxRecDepth 100000 in
set_option maxHeartbeats 8000000 in
theorem musts_con (G : List (Nat × List Value)) : ∀ tr : RT OP, tr.wf arO → (∀ o ∈ tr.flat, 1 ≤ o.k ∧ o.k ≤ 11) → tr.flat.length ≤ 1000 →
    Con Go.Proofs.Tryz.prog G 22 [.ro true 5 (tr.flat.map eO)] [] 0 (Is (.s 0 0 (partsT tr).length) [(0, .lst 24 1 ((partsT tr).map eP))] 1) No
  | .l o, hw, hk, hn => by
    have k0 := hk o (by simp [RT.flat])
    have h3 : (o.k != 3) = true := by simp only [RT.wf] at hw; simp; rcases (ar_ks k0.1 k0.2).1 hw with h | h <;> omega
    simp only [partsT, RT.flat, List.map_cons, List.map_nil, List.length_singleton, eP]
    refine con_of_awp Go.Proofs.Tryz.func22 rfl (by kernel_rfl) (of_decide_eq_true (by kernel_rfl)) ?_; intro E hG hE; subst hG; simp only [ent]
    (repeat' (first | refine awp_seq ?_ | refine awp_block ?_ | refine awp_skip ?_ | refine awp_exit ?_ | ((first | refine rR (fun K kp hK hkp => ?_) | refine rD (id := 5) mixed 9 [0,1,2,4,5,6,7,3,8] (fun K kp hK hkp => ?_) | refine iG ?_ | refine iD ?_); simp (implicitDefEqProofs := false) (maxSteps := 2000000) (disch := omega) only [go_sem, eO, h3]; (repeat' (first | (refine hK _ ?_; clear hK hkp kp K) | (with_reducible refine And.intro ?_ ?_) | omega))) | ((first | refine aG (fun h => ?_) (fun h => ?_) | refine aD (fun h => ?_) (fun h => ?_) | refine aX (fun h => ?_) (fun h => ?_)) <;> simp only [h]) | refine awp_cond_t rfl ?_ | refine awp_cond_f rfl ?_ | ((refine awp_cond rfl (fun h => ?_) (fun h => ?_) <;> try simp only [ifs] at h) <;> (try (exfalso; omega))) | refine awp_ret ?_))
    (refine retA_is (by (simp (implicitDefEqProofs := false) (maxSteps := 2000000) (disch := omega) only [go_sem, Go.Proofs.Tryz.results22, eO]); rfl) ?_; refine (embV [0] ?_ ?_ ?_ ?_ ?_ ?_).s <;> simp [oneA, okO, lk, ren, renL, renNd, by_, hE, eO])
  | .u o s, hw, hk, hn => by
    have k0 := hk o (by simp [RT.flat])
    have h3 : (o.k != 3) = true := by simp; rcases (ar_ks k0.1 k0.2).2.1 hw.1 with h | h <;> omega
    simp only [partsT, List.map_cons, List.map_nil, List.length_singleton, eP]
    obtain ⟨ops, hops⟩ : ∃ ops, ops = (RT.u o s).flat := ⟨_, rfl⟩
    rw [← hops]
    obtain ⟨n, hne⟩ : ∃ n, n = s.flat.length := ⟨_, rfl⟩
    have hln : ops.length = n + 1 := by rw [hops, hne]; simp [RT.flat]
    have hx : ops[n]? = some o := by rw [hops, hne]; simp [RT.flat]
    have e1 : (ops.length : Int) - 1 = (n : Nat) := by omega
    rw [← hops] at hn
    refine con_of_awp Go.Proofs.Tryz.func22 rfl (by kernel_rfl) (of_decide_eq_true (by kernel_rfl)) ?_; intro E hG hE; subst hG; simp only [ent]
    (repeat' (first | refine awp_seq ?_ | refine awp_block ?_ | refine awp_skip ?_ | refine awp_exit ?_ | ((first | refine rR (fun K kp hK hkp => ?_) | refine rD (id := 5) mixed 9 [0,1,2,4,5,6,7,3,8] (fun K kp hK hkp => ?_) | refine iG ?_ | refine iD ?_); simp (implicitDefEqProofs := false) (maxSteps := 2000000) (disch := omega) only [go_sem, hx, eO, e1, h3]; (repeat' (first | (refine hK _ ?_; clear hK hkp kp K) | (with_reducible refine And.intro ?_ ?_) | omega))) | ((first | refine aG (fun h => ?_) (fun h => ?_) | refine aD (fun h => ?_) (fun h => ?_) | refine aX (fun h => ?_) (fun h => ?_)) <;> simp only [h]) | refine awp_cond_t rfl ?_ | refine awp_cond_f rfl ?_ | ((refine awp_cond rfl (fun h => ?_) (fun h => ?_) <;> try simp only [ifs] at h) <;> (try (exfalso; omega))) | refine awp_ret ?_))
    (refine retA_is (by (simp (implicitDefEqProofs := false) (maxSteps := 2000000) (disch := omega) only [go_sem, Go.Proofs.Tryz.results22]); rfl) ?_; refine (embV [0] ?_ ?_ ?_ ?_ ?_ ?_).s <;> simp [oneA, okO, lk, ren, renL, renNd, by_, hE])
  | .b o p q, hw, hk, hn => by
    obtain ⟨hw1, hw2, hw3⟩ := hw
    obtain ⟨k1, k11⟩ := hk o (by simp [RT.flat])
    have hln0 : (RT.b o p q).flat.length = p.flat.length + q.flat.length + 1 := by simp [RT.flat]; omega
    have ihp := musts_con G p hw2 (fun x hx => hk x (by simp [RT.flat, hx])) (by omega)
    have ihq := musts_con G q hw3 (fun x hx => hk x (by simp [RT.flat, hx])) (by omega)
    obtain ⟨ops, hops⟩ : ∃ ops, ops = (RT.b o p q).flat := ⟨_, rfl⟩
    obtain ⟨m, hme⟩ : ∃ m, m = p.flat.length := ⟨_, rfl⟩
    obtain ⟨n, hne⟩ : ∃ n, n = p.flat.length + q.flat.length := ⟨_, rfl⟩
    have hln : ops.length = n + 1 := by rw [hops, hne]; simp [RT.flat]; omega
    have hx : ops[n]? = some o := by rw [hops, hne, ← List.length_append]; simp only [RT.flat]; exact List.getElem?_concat_length
    have htk : ops.take n = p.flat ++ q.flat := by rw [hops, hne, ← List.length_append]; simp only [RT.flat]; exact List.take_left
    have htm : ops.take m = p.flat := by rw [hops, hme]; simp [RT.flat]
    have e1 : (ops.length : Int) - 1 = (n : Nat) := by omega
    have hle : n ≤ 1000 := by omega
    by_cases h3 : o.k = 3
    · have hP : partsT (.b o p q) = partsT p ++ partsT q := by rw [partsT, if_pos h3]
      have lp := parts_len p
      have lq := parts_len q
      rw [hP, ← hops]
      have hmr : p.flat.map eO = (ops.map eO).take m := by rw [← List.map_take, htm]
      have hms : q.flat.map eO = ((ops.map eO).take n).drop m := by rw [← List.map_take, ← List.map_drop, htk, hme]; simp
      rw [hmr] at ihp
      rw [hms] at ihq
      have hbe : begM arO ops n = m := by rw [hops, hne, hme]; have := begM_tree (ar := arO) p.flat q [o] hw3; simpa [RT.flat] using this
      have bc := begins_con G true ops n (by omega) (by omega) (by
        intro i k hi hc
        rcases Nat.eq_zero_or_pos i with rfl | h0
        · exfalso
          have hp := RT.flat_pos p
          unfold begM at hbe
          simp only [List.take_zero, List.reverse_nil, cnt, Nat.add_zero, Nat.sub_zero] at hc
          omega
        · exact h0)
      rw [hbe] at bc
      generalize partsT p = P1 at lp ihp ⊢
      generalize partsT q = P2 at lq ihq ⊢
      refine con_of_awp Go.Proofs.Tryz.func22 rfl (by kernel_rfl) (of_decide_eq_true (by kernel_rfl)) ?_; intro E hG hE; subst hG; simp only [ent]
      (repeat' (first | refine awp_seq ?_ | refine awp_block ?_ | refine awp_skip ?_ | refine awp_exit ?_ | ((first | refine rR (fun K kp hK hkp => ?_) | refine rD (id := 5) mixed 9 [0,1,2,4,5,6,7,3,8] (fun K kp hK hkp => ?_) | refine cR bc ?_ | refine cD bc ?_ | refine cR ihq ?_ | refine cD ihq ?_ | refine cR ihp ?_ | refine cD ihp ?_ | refine iG ?_ | refine iD ?_); simp (implicitDefEqProofs := false) (maxSteps := 2000000) (disch := omega) only [go_sem, hx, eO, e1, h3]; (repeat' (first | (refine hK _ ?_; clear hK hkp kp K) | (with_reducible refine And.intro ?_ ?_) | omega))) | ((first | refine aG (fun h => ?_) (fun h => ?_) | refine aD (fun h => ?_) (fun h => ?_) | refine aX (fun h => ?_) (fun h => ?_)) <;> simp only [h]) | refine awp_cond_t rfl ?_ | refine awp_cond_f rfl ?_ | ((refine awp_cond rfl (fun h => ?_) (fun h => ?_) <;> try simp only [ifs] at h) <;> (try (exfalso; omega))) | refine awp_ret ?_))
      (refine retA_is (by (simp (implicitDefEqProofs := false) (maxSteps := 2000000) (disch := omega) only [go_sem, Go.Proofs.Tryz.results22, List.length_append, List.map_append]); rfl) ?_; refine (embV [2] ?_ ?_ ?_ ?_ ?_ ?_).s <;> simp [oneA, okO, lk, ren, renL, renNd, by_, hE, List.length_append, List.map_append])
    · have hP : partsT (.b o p q) = [ops] := by rw [partsT, if_neg h3, hops]
      have h3' : (o.k != 3) = true := by simpa using h3
      rw [hP, ← hops]
      simp only [List.map_cons, List.map_nil, List.length_singleton, eP]
      refine con_of_awp Go.Proofs.Tryz.func22 rfl (by kernel_rfl) (of_decide_eq_true (by kernel_rfl)) ?_; intro E hG hE; subst hG; simp only [ent]
      (repeat' (first | refine awp_seq ?_ | refine awp_block ?_ | refine awp_skip ?_ | refine awp_exit ?_ | ((first | refine rR (fun K kp hK hkp => ?_) | refine rD (id := 5) mixed 9 [0,1,2,4,5,6,7,3,8] (fun K kp hK hkp => ?_) | refine iG ?_ | refine iD ?_); simp (implicitDefEqProofs := false) (maxSteps := 2000000) (disch := omega) only [go_sem, hx, eO, e1, h3']; (repeat' (first | (refine hK _ ?_; clear hK hkp kp K) | (with_reducible refine And.intro ?_ ?_) | omega))) | ((first | refine aG (fun h => ?_) (fun h => ?_) | refine aD (fun h => ?_) (fun h => ?_) | refine aX (fun h => ?_) (fun h => ?_)) <;> simp only [h]) | refine awp_cond_t rfl ?_ | refine awp_cond_f rfl ?_ | ((refine awp_cond rfl (fun h => ?_) (fun h => ?_) <;> try simp only [ifs] at h) <;> (try (exfalso; omega))) | refine awp_ret ?_))
      (refine retA_is (by (simp (implicitDefEqProofs := false) (maxSteps := 2000000) (disch := omega) only [go_sem, Go.Proofs.Tryz.results22]); rfl) ?_; refine (embV [0] ?_ ?_ ?_ ?_ ?_ ?_).s <;> simp [oneA, okO, lk, ren, renL, renNd, by_, hE])
end Go.AM
/- strings.ReplaceAll at this program (laid by the shelf's tool). -/
namespace Go.Proofs.YtoecmmpjndcolaaGreatDoor
open Go.Shelf
def Sh.lays155_ren : Go.Shelf.Ren := ⟨fun | 155 => 74 | 154 => 100 | 138 => 119 | 165 => 120 | 143 => 121 | 166 => 122 | 197 => 123 | 169 => 124 | 195 => 134 | 218 => 135 | 240 => 136 | 241 => 137 | 219 => 138 | 260 => 139 | 276 => 140 | 277 => 141 | 217 => 142 | 225 => 143 | 224 => 144 | 267 => 145 | 266 => 146 | 314 => 147 | n => n, fun | 9 => 9 | 3 => 3 | 4 => 4 | 72 => 126 | 0 => 0 | 76 => 130 | 105 => 132 | 21 => 21 | 5 => 5 | 70 => 124 | 20 => 20 | 37 => 34 | 75 => 129 | 127 => 143 | 164 => 144 | 46 => 146 | 119 => 147 | 139 => 150 | 138 => 149 | 146 => 152 | 51 => 151 | 80 => 134 | n => n, fun | 1 => 1 | 3 => 4 | 4 => 5 | n => n⟩
theorem Sh.lays155 : Go.Proofs.Lays.n155 Tryz.prog Sh.lays155_ren := {
  mixed := by kernel_rfl
  f138 := Tryz.func119.trans (congrArg some (by kernel_rfl))
  f143 := Tryz.func121.trans (congrArg some (by kernel_rfl))
  f154 := Tryz.func100.trans (congrArg some (by kernel_rfl))
  f155 := Tryz.func74.trans (congrArg some (by kernel_rfl))
  f165 := Tryz.func120.trans (congrArg some (by kernel_rfl))
  f166 := Tryz.func122.trans (congrArg some (by kernel_rfl))
  f169 := Tryz.func124.trans (congrArg some (by kernel_rfl))
  f195 := Tryz.func134.trans (congrArg some (by kernel_rfl))
  f197 := Tryz.func123.trans (congrArg some (by kernel_rfl))
  f217 := Tryz.func142.trans (congrArg some (by kernel_rfl))
  f218 := Tryz.func135.trans (congrArg some (by kernel_rfl))
  f219 := Tryz.func138.trans (congrArg some (by kernel_rfl))
  f224 := Tryz.func144.trans (congrArg some (by kernel_rfl))
  f225 := Tryz.func143.trans (congrArg some (by kernel_rfl))
  f240 := Tryz.func136.trans (congrArg some (by kernel_rfl))
  f241 := Tryz.func137.trans (congrArg some (by kernel_rfl))
  f260 := Tryz.func139.trans (congrArg some (by kernel_rfl))
  f266 := Tryz.func146.trans (congrArg some (by kernel_rfl))
  f267 := Tryz.func145.trans (congrArg some (by kernel_rfl))
  f276 := Tryz.func140.trans (congrArg some (by kernel_rfl))
  f277 := Tryz.func141.trans (congrArg some (by kernel_rfl))
  f314 := Tryz.func147.trans (congrArg some (by kernel_rfl))
  t0 := Tryz.underlying0
  a0 := Tryz.isAgg0
  z0 := Tryz.sizeOf0
  v0 := Tryz.zeroValue0
  t3 := Tryz.underlying3
  a3 := Tryz.isAgg3
  z3 := Tryz.sizeOf3
  v3 := Tryz.zeroValue3
  t4 := Tryz.underlying4
  a4 := Tryz.isAgg4
  z4 := Tryz.sizeOf4
  v4 := Tryz.zeroValue4
  t5 := Tryz.underlying5
  a5 := Tryz.isAgg5
  z5 := Tryz.sizeOf5
  v5 := Tryz.zeroValue5
  t9 := Tryz.underlying9
  a9 := Tryz.isAgg9
  z9 := Tryz.sizeOf9
  v9 := Tryz.zeroValue9
  t20 := Tryz.underlying20
  a20 := Tryz.isAgg20
  z20 := Tryz.sizeOf20
  v20 := Tryz.zeroValue20
  t21 := Tryz.underlying21
  a21 := Tryz.isAgg21
  z21 := Tryz.sizeOf21
  v21 := Tryz.zeroValue21
  t37 := Tryz.underlying34
  a37 := Tryz.isAgg34
  z37 := Tryz.sizeOf34
  v37 := Tryz.zeroValue34
  t46 := Tryz.underlying146
  a46 := Tryz.isAgg146
  z46 := Tryz.sizeOf146
  v46 := Tryz.zeroValue146
  t51 := Tryz.underlying151
  a51 := Tryz.isAgg151
  z51 := Tryz.sizeOf151
  v51 := Tryz.zeroValue151
  t70 := Tryz.underlying124
  a70 := Tryz.isAgg124
  z70 := Tryz.sizeOf124
  v70 := Tryz.zeroValue124
  t72 := Tryz.underlying126
  a72 := Tryz.isAgg126
  z72 := Tryz.sizeOf126
  v72 := Tryz.zeroValue126
  t75 := Tryz.underlying129
  a75 := Tryz.isAgg129
  z75 := Tryz.sizeOf129
  v75 := Tryz.zeroValue129
  t76 := Tryz.underlying130
  a76 := Tryz.isAgg130
  z76 := Tryz.sizeOf130
  v76 := Tryz.zeroValue130
  t105 := Tryz.underlying132
  a105 := Tryz.isAgg132
  z105 := Tryz.sizeOf132
  v105 := Tryz.zeroValue132
  t119 := Tryz.underlying147
  a119 := Tryz.isAgg147
  z119 := Tryz.sizeOf147
  t127 := Tryz.underlying143
  a127 := Tryz.isAgg143
  z127 := Tryz.sizeOf143
  v127 := Tryz.zeroValue143
  t138 := Tryz.underlying149
  a138 := Tryz.isAgg149
  z138 := Tryz.sizeOf149
  v138 := Tryz.zeroValue149
  t139 := Tryz.underlying150
  a139 := Tryz.isAgg150
  z139 := Tryz.sizeOf150
  v139 := Tryz.zeroValue150
  t146 := Tryz.underlying152
  a146 := Tryz.isAgg152
  z146 := Tryz.sizeOf152
  v146 := Tryz.zeroValue152
  t164 := Tryz.underlying144
  a164 := Tryz.isAgg144
  z164 := Tryz.sizeOf144
  v164 := Tryz.zeroValue144
  g1 := by kernel_rfl
  g3 := by kernel_rfl
  g4 := by kernel_rfl }
theorem Sh.Builder_Extra_155 : Builder.Extra Tryz.prog Sh.lays155_ren := {
  sizeBuilder := by kernel_rfl
  liesBuilder := by kernel_rfl
  t5 := Tryz.underlying5
  a5 := Tryz.isAgg5
  z5 := Tryz.sizeOf5
  v5 := Tryz.zeroValue5
  infoByte := by kernel_rfl
  cellsByte := by kernel_rfl
  sizeByte := by kernel_rfl
  neB5 := by decide }
open Go.RowKit Go.Lib in
theorem Sh.strings_ReplaceAll (s old new : ByteArray) (m : Int) (w : World) (hs : s.size < 4294967281) (hm : w.cell? ⟨1, 0, none⟩ = some (.int .i64 m)) (h1 : 1 ≤ old.size) (hlen : s.size + Lib.countB s old * new.size ≤ 140737488355328) :
    Calls Tryz.prog 74 #[.string s, .string old, .string new] w fun e w' =>
      e = .returned (.string ⟨(Lib.replaceAll s.data.toList old.data.toList new.data.toList).toArray⟩) ∧ Below w.heap.size w w' := Any.strings_ReplaceAll Sh.lays155 Sh.Builder_Extra_155 s old new m w hs hm h1 hlen
end Go.Proofs.YtoecmmpjndcolaaGreatDoor
/- The codec: the reference's highFirst. -/
namespace Go.AM
open Go Go.RowKit
attribute [local irreducible] AWP retA
/-- The bytes of a number, the lowest one first. -/
def lowM : Nat → Int → List UInt8
  | 0, _ => []
  | k + 1, n => UInt8.ofNat (n % 256).toNat :: lowM k (n / 256)
theorem lowM_len : ∀ (k : Nat) (n : Int), (lowM k n).length = k
  | 0, _ => rfl
  | k + 1, n => by rw [lowM, List.length_cons, lowM_len]
theorem and255 {n : Int} (h : inI n) : bAnd .i64 n 255 = n % 256 := by
  obtain ⟨h1, h2⟩ := h
  have e : (255 : Int) = ((255 : Nat) : Int) := rfl
  have k : (BitVec.ofInt 64 n &&& BitVec.ofInt 64 255).toNat = (n % 256).toNat := by
    rw [e, BitVec.toNat_and, BitVec.ofInt_natCast, BitVec.toNat_ofNat, BitVec.toNat_ofInt]
    have : (255 : Nat) % 2 ^ 64 = 2 ^ 8 - 1 := rfl
    rw [this, Nat.and_two_pow_sub_one_eq_mod]
    have : ((2 ^ 64 : Nat) : Int) = 18446744073709551616 := rfl
    rw [this]; omega
  show IntKind.i64.wrap (((BitVec.ofInt 64 n &&& BitVec.ofInt 64 255).toNat : Nat) : Int) = n % 256
  rw [k, Go.IntWalk.i64_in _ (by omega)]; omega
theorem u8_mod (n : Int) : ((UInt8.ofNat (n % 256).toNat).toNat : Int) = n % 256 := by
  rw [UInt8.toNat_ofNat']
  have : (2 : Nat) ^ 8 = 256 := rfl
  omega
theorem quo256 (n : Int) : (n - n % 256).tdiv 256 = n / 256 := by
  rw [show n - n % 256 = 256 * (n / 256) by omega, Int.mul_tdiv_cancel_left _ (by decide)]
/-- The bytes of a number, the highest one first, are those of the number moved up; but the highest one itself. -/
theorem low_be {n : Int} (h : inI n) : ∀ j : Nat, 0 < j → j < 8 → (be8 (up63 n))[j]? = (lowM 8 n)[7 - j]? := by
  obtain ⟨h1, h2⟩ := h
  have hu : (up63 n : Int) = n + 9223372036854775808 := by unfold up63; omega
  intro j h0 h8
  rw [be8_get _ _ h8]
  match j, h0, h8 with
  | 1, _, _ => exact congrArg (fun x => some (UInt8.ofNat x)) (show up63 n / 281474976710656 % 256 = (n / 256 / 256 / 256 / 256 / 256 / 256 % 256).toNat by omega)
  | 2, _, _ => exact congrArg (fun x => some (UInt8.ofNat x)) (show up63 n / 1099511627776 % 256 = (n / 256 / 256 / 256 / 256 / 256 % 256).toNat by omega)
  | 3, _, _ => exact congrArg (fun x => some (UInt8.ofNat x)) (show up63 n / 4294967296 % 256 = (n / 256 / 256 / 256 / 256 % 256).toNat by omega)
  | 4, _, _ => exact congrArg (fun x => some (UInt8.ofNat x)) (show up63 n / 16777216 % 256 = (n / 256 / 256 / 256 % 256).toNat by omega)
  | 5, _, _ => exact congrArg (fun x => some (UInt8.ofNat x)) (show up63 n / 65536 % 256 = (n / 256 / 256 % 256).toNat by omega)
  | 6, _, _ => exact congrArg (fun x => some (UInt8.ofNat x)) (show up63 n / 256 % 256 = (n / 256 % 256).toNat by omega)
  | 7, _, _ => exact congrArg (fun x => some (UInt8.ofNat x)) (show up63 n / 1 % 256 = (n % 256).toNat by omega)
theorem low_top {n : Int} (h : inI n) : ∃ x y : UInt8, (lowM 8 n)[7]? = some x ∧ (be8 (up63 n))[0]? = some y ∧ (y.toNat : Int) = ((x.toNat : Int) + 128) % 256 := by
  obtain ⟨h1, h2⟩ := h
  have hu : (up63 n : Int) = n + 9223372036854775808 := by unfold up63; omega
  refine ⟨_, _, rfl, rfl, ?_⟩
  rw [u8_mod, u8_cast]
  omega
end Go.AM
/- The codec: the reference's highFirst, walked. -/
namespace Go.AM
open Go Go.RowKit
attribute [local irreducible] AWP retA
theorem u8w (x : UInt8) : IntKind.u8.wrap (x.toNat : Int) = (x.toNat : Int) := by
  have := x.toNat_lt
  rw [u8_wrap]; omega
theorem be8_all (u : Nat) : List.take 8 ((be8 u).map eByte) = (be8 u).map eByte := rfl
set_option maxRecDepth 100000 in
set_option maxHeartbeats 4000000 in
theorem highFirst_con (G : List (Nat × List Value)) (n : Int) (hn : inI n) : Con Go.Proofs.Tryz.prog G 53 [.r (.int .i64 n)] [] 0 (Is (.s 0 0 8) [(0, .lst 5 1 ((be8 (up63 n)).map eByte))] 1) No := by
  refine con_of_awp Go.Proofs.Tryz.func53 rfl (by kernel_rfl) (of_decide_eq_true (by kernel_rfl)) ?_; intro E hG hE; subst hG; simp only [ent]
  (repeat' (first | refine awp_seq ?_ | refine awp_block ?_ | refine awp_skip ?_ | refine awp_exit ?_ | ((first | refine rR (fun K kp hK hkp => ?_) | refine iG ?_); simp (implicitDefEqProofs := false) (maxSteps := 2000000) (disch := omega) only [go_sem]; (repeat' (first | (refine hK _ ?_; clear hK hkp kp K) | (with_reducible refine And.intro ?_ ?_) | omega))) | ((first | refine aG (fun h => ?_) (fun h => ?_) | refine aD (fun h => ?_) (fun h => ?_) | refine aX (fun h => ?_) (fun h => ?_)) <;> simp only [h]) | refine awp_cond_t rfl ?_ | refine awp_cond_f rfl ?_ | ((refine awp_cond rfl (fun h => ?_) (fun h => ?_) <;> try simp only [ifs] at h) <;> (try (exfalso; omega))) | refine awp_ret ?_))
  (refine AWP.emb (emb_nil 3 5 1 ?_) ?_; (· rfl); dsimp only)
  refine awp_loop (fun q : Nat × Int × List UInt8 => ⟨[(4, .r (.int .i64 q.1)), (0, .r (.int .i64 q.2.1)), (3, .s 0 0 q.2.2.length)], [(0, .lst 5 1 (q.2.2.map eByte))], 1⟩) (fun q => q.1 ≤ 8 ∧ inI q.2.1 ∧ q.2.2.length = q.1 ∧ q.2.2 ++ lowM (8 - q.1) q.2.1 = lowM 8 n) (fun q => 8 - q.1) (0, n, []) ?_ ?_ ?_
  · exact ⟨by simp, hn, rfl, rfl⟩
  · (refine emb [0] ?_ ?_ rfl ?_ ?_ ?_ ?_ <;> simp [okM, okO, lk, ren, renL, renNd, by_, hE] <;> (try omega))
  rintro ⟨k, m, low⟩ ⟨hk, hm, hl, hno⟩
  simp only at hk hm hl hno ⊢
  by_cases h8 : k < 8
  · have hm' := hm
    obtain ⟨m1, m2⟩ := hm'
    have ha := and255 hm
    obtain ⟨x, hx⟩ : ∃ x, x = UInt8.ofNat (m % 256).toNat := ⟨_, rfl⟩
    have hxm : (x.toNat : Int) = m % 256 := by rw [hx, u8_mod]
    have hq := quo256 m
    have hx8 := x.toNat_lt
    rw [← hxm] at hq ha
    (repeat' (first | refine awp_seq ?_ | refine awp_block ?_ | refine awp_skip ?_ | refine awp_exit ?_ | ((first | refine rR (fun K kp hK hkp => ?_) | refine iG ?_); simp (implicitDefEqProofs := false) (maxSteps := 2000000) (disch := omega) only [go_sem, ha, hq]; (repeat' (first | (refine hK _ ?_; clear hK hkp kp K) | (with_reducible refine And.intro ?_ ?_) | omega))) | ((first | refine aG (fun h => ?_) (fun h => ?_) | refine aD (fun h => ?_) (fun h => ?_) | refine aX (fun h => ?_) (fun h => ?_)) <;> simp only [h]) | refine awp_cond_t rfl ?_ | refine awp_cond_f rfl ?_ | ((refine awp_cond rfl (fun h => ?_) (fun h => ?_) <;> try simp only [ifs] at h) <;> (try (exfalso; omega))) | refine awp_ret ?_))
    ((first | (refine nextB ((k + 1, m / 256, low ++ [x])) ?_ ?_ ?_) | (refine nextA ((k + 1, m / 256, low ++ [x])) ?_ ?_ ?_)); rotate_left; (· (try dsimp only); (first | omega | (simp only [List.length_drop, List.length_cons, List.length_append]; omega) | (simp; done) | (simp; omega))); (· (refine emb [2] ?_ ?_ rfl ?_ ?_ ?_ ?_ <;> simp [okM, okO, lk, ren, renL, renNd, by_, hE, eByte, u8w] <;> (try omega))))
    refine ⟨by omega, ⟨by simp only; omega, by simp only; omega⟩, by simp [hl], ?_⟩
    rw [← hno, show 8 - k = (8 - (k + 1)) + 1 by omega, lowM, ← hx]; simp
  obtain rfl : k = 8 := by omega
  have hno : low = lowM 8 n := by rw [← hno]; simp [lowM]
  clear hk h8 hm
  subst hno
  (repeat' (first | refine awp_seq ?_ | refine awp_block ?_ | refine awp_skip ?_ | refine awp_exit ?_ | ((first | refine rR (fun K kp hK hkp => ?_) | refine iG ?_); simp (implicitDefEqProofs := false) (maxSteps := 2000000) (disch := omega) only [go_sem, lowM_len]; (repeat' (first | (refine hK _ ?_; clear hK hkp kp K) | (with_reducible refine And.intro ?_ ?_) | omega))) | ((first | refine aG (fun h => ?_) (fun h => ?_) | refine aD (fun h => ?_) (fun h => ?_) | refine aX (fun h => ?_) (fun h => ?_)) <;> simp only [h]) | refine awp_cond_t rfl ?_ | refine awp_cond_f rfl ?_ | ((refine awp_cond rfl (fun h => ?_) (fun h => ?_) <;> try simp only [ifs] at h) <;> (try (exfalso; omega))) | refine awp_ret ?_))
  (refine AWP.emb (emb_nil 6 5 1 ?_) ?_; (· rfl); dsimp only)
  refine awp_loop (fun j : Nat => ⟨[(7, .r (.int .i64 (7 - (j : Int)))), (3, .s 0 0 8), (6, .s 1 0 j)], [(0, .lst 5 1 ((lowM 8 n).map eByte)), (1, .lst 5 1 (((be8 (up63 n)).take j).map eByte))], 2⟩) (fun j => j ≤ 8) (fun j => 8 - j) 0 ?_ ?_ ?_
  · simp
  · (refine emb [0, 1] ?_ ?_ rfl ?_ ?_ ?_ ?_ <;> simp [okM, okO, lk, ren, renL, renNd, by_, hE] <;> (try omega))
  intro j hj
  have hll := lowM_len 8 n
  have hz : ((be8 (up63 n)).take j).length = j := by rw [List.length_take, be8_len]; omega
  by_cases h8 : j < 8
  · by_cases h0 : j = 0
    · subst h0
      obtain ⟨x, y, hx, hy, hxy⟩ := low_top hn
      have hx8 := x.toNat_lt
      have hy8 := y.toNat_lt
      have hrem : ((x.toNat : Int) + 128).tmod 256 = (y.toNat : Int) := by rw [Int.tmod_eq_emod_of_nonneg (by omega), hxy]
      have htk : (be8 (up63 n)).take 1 = [y] := by rw [List.take_add_one, hy]; rfl
      (repeat' (first | refine awp_seq ?_ | refine awp_block ?_ | refine awp_skip ?_ | refine awp_exit ?_ | ((first | refine rR (fun K kp hK hkp => ?_) | refine iG ?_); simp (implicitDefEqProofs := false) (maxSteps := 2000000) (disch := omega) only [go_sem, hx, hrem, eByte]; (repeat' (first | (refine hK _ ?_; clear hK hkp kp K) | (with_reducible refine And.intro ?_ ?_) | omega))) | ((first | refine aG (fun h => ?_) (fun h => ?_) | refine aD (fun h => ?_) (fun h => ?_) | refine aX (fun h => ?_) (fun h => ?_)) <;> simp only [h]) | refine awp_cond_t rfl ?_ | refine awp_cond_f rfl ?_ | ((refine awp_cond rfl (fun h => ?_) (fun h => ?_) <;> try simp only [ifs] at h) <;> (try (exfalso; omega))) | refine awp_ret ?_))
      ((first | (refine nextB (1) ?_ ?_ ?_) | (refine nextA (1) ?_ ?_ ?_)); rotate_left; (· (try dsimp only); (first | omega | (simp only [List.length_drop, List.length_cons, List.length_append]; omega) | (simp; done) | (simp; omega))); (· (refine emb [0, 3] ?_ ?_ rfl ?_ ?_ ?_ ?_ <;> simp [okM, okO, lk, ren, renL, renNd, by_, hE, eByte, htk, u8w, List.take_take, Nat.min_self] <;> (try omega))))
      omega
    · have hg := low_be hn j (by omega) h8
      obtain ⟨x, hx⟩ : ∃ x, (be8 (up63 n))[j]? = some x := ⟨_, be8_get _ _ h8⟩
      rw [hx] at hg
      have hx8 := x.toNat_lt
      have e1 : (7 - (j : Int)).toNat = 7 - j := by omega
      have e2 : (7 - (j : Int) == 7) = false := by simp; omega
      have c1 : (0 ≤ 7 - (j : Int)) = True := eq_true (by omega)
      have c2 : (7 - (j : Int) < ((8 : Nat) : Int)) = True := eq_true (by omega)
      have c3 : (7 - (j : Int) < 8) = True := eq_true (by omega)
      have htk : (be8 (up63 n)).take (j + 1) = (be8 (up63 n)).take j ++ [x] := by rw [List.take_add_one, hx]; rfl
      (repeat' (first | refine awp_seq ?_ | refine awp_block ?_ | refine awp_skip ?_ | refine awp_exit ?_ | ((first | refine rR (fun K kp hK hkp => ?_) | refine iG ?_); simp (implicitDefEqProofs := false) (maxSteps := 2000000) (disch := omega) only [go_sem, hg.symm, e1, e2, c1, c2, c3, eByte]; (repeat' (first | (refine hK _ ?_; clear hK hkp kp K) | (with_reducible refine And.intro ?_ ?_) | omega))) | ((first | refine aG (fun h => ?_) (fun h => ?_) | refine aD (fun h => ?_) (fun h => ?_) | refine aX (fun h => ?_) (fun h => ?_)) <;> simp only [h]) | refine awp_cond_t rfl ?_ | refine awp_cond_f rfl ?_ | ((refine awp_cond rfl (fun h => ?_) (fun h => ?_) <;> try simp only [ifs] at h) <;> (try (exfalso; omega))) | refine awp_ret ?_))
      ((first | (refine nextB (j + 1) ?_ ?_ ?_) | (refine nextA (j + 1) ?_ ?_ ?_)); rotate_left; (· (try dsimp only); (first | omega | (simp only [List.length_drop, List.length_cons, List.length_append]; omega) | (simp; done) | (simp; omega))); (· (refine emb [0, 3] ?_ ?_ rfl ?_ ?_ ?_ ?_ <;> simp [okM, okO, lk, ren, renL, renNd, by_, hE, eByte, htk, u8w, List.take_take, Nat.min_self] <;> (try omega))))
      omega
  · obtain rfl : j = 8 := by omega
    (repeat' (first | refine awp_seq ?_ | refine awp_block ?_ | refine awp_skip ?_ | refine awp_exit ?_ | ((first | refine rR (fun K kp hK hkp => ?_) | refine iG ?_); simp (implicitDefEqProofs := false) (maxSteps := 2000000) (disch := omega) only [go_sem]; (repeat' (first | (refine hK _ ?_; clear hK hkp kp K) | (with_reducible refine And.intro ?_ ?_) | omega))) | ((first | refine aG (fun h => ?_) (fun h => ?_) | refine aD (fun h => ?_) (fun h => ?_) | refine aX (fun h => ?_) (fun h => ?_)) <;> simp only [h]) | refine awp_cond_t rfl ?_ | refine awp_cond_f rfl ?_ | ((refine awp_cond rfl (fun h => ?_) (fun h => ?_) <;> try simp only [ifs] at h) <;> (try (exfalso; omega))) | refine awp_ret ?_))
    (refine retA_is (by (simp (implicitDefEqProofs := false) (maxSteps := 2000000) (disch := omega) only [go_sem, Go.Proofs.Tryz.results53, be8_all]); rfl) ?_; refine (embV [1] ?_ ?_ ?_ ?_ ?_ ?_).s <;> simp [oneA, okO, lk, ren, renL, renNd, by_, hE, be8_all])
end Go.AM
/- Values: Check and ValueFault as contracts (for a seat of few functions). -/
namespace Go.AM
open Go Go.RowKit
open Go.Proofs.YtoecmmpjndcolaaGreatDoor (vcheck)
attribute [local irreducible] AWP retA
theorem aggC_r {w : World} {z : Zone} {th : List NLoc} {us : List Value} {v : Value} (h : Rep w z th (.agg (us.map .r)) v) : v = .agg us.toArray := by
  obtain ⟨ys, rfl, hc⟩ := h.agg_inv
  have : ys = us := by
    apply List.ext_getElem?
    intro i
    cases hi : us[i]? with
    | none => rw [List.getElem?_eq_none_iff] at hi ⊢; rw [hc.1]; simpa using hi
    | some u =>
      obtain ⟨y, h1, h2⟩ := hc.get (show (us.map AV.r)[i]? = some (.r u) by rw [List.getElem?_map, hi]; rfl)
      rw [h1, h2.r_inv]
  rw [this]
theorem valC_con (G : List (Nat × List Value)) (v : V) (hs : v.s.size ≤ maxLen) : Con Go.Proofs.Tryz.prog G 27 [.agg (eV v)] [] 0 (Is (.r (.int .i64 (vcheck v.k v.n v.s))) [] 0) No :=
  con_of_calls (by kernel_rfl) (fun w z vs hz hr hG => by
    obtain ⟨u, r, rfl, h1, h2⟩ := hr.head
    obtain rfl := aggC_r (us := [.int .i64 v.k, .int .i64 v.n, .string v.s]) h1
    obtain rfl := h2.of_nil
    exact Go.Proofs.YtoecmmpjndcolaaGreatDoor.val_any v.k v.n v.s w hs)
theorem vfaultC_con (G : List (Nat × List Value)) (v : V) (hs : v.s.size ≤ maxLen) : Con Go.Proofs.Tryz.prog G 36 [.agg (eV v)] [] 0 (Is (.r (.int .i64 (vcheck v.k v.n v.s))) [] 0) No :=
  con_of_calls (by kernel_rfl) (fun w z vs hz hr hG => by
    obtain ⟨u, r, rfl, h1, h2⟩ := hr.head
    obtain rfl := aggC_r (us := [.int .i64 v.k, .int .i64 v.n, .string v.s]) h1
    obtain rfl := h2.of_nil
    exact Go.Proofs.YtoecmmpjndcolaaGreatDoor.vfault_any v.k v.n v.s w hs)
end Go.AM
/- The codec: the reference's KeyBytes. -/
namespace Go.AM
open Go Go.RowKit
open Go.Proofs.YtoecmmpjndcolaaGreatDoor (vcheck)
attribute [local irreducible] AWP retA
theorem ba_get (s : ByteArray) (i : Nat) : s[i]? = s.data.toList[i]? := by
  by_cases h : i < s.size
  · rw [getElem?_def, dif_pos h, List.getElem?_eq_getElem (by simpa using h)]; rfl
  · rw [getElem?_def, dif_neg h, List.getElem?_eq_none (by simp only [Array.length_toList]; exact Nat.le_of_not_lt h)]
theorem ba_len (s : ByteArray) : s.size = s.data.toList.length := by rw [Array.length_toList]; rfl
theorem encFrom_step {l : List V} {i : Nat} {v : V} (b : List UInt8) (h : l[i]? = some v) (hv : vcheck v.k v.n v.s = 0) : encFrom b (l.drop i) = encFrom (b ++ encV v) (l.drop (i + 1)) := by
  rw [drop_at h, encFrom, if_neg (by simpa using hv)]
/-- What is given back. -/
def encA : Except Int (List UInt8) → AV
  | .error e => .tup [.r (.slice none 0 0), .r (.int .i64 e)]
  | .ok b => .tup [.ro true 1 (b.map eByte), .r (.int .i64 0)]
theorem kind_of_check {v : V} (h : vcheck v.k v.n v.s = 0) : v.k = 0 ∨ (v.k = 1 ∧ (v.n = 0 ∨ v.n = 1)) ∨ v.k = 2 ∨ (v.k = 3 ∧ v.s.size ≤ 20) := by
  rcases Go.Proofs.YtoecmmpjndcolaaGreatDoor.vcheck_ok h with h | h | h | h
  · exact .inl h.1
  · exact .inr (.inl ⟨h.1, by omega⟩)
  · exact .inr (.inr (.inl h.1))
  · exact .inr (.inr (.inr ⟨h.1, h.2.2⟩))
end Go.AM
/- The codec: the reference's KeyBytes, walked. -/
namespace Go.AM
open Go Go.RowKit
open Go.Proofs.YtoecmmpjndcolaaGreatDoor (vcheck)
attribute [local irreducible] AWP retA
theorem u8_0 : (0 : UInt8).toNat = 0 := rfl
theorem u8_255n : (255 : UInt8).toNat = 255 := rfl
set_option maxRecDepth 100000 in
set_option maxHeartbeats 8000000 in
theorem keyBytes_con (G : List (Nat × List Value)) (t : Bool) (l : List V) (hl : l.length ≤ 1048576) (hg : ∀ v ∈ l, gV v) : Con Go.Proofs.Tryz.prog G 24 [.ro t 3 (l.map eV)] [] 0 (Is (encA (encM l)) [] 0) No := by
  refine con_of_awp Go.Proofs.Tryz.func24 rfl (by kernel_rfl) (of_decide_eq_true (by kernel_rfl)) ?_; intro E hG hE; subst hG; simp only [ent]
  by_cases h6 : 6 < l.length
  · have d1 : decide ((l.length : Int) > 6) = true := decide_eq_true (by omega)
    have hM : encM l = .error 1 := by rw [encM, if_pos h6]
    rw [hM]; simp only [encA]
    (repeat' (first | refine awp_seq ?_ | refine awp_block ?_ | refine awp_skip ?_ | refine awp_exit ?_ | ((first | refine rR (fun K kp hK hkp => ?_) | refine iG ?_); simp (implicitDefEqProofs := false) (maxSteps := 2000000) (disch := omega) only [go_sem, d1]; (repeat' (first | (refine hK _ ?_; clear hK hkp kp K) | (with_reducible refine And.intro ?_ ?_) | omega))) | ((first | refine aG (fun h => ?_) (fun h => ?_) | refine aD (fun h => ?_) (fun h => ?_) | refine aX (fun h => ?_) (fun h => ?_)) <;> simp only [h]) | refine awp_cond_t rfl ?_ | refine awp_cond_f rfl ?_ | ((refine awp_cond rfl (fun h => ?_) (fun h => ?_) <;> try simp only [ifs] at h) <;> (try (exfalso; omega))) | refine awp_ret ?_))
    (refine retA_is (by (simp (implicitDefEqProofs := false) (maxSteps := 2000000) (disch := omega) only [go_sem, Go.Proofs.Tryz.results24]); rfl) ?_; refine eN hE ?_; simp [oneA, ren, renL])
  have d1 : decide ((l.length : Int) > 6) = false := decide_eq_false (by omega)
  (repeat' (first | refine awp_seq ?_ | refine awp_block ?_ | refine awp_skip ?_ | refine awp_exit ?_ | ((first | refine rR (fun K kp hK hkp => ?_) | refine iG ?_); simp (implicitDefEqProofs := false) (maxSteps := 2000000) (disch := omega) only [go_sem, d1]; (repeat' (first | (refine hK _ ?_; clear hK hkp kp K) | (with_reducible refine And.intro ?_ ?_) | omega))) | ((first | refine aG (fun h => ?_) (fun h => ?_) | refine aD (fun h => ?_) (fun h => ?_) | refine aX (fun h => ?_) (fun h => ?_)) <;> simp only [h]) | refine awp_cond_t rfl ?_ | refine awp_cond_f rfl ?_ | ((refine awp_cond rfl (fun h => ?_) (fun h => ?_) <;> try simp only [ifs] at h) <;> (try (exfalso; omega))) | refine awp_ret ?_))
  (refine AWP.emb (emb_nil 4 5 1 ?_) ?_; (· rfl); dsimp only)
  refine awp_loop (fun q : Nat × List UInt8 => ⟨[(5, .r (.int .i64 q.1)), (4, .s 0 0 q.2.length), (0, .ro t 3 (l.map eV))], [(0, .lst 5 1 (q.2.map eByte))], 1⟩) (fun q => q.1 ≤ l.length ∧ q.2.length ≤ 43 * q.1 ∧ encFrom q.2 (l.drop q.1) = encFrom [] l) (fun q => l.length - q.1) (0, []) ?_ ?_ ?_
  · exact ⟨by simp, by simp, rfl⟩
  · (refine emb [0] ?_ ?_ rfl ?_ ?_ ?_ ?_ <;> simp [okM, okO, lk, ren, renL, renNd, by_, hE] <;> (try omega))
  rintro ⟨i, b⟩ ⟨hi, hb, hno⟩
  simp only at hi hb hno ⊢
  by_cases hlt : i < l.length
  · obtain ⟨v, hx⟩ : ∃ x, l[i]? = some x := ⟨l[i], by simp [hlt]⟩
    have hgv := hg v (List.mem_of_getElem? hx)
    have vc := vfaultC_con E.G v hgv.1
    simp only [eV] at vc
    by_cases hv : vcheck v.k v.n v.s = 0
    · rw [hv] at vc
      have hlen := encV_len hv
      rw [encFrom_step b hx hv] at hno
      obtain hk | ⟨hk, hn⟩ | hk | ⟨hk, hs⟩ := kind_of_check hv
      · have hW : encV v = [0] := by rw [encV, hk]; rfl
        rw [hW] at hno
        (repeat' (first | refine awp_seq ?_ | refine awp_block ?_ | refine awp_skip ?_ | refine awp_exit ?_ | ((first | refine rR (fun K kp hK hkp => ?_) | refine cR vc ?_ | refine iG ?_); simp (implicitDefEqProofs := false) (maxSteps := 2000000) (disch := omega) only [go_sem, hx, eV, hk]; (repeat' (first | (refine hK _ ?_; clear hK hkp kp K) | (with_reducible refine And.intro ?_ ?_) | omega))) | ((first | refine aG (fun h => ?_) (fun h => ?_) | refine aD (fun h => ?_) (fun h => ?_) | refine aX (fun h => ?_) (fun h => ?_)) <;> simp only [h]) | refine awp_cond_t rfl ?_ | refine awp_cond_f rfl ?_ | ((refine awp_cond rfl (fun h => ?_) (fun h => ?_) <;> try simp only [ifs] at h) <;> (try (exfalso; omega))) | refine awp_ret ?_))
        ((first | (refine nextB ((i + 1, b ++ [0])) ?_ ?_ ?_) | (refine nextA ((i + 1, b ++ [0])) ?_ ?_ ?_)); rotate_left; (· (try dsimp only); (first | omega | (simp only [List.length_drop, List.length_cons, List.length_append]; omega) | (simp; done) | (simp; omega))); (· (refine emb [2] ?_ ?_ rfl ?_ ?_ ?_ ?_ <;> simp [okM, okO, lk, ren, renL, renNd, by_, hE, eByte, u8_0, u8_wrap, be8_len] <;> (try omega))))
        exact ⟨by omega, by simp only [List.length_append, List.length_singleton]; omega, hno⟩
      · have hW : encV v = [1, UInt8.ofNat v.n.toNat] := by rw [encV, hk]; rfl
        rw [hW] at hno
        obtain hn | hn := hn
        · rw [hn] at hno
          (repeat' (first | refine awp_seq ?_ | refine awp_block ?_ | refine awp_skip ?_ | refine awp_exit ?_ | ((first | refine rR (fun K kp hK hkp => ?_) | refine cR vc ?_ | refine iG ?_); simp (implicitDefEqProofs := false) (maxSteps := 2000000) (disch := omega) only [go_sem, hx, eV, hk, hn]; (repeat' (first | (refine hK _ ?_; clear hK hkp kp K) | (with_reducible refine And.intro ?_ ?_) | omega))) | ((first | refine aG (fun h => ?_) (fun h => ?_) | refine aD (fun h => ?_) (fun h => ?_) | refine aX (fun h => ?_) (fun h => ?_)) <;> simp only [h]) | refine awp_cond_t rfl ?_ | refine awp_cond_f rfl ?_ | ((refine awp_cond rfl (fun h => ?_) (fun h => ?_) <;> try simp only [ifs] at h) <;> (try (exfalso; omega))) | refine awp_ret ?_))
          ((first | (refine nextB ((i + 1, b ++ [1, 0])) ?_ ?_ ?_) | (refine nextA ((i + 1, b ++ [1, 0])) ?_ ?_ ?_)); rotate_left; (· (try dsimp only); (first | omega | (simp only [List.length_drop, List.length_cons, List.length_append]; omega) | (simp; done) | (simp; omega))); (· (refine emb [4] ?_ ?_ rfl ?_ ?_ ?_ ?_ <;> simp [okM, okO, lk, ren, renL, renNd, by_, hE, eByte, u8_0, u8_wrap, be8_len] <;> (try omega))))
          exact ⟨by omega, by simp only [List.length_append, List.length_cons, List.length_nil]; omega, hno⟩
        · rw [hn] at hno
          (repeat' (first | refine awp_seq ?_ | refine awp_block ?_ | refine awp_skip ?_ | refine awp_exit ?_ | ((first | refine rR (fun K kp hK hkp => ?_) | refine cR vc ?_ | refine iG ?_); simp (implicitDefEqProofs := false) (maxSteps := 2000000) (disch := omega) only [go_sem, hx, eV, hk, hn]; (repeat' (first | (refine hK _ ?_; clear hK hkp kp K) | (with_reducible refine And.intro ?_ ?_) | omega))) | ((first | refine aG (fun h => ?_) (fun h => ?_) | refine aD (fun h => ?_) (fun h => ?_) | refine aX (fun h => ?_) (fun h => ?_)) <;> simp only [h]) | refine awp_cond_t rfl ?_ | refine awp_cond_f rfl ?_ | ((refine awp_cond rfl (fun h => ?_) (fun h => ?_) <;> try simp only [ifs] at h) <;> (try (exfalso; omega))) | refine awp_ret ?_))
          ((first | (refine nextB ((i + 1, b ++ [1, 1])) ?_ ?_ ?_) | (refine nextA ((i + 1, b ++ [1, 1])) ?_ ?_ ?_)); rotate_left; (· (try dsimp only); (first | omega | (simp only [List.length_drop, List.length_cons, List.length_append]; omega) | (simp; done) | (simp; omega))); (· (refine emb [4] ?_ ?_ rfl ?_ ?_ ?_ ?_ <;> simp [okM, okO, lk, ren, renL, renNd, by_, hE, eByte, u8_0, u8_wrap, be8_len] <;> (try omega))))
          exact ⟨by omega, by simp only [List.length_append, List.length_cons, List.length_nil]; omega, hno⟩
      · have hW : encV v = 2 :: be8 (up63 v.n) := by rw [encV, hk]; rfl
        rw [hW] at hno
        have hc := highFirst_con E.G v.n hgv.2
        (repeat' (first | refine awp_seq ?_ | refine awp_block ?_ | refine awp_skip ?_ | refine awp_exit ?_ | ((first | refine rR (fun K kp hK hkp => ?_) | refine cR vc ?_ | refine cR hc ?_ | refine iG ?_); simp (implicitDefEqProofs := false) (maxSteps := 2000000) (disch := omega) only [go_sem, hx, eV, hk, be8_len, be8_all]; (repeat' (first | (refine hK _ ?_; clear hK hkp kp K) | (with_reducible refine And.intro ?_ ?_) | omega))) | ((first | refine aG (fun h => ?_) (fun h => ?_) | refine aD (fun h => ?_) (fun h => ?_) | refine aX (fun h => ?_) (fun h => ?_)) <;> simp only [h]) | refine awp_cond_t rfl ?_ | refine awp_cond_f rfl ?_ | ((refine awp_cond rfl (fun h => ?_) (fun h => ?_) <;> try simp only [ifs] at h) <;> (try (exfalso; omega))) | refine awp_ret ?_))
        ((first | (refine nextB ((i + 1, b ++ 2 :: be8 (up63 v.n))) ?_ ?_ ?_) | (refine nextA ((i + 1, b ++ 2 :: be8 (up63 v.n))) ?_ ?_ ?_)); rotate_left; (· (try dsimp only); (first | omega | (simp only [List.length_drop, List.length_cons, List.length_append]; omega) | (simp; done) | (simp; omega))); (· (refine emb [4] ?_ ?_ rfl ?_ ?_ ?_ ?_ <;> simp [okM, okO, lk, ren, renL, renNd, by_, hE, eByte, u8_0, u8_wrap, be8_len] <;> (try omega))))
        exact ⟨by omega, by simp only [List.length_append, List.length_cons, be8_len]; omega, hno⟩
      · have hW : encV v = 3 :: (escM v.s.data.toList ++ [0, 0]) := by rw [encV, hk]; rfl
        rw [hW] at hno hlen
        have hsl := ba_len v.s
        (repeat' (first | refine awp_seq ?_ | refine awp_block ?_ | refine awp_skip ?_ | refine awp_exit ?_ | ((first | refine rR (fun K kp hK hkp => ?_) | refine cR vc ?_ | refine iG ?_); simp (implicitDefEqProofs := false) (maxSteps := 2000000) (disch := omega) only [go_sem, hx, eV, hk]; (repeat' (first | (refine hK _ ?_; clear hK hkp kp K) | (with_reducible refine And.intro ?_ ?_) | omega))) | ((first | refine aG (fun h => ?_) (fun h => ?_) | refine aD (fun h => ?_) (fun h => ?_) | refine aX (fun h => ?_) (fun h => ?_)) <;> simp only [h]) | refine awp_cond_t rfl ?_ | refine awp_cond_f rfl ?_ | ((refine awp_cond rfl (fun h => ?_) (fun h => ?_) <;> try simp only [ifs] at h) <;> (try (exfalso; omega))) | refine awp_ret ?_))
        refine awp_loop (fun q : Nat × List UInt8 => ⟨[(7, .r (.int .i64 q.1)), (4, .s 0 0 q.2.length), (5, .r (.int .i64 i)), (0, .ro t 3 (l.map eV))], [(0, .lst 5 1 (q.2.map eByte))], 1⟩) (fun q => q.1 ≤ v.s.size ∧ q.2.length ≤ b.length + 1 + 2 * q.1 ∧ q.2 ++ escM (v.s.data.toList.drop q.1) = b ++ 3 :: escM v.s.data.toList) (fun q => v.s.size - q.1) (0, b ++ [3]) ?_ ?_ ?_
        · exact ⟨by simp, by simp, by simp⟩
        · (refine emb [2] ?_ ?_ rfl ?_ ?_ ?_ ?_ <;> simp [okM, okO, lk, ren, renL, renNd, by_, hE, eByte, u8_wrap] <;> (try omega))
        rintro ⟨k, c⟩ ⟨hk', hcl, hco⟩
        simp only at hk' hcl hco ⊢
        by_cases hks : k < v.s.size
        · obtain ⟨x, hxs⟩ : ∃ x, v.s.data.toList[k]? = some x := ⟨v.s.data.toList[k]'(by omega), by simp⟩
          have hxg := ba_get v.s k
          rw [hxs] at hxg
          rw [drop_at hxs, escM, repM] at hco
          by_cases h0 : x = 0
          · rw [if_pos h0] at hco
            subst h0
            (repeat' (first | refine awp_seq ?_ | refine awp_block ?_ | refine awp_skip ?_ | refine awp_exit ?_ | ((first | refine rR (fun K kp hK hkp => ?_) | refine iG ?_); simp (implicitDefEqProofs := false) (maxSteps := 2000000) (disch := omega) only [go_sem, hx, eV, hxg]; (repeat' (first | (refine hK _ ?_; clear hK hkp kp K) | (with_reducible refine And.intro ?_ ?_) | omega))) | ((first | refine aG (fun h => ?_) (fun h => ?_) | refine aD (fun h => ?_) (fun h => ?_) | refine aX (fun h => ?_) (fun h => ?_)) <;> simp only [h]) | refine awp_cond_t rfl ?_ | refine awp_cond_f rfl ?_ | ((refine awp_cond rfl (fun h => ?_) (fun h => ?_) <;> try simp only [ifs] at h) <;> (try (exfalso; omega))) | refine awp_ret ?_))
            ((first | (refine nextB ((k + 1, c ++ [0, 255])) ?_ ?_ ?_) | (refine nextA ((k + 1, c ++ [0, 255])) ?_ ?_ ?_)); rotate_left; (· (try dsimp only); (first | omega | (simp only [List.length_drop, List.length_cons, List.length_append]; omega) | (simp; done) | (simp; omega))); (· (refine emb [4] ?_ ?_ rfl ?_ ?_ ?_ ?_ <;> simp [okM, okO, lk, ren, renL, renNd, by_, hE, eByte] <;> (try omega))))
            exact ⟨by omega, by simp only [List.length_append, List.length_cons, List.length_nil]; omega, by rw [← hco]; simp [escM]⟩
          · rw [if_neg h0] at hco
            have e0 : ((x.toNat : Int) == 0) = false := by
              rw [beq_eq_false_iff_ne]; intro h; exact h0 (UInt8.toNat.inj (by rw [u8_0]; omega))
            (repeat' (first | refine awp_seq ?_ | refine awp_block ?_ | refine awp_skip ?_ | refine awp_exit ?_ | ((first | refine rR (fun K kp hK hkp => ?_) | refine iG ?_); simp (implicitDefEqProofs := false) (maxSteps := 2000000) (disch := omega) only [go_sem, hx, eV, hxg, e0]; (repeat' (first | (refine hK _ ?_; clear hK hkp kp K) | (with_reducible refine And.intro ?_ ?_) | omega))) | ((first | refine aG (fun h => ?_) (fun h => ?_) | refine aD (fun h => ?_) (fun h => ?_) | refine aX (fun h => ?_) (fun h => ?_)) <;> simp only [h]) | refine awp_cond_t rfl ?_ | refine awp_cond_f rfl ?_ | ((refine awp_cond rfl (fun h => ?_) (fun h => ?_) <;> try simp only [ifs] at h) <;> (try (exfalso; omega))) | refine awp_ret ?_))
            ((first | (refine nextB ((k + 1, c ++ [x])) ?_ ?_ ?_) | (refine nextA ((k + 1, c ++ [x])) ?_ ?_ ?_)); rotate_left; (· (try dsimp only); (first | omega | (simp only [List.length_drop, List.length_cons, List.length_append]; omega) | (simp; done) | (simp; omega))); (· (refine emb [2] ?_ ?_ rfl ?_ ?_ ?_ ?_ <;> simp [okM, okO, lk, ren, renL, renNd, by_, hE, eByte] <;> (try omega))))
            exact ⟨by omega, by simp only [List.length_append, List.length_singleton]; omega, by rw [← hco]; simp [escM]⟩
        · rw [List.drop_of_length_le (by omega)] at hco
          have hco : c = b ++ 3 :: escM v.s.data.toList := by rw [← hco]; simp [escM, repM]
          (repeat' (first | refine awp_seq ?_ | refine awp_block ?_ | refine awp_skip ?_ | refine awp_exit ?_ | ((first | refine rR (fun K kp hK hkp => ?_) | refine iG ?_); simp (implicitDefEqProofs := false) (maxSteps := 2000000) (disch := omega) only [go_sem, hx, eV]; (repeat' (first | (refine hK _ ?_; clear hK hkp kp K) | (with_reducible refine And.intro ?_ ?_) | omega))) | ((first | refine aG (fun h => ?_) (fun h => ?_) | refine aD (fun h => ?_) (fun h => ?_) | refine aX (fun h => ?_) (fun h => ?_)) <;> simp only [h]) | refine awp_cond_t rfl ?_ | refine awp_cond_f rfl ?_ | ((refine awp_cond rfl (fun h => ?_) (fun h => ?_) <;> try simp only [ifs] at h) <;> (try (exfalso; omega))) | refine awp_ret ?_))
          ((first | (refine nextB ((i + 1, c ++ [0, 0])) ?_ ?_ ?_) | (refine nextA ((i + 1, c ++ [0, 0])) ?_ ?_ ?_)); rotate_left; (· (try dsimp only); (first | omega | (simp only [List.length_drop, List.length_cons, List.length_append]; omega) | (simp; done) | (simp; omega))); (· (refine emb [2] ?_ ?_ rfl ?_ ?_ ?_ ?_ <;> simp [okM, okO, lk, ren, renL, renNd, by_, hE, eByte] <;> (try omega))))
          have hcc : c ++ [0, 0] = b ++ 3 :: (escM v.s.data.toList ++ [0, 0]) := by rw [hco]; simp
          refine ⟨by omega, ?_, by simp only; rw [hcc]; exact hno⟩
          simp only; rw [hcc]; simp only [List.length_append, List.length_cons, List.length_nil] at hlen ⊢; omega
    · have hv0 : (vcheck v.k v.n v.s != 0) = true := by simpa using hv
      have hM : encM l = .error (vcheck v.k v.n v.s) := by
        rw [encM, if_neg h6, ← hno, drop_at hx, encFrom, if_pos hv]
      rw [hM]; simp only [encA]
      (repeat' (first | refine awp_seq ?_ | refine awp_block ?_ | refine awp_skip ?_ | refine awp_exit ?_ | ((first | refine rR (fun K kp hK hkp => ?_) | refine cR vc ?_ | refine iG ?_); simp (implicitDefEqProofs := false) (maxSteps := 2000000) (disch := omega) only [go_sem, hx, eV, hv0]; (repeat' (first | (refine hK _ ?_; clear hK hkp kp K) | (with_reducible refine And.intro ?_ ?_) | omega))) | ((first | refine aG (fun h => ?_) (fun h => ?_) | refine aD (fun h => ?_) (fun h => ?_) | refine aX (fun h => ?_) (fun h => ?_)) <;> simp only [h]) | refine awp_cond_t rfl ?_ | refine awp_cond_f rfl ?_ | ((refine awp_cond rfl (fun h => ?_) (fun h => ?_) <;> try simp only [ifs] at h) <;> (try (exfalso; omega))) | refine awp_ret ?_))
      (refine retA_is (by (simp (implicitDefEqProofs := false) (maxSteps := 2000000) (disch := omega) only [go_sem, Go.Proofs.Tryz.results24]); rfl) ?_; refine eN hE ?_; simp [oneA, ren, renL])
  · rw [List.drop_of_length_le (by omega), encFrom] at hno
    by_cases h100 : 100 < b.length
    · have d2 : decide ((b.length : Int) > 100) = true := decide_eq_true (by omega)
      have hM : encM l = .error 5 := by rw [encM, if_neg h6, ← hno]; simp only; rw [if_pos h100]
      rw [hM]; simp only [encA]
      (repeat' (first | refine awp_seq ?_ | refine awp_block ?_ | refine awp_skip ?_ | refine awp_exit ?_ | ((first | refine rR (fun K kp hK hkp => ?_) | refine iG ?_); simp (implicitDefEqProofs := false) (maxSteps := 2000000) (disch := omega) only [go_sem, d2]; (repeat' (first | (refine hK _ ?_; clear hK hkp kp K) | (with_reducible refine And.intro ?_ ?_) | omega))) | ((first | refine aG (fun h => ?_) (fun h => ?_) | refine aD (fun h => ?_) (fun h => ?_) | refine aX (fun h => ?_) (fun h => ?_)) <;> simp only [h]) | refine awp_cond_t rfl ?_ | refine awp_cond_f rfl ?_ | ((refine awp_cond rfl (fun h => ?_) (fun h => ?_) <;> try simp only [ifs] at h) <;> (try (exfalso; omega))) | refine awp_ret ?_))
      (refine retA_is (by (simp (implicitDefEqProofs := false) (maxSteps := 2000000) (disch := omega) only [go_sem, Go.Proofs.Tryz.results24]); rfl) ?_; refine eN hE ?_; simp [oneA, ren, renL])
    · have d2 : decide ((b.length : Int) > 100) = false := decide_eq_false (by omega)
      have hM : encM l = .ok b := by rw [encM, if_neg h6, ← hno]; simp only; rw [if_neg h100]
      rw [hM]; simp only [encA]
      (repeat' (first | refine awp_seq ?_ | refine awp_block ?_ | refine awp_skip ?_ | refine awp_exit ?_ | ((first | refine rR (fun K kp hK hkp => ?_) | refine iG ?_); simp (implicitDefEqProofs := false) (maxSteps := 2000000) (disch := omega) only [go_sem, d2]; (repeat' (first | (refine hK _ ?_; clear hK hkp kp K) | (with_reducible refine And.intro ?_ ?_) | omega))) | ((first | refine aG (fun h => ?_) (fun h => ?_) | refine aD (fun h => ?_) (fun h => ?_) | refine aX (fun h => ?_) (fun h => ?_)) <;> simp only [h]) | refine awp_cond_t rfl ?_ | refine awp_cond_f rfl ?_ | ((refine awp_cond rfl (fun h => ?_) (fun h => ?_) <;> try simp only [ifs] at h) <;> (try (exfalso; omega))) | refine awp_ret ?_))
      (refine retA_is (by (simp (implicitDefEqProofs := false) (maxSteps := 2000000) (disch := omega) only [go_sem, Go.Proofs.Tryz.results24]); rfl) ?_; refine embS_frz (by simp only [oneA]; simp (implicitDefEqProofs := false) (maxSteps := 2000000) (disch := omega) only [go_sem]; rfl) ?_; refine (embV_nil hE (by simp) ?_).s; simp [oneA, ren, renL])
end Go.AM
/- The codec: codec.Encode, walked. -/
namespace Go.AM
open Go Go.RowKit
open Go.Proofs.YtoecmmpjndcolaaGreatDoor (vcheck)
attribute [local irreducible] AWP retA
/-- strings.ReplaceAll of noughts. -/
def RepCon (G : List (Nat × List Value)) : Prop := ∀ s : ByteArray, s.size ≤ 400 → Con Go.Proofs.Tryz.prog G 74 [.r (.string s), .r (.string ⟨#[0]⟩), .r (.string ⟨#[0, 255]⟩)] [] 0 (Is (.r (.string ⟨(escM s.data.toList).toArray⟩)) [] 0) No
set_option maxRecDepth 100000 in
set_option maxHeartbeats 8000000 in
theorem encode_con {G : List (Nat × List Value)} (HR : RepCon G) (t : Bool) (l : List V) (hl : l.length ≤ 1048576) (hg : ∀ v ∈ l, gV v) : Con Go.Proofs.Tryz.prog G 49 [.ro t 3 (l.map eV)] [] 0 (Is (encA (encM l)) [] 0) No := by
  refine con_of_awp Go.Proofs.Tryz.func49 rfl (by kernel_rfl) (of_decide_eq_true (by kernel_rfl)) ?_; intro E hG hE; subst hG; simp only [ent]
  by_cases h6 : 6 < l.length
  · have d1 : decide ((l.length : Int) > 6) = true := decide_eq_true (by omega)
    have hM : encM l = .error 1 := by rw [encM, if_pos h6]
    rw [hM]; simp only [encA]
    (repeat' (first | refine awp_seq ?_ | refine awp_block ?_ | refine awp_skip ?_ | refine awp_exit ?_ | ((first | refine rR (fun K kp hK hkp => ?_) | refine iG ?_); simp (implicitDefEqProofs := false) (maxSteps := 2000000) (disch := omega) only [go_sem, d1]; (repeat' (first | (refine hK _ ?_; clear hK hkp kp K) | (with_reducible refine And.intro ?_ ?_) | omega))) | ((first | refine aG (fun h => ?_) (fun h => ?_) | refine aD (fun h => ?_) (fun h => ?_) | refine aX (fun h => ?_) (fun h => ?_)) <;> simp only [h]) | refine awp_cond_t rfl ?_ | refine awp_cond_f rfl ?_ | ((refine awp_cond rfl (fun h => ?_) (fun h => ?_) <;> try simp only [ifs] at h) <;> (try (exfalso; omega))) | refine awp_ret ?_))
    (refine retA_is (by (simp (implicitDefEqProofs := false) (maxSteps := 2000000) (disch := omega) only [go_sem, Go.Proofs.Tryz.results49]); rfl) ?_; refine eN hE ?_; simp [oneA, ren, renL])
  have d1 : decide ((l.length : Int) > 6) = false := decide_eq_false (by omega)
  (repeat' (first | refine awp_seq ?_ | refine awp_block ?_ | refine awp_skip ?_ | refine awp_exit ?_ | ((first | refine rR (fun K kp hK hkp => ?_) | refine iG ?_); simp (implicitDefEqProofs := false) (maxSteps := 2000000) (disch := omega) only [go_sem, d1]; (repeat' (first | (refine hK _ ?_; clear hK hkp kp K) | (with_reducible refine And.intro ?_ ?_) | omega))) | ((first | refine aG (fun h => ?_) (fun h => ?_) | refine aD (fun h => ?_) (fun h => ?_) | refine aX (fun h => ?_) (fun h => ?_)) <;> simp only [h]) | refine awp_cond_t rfl ?_ | refine awp_cond_f rfl ?_ | ((refine awp_cond rfl (fun h => ?_) (fun h => ?_) <;> try simp only [ifs] at h) <;> (try (exfalso; omega))) | refine awp_ret ?_))
  (refine AWP.emb (emb_nil 4 5 1 ?_) ?_; (· rfl); dsimp only)
  refine awp_loop (fun q : Nat × List UInt8 => ⟨[(15, .r (.int .i64 q.1)), (14, .r (.int .i64 l.length)), (13, .ro t 3 (l.map eV)), (4, .s 0 0 q.2.length)], [(0, .lst 5 1 (q.2.map eByte))], 1⟩) (fun q => q.1 ≤ l.length ∧ q.2.length ≤ 43 * q.1 ∧ encFrom q.2 (l.drop q.1) = encFrom [] l) (fun q => l.length - q.1) (0, []) ?_ ?_ ?_
  · exact ⟨by simp, by simp, rfl⟩
  · (refine emb [0] ?_ ?_ rfl ?_ ?_ ?_ ?_ <;> simp [okM, okO, lk, ren, renL, renNd, by_, hE] <;> (try omega))
  rintro ⟨i, b⟩ ⟨hi, hb, hno⟩
  simp only at hi hb hno ⊢
  by_cases hlt : i < l.length
  · obtain ⟨v, hx⟩ : ∃ x, l[i]? = some x := ⟨l[i], by simp [hlt]⟩
    have hgv := hg v (List.mem_of_getElem? hx)
    have vc := valC_con E.G v hgv.1
    simp only [eV] at vc
    by_cases hv : vcheck v.k v.n v.s = 0
    · rw [hv] at vc
      have hlen := encV_len hv
      rw [encFrom_step b hx hv] at hno
      obtain hk | ⟨hk, hn⟩ | hk | ⟨hk, hs⟩ := kind_of_check hv
      · have hW : encV v = [0] := by rw [encV, hk]; rfl
        rw [hW] at hno
        (repeat' (first | refine awp_seq ?_ | refine awp_block ?_ | refine awp_skip ?_ | refine awp_exit ?_ | ((first | refine rR (fun K kp hK hkp => ?_) | refine cR vc ?_ | refine iG ?_); simp (implicitDefEqProofs := false) (maxSteps := 2000000) (disch := omega) only [go_sem, hx, eV, hk]; (repeat' (first | (refine hK _ ?_; clear hK hkp kp K) | (with_reducible refine And.intro ?_ ?_) | omega))) | ((first | refine aG (fun h => ?_) (fun h => ?_) | refine aD (fun h => ?_) (fun h => ?_) | refine aX (fun h => ?_) (fun h => ?_)) <;> simp only [h]) | refine awp_cond_t rfl ?_ | refine awp_cond_f rfl ?_ | ((refine awp_cond rfl (fun h => ?_) (fun h => ?_) <;> try simp only [ifs] at h) <;> (try (exfalso; omega))) | refine awp_ret ?_))
        ((first | (refine nextB ((i + 1, b ++ [0])) ?_ ?_ ?_) | (refine nextA ((i + 1, b ++ [0])) ?_ ?_ ?_)); rotate_left; (· (try dsimp only); (first | omega | (simp only [List.length_drop, List.length_cons, List.length_append]; omega) | (simp; done) | (simp; omega))); (· (refine emb [3] ?_ ?_ rfl ?_ ?_ ?_ ?_ <;> simp [okM, okO, lk, ren, renL, renNd, by_, hE, eByte, u8_0, u8_wrap] <;> (try omega))))
        exact ⟨by omega, by simp only [List.length_append, List.length_singleton]; omega, hno⟩
      · have hW : encV v = [1, UInt8.ofNat v.n.toNat] := by rw [encV, hk]; rfl
        rw [hW] at hno
        obtain hn | hn := hn
        · rw [hn] at hno
          (repeat' (first | refine awp_seq ?_ | refine awp_block ?_ | refine awp_skip ?_ | refine awp_exit ?_ | ((first | refine rR (fun K kp hK hkp => ?_) | refine cR vc ?_ | refine iG ?_); simp (implicitDefEqProofs := false) (maxSteps := 2000000) (disch := omega) only [go_sem, hx, eV, hk, hn]; (repeat' (first | (refine hK _ ?_; clear hK hkp kp K) | (with_reducible refine And.intro ?_ ?_) | omega))) | ((first | refine aG (fun h => ?_) (fun h => ?_) | refine aD (fun h => ?_) (fun h => ?_) | refine aX (fun h => ?_) (fun h => ?_)) <;> simp only [h]) | refine awp_cond_t rfl ?_ | refine awp_cond_f rfl ?_ | ((refine awp_cond rfl (fun h => ?_) (fun h => ?_) <;> try simp only [ifs] at h) <;> (try (exfalso; omega))) | refine awp_ret ?_))
          ((first | (refine nextB ((i + 1, b ++ [1, 0])) ?_ ?_ ?_) | (refine nextA ((i + 1, b ++ [1, 0])) ?_ ?_ ?_)); rotate_left; (· (try dsimp only); (first | omega | (simp only [List.length_drop, List.length_cons, List.length_append]; omega) | (simp; done) | (simp; omega))); (· (refine emb [5] ?_ ?_ rfl ?_ ?_ ?_ ?_ <;> simp [okM, okO, lk, ren, renL, renNd, by_, hE, eByte, u8_0, u8_wrap] <;> (try omega))))
          exact ⟨by omega, by simp only [List.length_append, List.length_cons, List.length_nil]; omega, hno⟩
        · rw [hn] at hno
          (repeat' (first | refine awp_seq ?_ | refine awp_block ?_ | refine awp_skip ?_ | refine awp_exit ?_ | ((first | refine rR (fun K kp hK hkp => ?_) | refine cR vc ?_ | refine iG ?_); simp (implicitDefEqProofs := false) (maxSteps := 2000000) (disch := omega) only [go_sem, hx, eV, hk, hn]; (repeat' (first | (refine hK _ ?_; clear hK hkp kp K) | (with_reducible refine And.intro ?_ ?_) | omega))) | ((first | refine aG (fun h => ?_) (fun h => ?_) | refine aD (fun h => ?_) (fun h => ?_) | refine aX (fun h => ?_) (fun h => ?_)) <;> simp only [h]) | refine awp_cond_t rfl ?_ | refine awp_cond_f rfl ?_ | ((refine awp_cond rfl (fun h => ?_) (fun h => ?_) <;> try simp only [ifs] at h) <;> (try (exfalso; omega))) | refine awp_ret ?_))
          ((first | (refine nextB ((i + 1, b ++ [1, 1])) ?_ ?_ ?_) | (refine nextA ((i + 1, b ++ [1, 1])) ?_ ?_ ?_)); rotate_left; (· (try dsimp only); (first | omega | (simp only [List.length_drop, List.length_cons, List.length_append]; omega) | (simp; done) | (simp; omega))); (· (refine emb [5] ?_ ?_ rfl ?_ ?_ ?_ ?_ <;> simp [okM, okO, lk, ren, renL, renNd, by_, hE, eByte, u8_0, u8_wrap] <;> (try omega))))
          exact ⟨by omega, by simp only [List.length_append, List.length_cons, List.length_nil]; omega, hno⟩
      · have hW : encV v = 2 :: be8 (up63 v.n) := by rw [encV, hk]; rfl
        rw [hW] at hno
        have hxor := xorU hgv.2
        obtain ⟨u, hu⟩ : ∃ u, up63 v.n = u := ⟨_, rfl⟩
        rw [hu] at hxor hno
        (repeat' (first | refine awp_seq ?_ | refine awp_block ?_ | refine awp_skip ?_ | refine awp_exit ?_ | ((first | refine rR (fun K kp hK hkp => ?_) | refine cR vc ?_ | refine iG ?_); simp (implicitDefEqProofs := false) (maxSteps := 2000000) (disch := omega) only [go_sem, hx, eV, hk, hxor]; (repeat' (first | (refine hK _ ?_; clear hK hkp kp K) | (with_reducible refine And.intro ?_ ?_) | omega))) | ((first | refine aG (fun h => ?_) (fun h => ?_) | refine aD (fun h => ?_) (fun h => ?_) | refine aX (fun h => ?_) (fun h => ?_)) <;> simp only [h]) | refine awp_cond_t rfl ?_ | refine awp_cond_f rfl ?_ | ((refine awp_cond rfl (fun h => ?_) (fun h => ?_) <;> try simp only [ifs] at h) <;> (try (exfalso; omega))) | refine awp_ret ?_))
        refine awp_loop (fun j : Nat => ⟨[(9, .r (.int .i64 (56 - 8 * (j : Int)))), (8, .r (.int .u64 u)), (15, .r (.int .i64 i)), (14, .r (.int .i64 l.length)), (13, .ro t 3 (l.map eV)), (4, .s 0 0 (b.length + 1 + j))], [(0, .lst 5 1 ((b ++ 2 :: (be8 u).take j).map eByte))], 1⟩) (fun j => j ≤ 8) (fun j => 8 - j) 0 ?_ ?_ ?_
        · simp
        · (refine emb [3] ?_ ?_ rfl ?_ ?_ ?_ ?_ <;> simp [okM, okO, lk, ren, renL, renNd, by_, hE, eByte, u8_wrap] <;> (try omega))
        intro j hj
        have hz : ((be8 u).take j).length = j := by rw [List.length_take, be8_len]; omega
        by_cases h8 : j < 8
        · have d2 : decide ((56 - 8 * (j : Int)) ≥ 0) = true := decide_eq_true (by omega)
          have c1 : ((56 - 8 * (j : Int)) < 0) = False := eq_false (by omega)
          have hsb := shr_byte u j h8
          obtain ⟨x, hxj⟩ : ∃ x, x = UInt8.ofNat (u / 2 ^ (56 - 8 * j) % 256) := ⟨_, rfl⟩
          rw [← hxj] at hsb
          have htk : (be8 u).take (j + 1) = (be8 u).take j ++ [x] := by rw [List.take_add_one, be8_get u j h8, hxj]; rfl
          have htA : List.take (b.length + 1 + j) (List.map eByte b ++ [AV.r (.int .u8 2)] :: List.take j (List.map eByte (be8 u))) = List.map eByte b ++ [AV.r (.int .u8 2)] :: List.take j (List.map eByte (be8 u)) := List.take_of_length_le (by simp only [List.length_append, List.length_cons, List.length_map, List.length_take, be8_len]; omega)
          (repeat' (first | refine awp_seq ?_ | refine awp_block ?_ | refine awp_skip ?_ | refine awp_exit ?_ | ((first | refine rR (fun K kp hK hkp => ?_) | refine iG ?_); simp (implicitDefEqProofs := false) (maxSteps := 2000000) (disch := omega) only [go_sem, d2, c1, hsb]; (repeat' (first | (refine hK _ ?_; clear hK hkp kp K) | (with_reducible refine And.intro ?_ ?_) | omega))) | ((first | refine aG (fun h => ?_) (fun h => ?_) | refine aD (fun h => ?_) (fun h => ?_) | refine aX (fun h => ?_) (fun h => ?_)) <;> simp only [h]) | refine awp_cond_t rfl ?_ | refine awp_cond_f rfl ?_ | ((refine awp_cond rfl (fun h => ?_) (fun h => ?_) <;> try simp only [ifs] at h) <;> (try (exfalso; omega))) | refine awp_ret ?_))
          ((first | (refine nextB (j + 1) ?_ ?_ ?_) | (refine nextA (j + 1) ?_ ?_ ?_)); rotate_left; (· (try dsimp only); (first | omega | (simp only [List.length_drop, List.length_cons, List.length_append]; omega) | (simp; done) | (simp; omega))); (· (refine emb [2] ?_ ?_ rfl ?_ ?_ ?_ ?_ <;> simp [okM, okO, lk, ren, renL, renNd, by_, hE, eByte, htk, htA] <;> (try omega))))
          omega
        · obtain rfl : j = 8 := by omega
          (repeat' (first | refine awp_seq ?_ | refine awp_block ?_ | refine awp_skip ?_ | refine awp_exit ?_ | ((first | refine rR (fun K kp hK hkp => ?_) | refine iG ?_); simp (implicitDefEqProofs := false) (maxSteps := 2000000) (disch := omega) only [go_sem]; (repeat' (first | (refine hK _ ?_; clear hK hkp kp K) | (with_reducible refine And.intro ?_ ?_) | omega))) | ((first | refine aG (fun h => ?_) (fun h => ?_) | refine aD (fun h => ?_) (fun h => ?_) | refine aX (fun h => ?_) (fun h => ?_)) <;> simp only [h]) | refine awp_cond_t rfl ?_ | refine awp_cond_f rfl ?_ | ((refine awp_cond rfl (fun h => ?_) (fun h => ?_) <;> try simp only [ifs] at h) <;> (try (exfalso; omega))) | refine awp_ret ?_))
          ((first | (refine nextB ((i + 1, b ++ 2 :: be8 u)) ?_ ?_ ?_) | (refine nextA ((i + 1, b ++ 2 :: be8 u)) ?_ ?_ ?_)); rotate_left; (· (try dsimp only); (first | omega | (simp only [List.length_drop, List.length_cons, List.length_append]; omega) | (simp; done) | (simp; omega))); (· (refine emb [0] ?_ ?_ rfl ?_ ?_ ?_ ?_ <;> simp [okM, okO, lk, ren, renL, renNd, by_, hE, be8_all, be8_len] <;> (try omega))))
          exact ⟨by omega, by simp only [List.length_append, List.length_cons, be8_len]; omega, hno⟩
      · have hW : encV v = 3 :: (escM v.s.data.toList ++ [0, 0]) := by rw [encV, hk]; rfl
        rw [hW] at hno hlen
        have rc := HR v.s (by omega)
        simp only [List.length_append, List.length_cons, List.length_nil] at hlen
        (repeat' (first | refine awp_seq ?_ | refine awp_block ?_ | refine awp_skip ?_ | refine awp_exit ?_ | ((first | refine rR (fun K kp hK hkp => ?_) | refine cR vc ?_ | refine cR rc ?_ | refine iG ?_); simp (implicitDefEqProofs := false) (maxSteps := 2000000) (disch := omega) only [go_sem, hx, eV, hk]; (repeat' (first | (refine hK _ ?_; clear hK hkp kp K) | (with_reducible refine And.intro ?_ ?_) | omega))) | ((first | refine aG (fun h => ?_) (fun h => ?_) | refine aD (fun h => ?_) (fun h => ?_) | refine aX (fun h => ?_) (fun h => ?_)) <;> simp only [h]) | refine awp_cond_t rfl ?_ | refine awp_cond_f rfl ?_ | ((refine awp_cond rfl (fun h => ?_) (fun h => ?_) <;> try simp only [ifs] at h) <;> (try (exfalso; omega))) | refine awp_ret ?_))
        ((first | (refine nextB ((i + 1, b ++ 3 :: (escM v.s.data.toList ++ [0, 0]))) ?_ ?_ ?_) | (refine nextA ((i + 1, b ++ 3 :: (escM v.s.data.toList ++ [0, 0]))) ?_ ?_ ?_)); rotate_left; (· (try dsimp only); (first | omega | (simp only [List.length_drop, List.length_cons, List.length_append]; omega) | (simp; done) | (simp; omega))); (· (refine emb [6] ?_ ?_ rfl ?_ ?_ ?_ ?_ <;> simp [okM, okO, lk, ren, renL, renNd, by_, hE, eByte, u8_wrap] <;> (try omega))))
        exact ⟨by omega, by simp only [List.length_append, List.length_cons, List.length_nil]; omega, hno⟩
    · have hv0 : (vcheck v.k v.n v.s != 0) = true := by simpa using hv
      have hM : encM l = .error (vcheck v.k v.n v.s) := by
        rw [encM, if_neg h6, ← hno, drop_at hx, encFrom, if_pos hv]
      rw [hM]; simp only [encA]
      (repeat' (first | refine awp_seq ?_ | refine awp_block ?_ | refine awp_skip ?_ | refine awp_exit ?_ | ((first | refine rR (fun K kp hK hkp => ?_) | refine cR vc ?_ | refine iG ?_); simp (implicitDefEqProofs := false) (maxSteps := 2000000) (disch := omega) only [go_sem, hx, eV, hv0]; (repeat' (first | (refine hK _ ?_; clear hK hkp kp K) | (with_reducible refine And.intro ?_ ?_) | omega))) | ((first | refine aG (fun h => ?_) (fun h => ?_) | refine aD (fun h => ?_) (fun h => ?_) | refine aX (fun h => ?_) (fun h => ?_)) <;> simp only [h]) | refine awp_cond_t rfl ?_ | refine awp_cond_f rfl ?_ | ((refine awp_cond rfl (fun h => ?_) (fun h => ?_) <;> try simp only [ifs] at h) <;> (try (exfalso; omega))) | refine awp_ret ?_))
      (refine retA_is (by (simp (implicitDefEqProofs := false) (maxSteps := 2000000) (disch := omega) only [go_sem, Go.Proofs.Tryz.results49]); rfl) ?_; refine eN hE ?_; simp [oneA, ren, renL])
  · rw [List.drop_of_length_le (by omega), encFrom] at hno
    by_cases h100 : 100 < b.length
    · have d2 : decide ((b.length : Int) > 100) = true := decide_eq_true (by omega)
      have hM : encM l = .error 5 := by rw [encM, if_neg h6, ← hno]; simp only; rw [if_pos h100]
      rw [hM]; simp only [encA]
      (repeat' (first | refine awp_seq ?_ | refine awp_block ?_ | refine awp_skip ?_ | refine awp_exit ?_ | ((first | refine rR (fun K kp hK hkp => ?_) | refine iG ?_); simp (implicitDefEqProofs := false) (maxSteps := 2000000) (disch := omega) only [go_sem, d2]; (repeat' (first | (refine hK _ ?_; clear hK hkp kp K) | (with_reducible refine And.intro ?_ ?_) | omega))) | ((first | refine aG (fun h => ?_) (fun h => ?_) | refine aD (fun h => ?_) (fun h => ?_) | refine aX (fun h => ?_) (fun h => ?_)) <;> simp only [h]) | refine awp_cond_t rfl ?_ | refine awp_cond_f rfl ?_ | ((refine awp_cond rfl (fun h => ?_) (fun h => ?_) <;> try simp only [ifs] at h) <;> (try (exfalso; omega))) | refine awp_ret ?_))
      (refine retA_is (by (simp (implicitDefEqProofs := false) (maxSteps := 2000000) (disch := omega) only [go_sem, Go.Proofs.Tryz.results49]); rfl) ?_; refine eN hE ?_; simp [oneA, ren, renL])
    · have d2 : decide ((b.length : Int) > 100) = false := decide_eq_false (by omega)
      have hM : encM l = .ok b := by rw [encM, if_neg h6, ← hno]; simp only; rw [if_neg h100]
      rw [hM]; simp only [encA]
      (repeat' (first | refine awp_seq ?_ | refine awp_block ?_ | refine awp_skip ?_ | refine awp_exit ?_ | ((first | refine rR (fun K kp hK hkp => ?_) | refine iG ?_); simp (implicitDefEqProofs := false) (maxSteps := 2000000) (disch := omega) only [go_sem, d2]; (repeat' (first | (refine hK _ ?_; clear hK hkp kp K) | (with_reducible refine And.intro ?_ ?_) | omega))) | ((first | refine aG (fun h => ?_) (fun h => ?_) | refine aD (fun h => ?_) (fun h => ?_) | refine aX (fun h => ?_) (fun h => ?_)) <;> simp only [h]) | refine awp_cond_t rfl ?_ | refine awp_cond_f rfl ?_ | ((refine awp_cond rfl (fun h => ?_) (fun h => ?_) <;> try simp only [ifs] at h) <;> (try (exfalso; omega))) | refine awp_ret ?_))
      (refine retA_is (by (simp (implicitDefEqProofs := false) (maxSteps := 2000000) (disch := omega) only [go_sem, Go.Proofs.Tryz.results49]); rfl) ?_; refine embS_frz (by simp only [oneA]; simp (implicitDefEqProofs := false) (maxSteps := 2000000) (disch := omega) only [go_sem]; rfl) ?_; refine (embV_nil hE (by simp) ?_).s; simp [oneA, ren, renL])
end Go.AM
/- The codec: strings.ReplaceAll of a byte. -/
namespace Go.AM
open Go Go.RowKit
attribute [local irreducible] AWP retA
theorem rep_of {G : List (Nat × List Value)} {m : Int} (hm : (1, [Value.int .i64 m]) ∈ G) (c : UInt8) (new : List UInt8) (hn : ([c] == new) = false) (hl : new.length ≤ 2) (s : ByteArray) (hs : s.size ≤ 400) :
    Con Go.Proofs.Tryz.prog G 74 [.r (.string s), .r (.string ⟨#[c]⟩), .r (.string ⟨new.toArray⟩)] [] 0 (Is (.r (.string ⟨(repM c new s.data.toList).toArray⟩)) [] 0) No :=
  con_of_calls (by kernel_rfl) (fun w z vs hz hr hG => by
    obtain ⟨v, r, rfl, h1, h2⟩ := hr.head
    obtain ⟨v2, r2, rfl, h3, h4⟩ := h2.head
    obtain ⟨v3, r3, rfl, h5, h6⟩ := h4.head
    obtain rfl := h1.r_inv
    obtain rfl := h3.r_inv
    obtain rfl := h5.r_inv
    obtain rfl := h6.of_nil
    have hc : w.cell? ⟨1, 0, none⟩ = some (.int .i64 m) := (hG _ _ hm).2 0 _ rfl
    have hle : Lib.countB s ⟨#[c]⟩ ≤ s.size + 1 := by
      have := Lib.count_le s.data.toList [c]
      rw [ba_len]; exact this
    have key := Go.Proofs.YtoecmmpjndcolaaGreatDoor.Sh.strings_ReplaceAll s ⟨#[c]⟩ ⟨new.toArray⟩ m w (by omega) hc (Nat.le_refl 1) (by
      have e : (⟨new.toArray⟩ : ByteArray).size = new.length := by rw [ba_len]
      rw [e]
      have : Lib.countB s ⟨#[c]⟩ * new.length ≤ 401 * 2 := Nat.mul_le_mul (by omega) hl
      omega)
    have e : Lib.replaceAll s.data.toList [c] new = repM c new s.data.toList := replaceAll_one c new _ hn
    have key2 : Calls Go.Proofs.Tryz.prog 74 #[.string s, .string ⟨#[c]⟩, .string ⟨new.toArray⟩] w fun e w' => e = .returned (.string ⟨(repM c new s.data.toList).toArray⟩) ∧ Below w.heap.size w w' := by
      rw [← e]; exact key
    exact key2)
theorem repCon_of {G : List (Nat × List Value)} {m : Int} (hm : (1, [Value.int .i64 m]) ∈ G) : RepCon G := fun s hs => rep_of hm 0 [0, 255] (by decide) (by simp) s hs
end Go.AM
/- Bounds: a part that is no And: the program's side. -/
namespace Go.AM
open Go Go.RowKit
open Go.Proofs.YtoecmmpjndcolaaGreatDoor (OP nameM litM exprM exprFrom stepM popsM vcheck)
theorem retA_norm {P : Program} {E : Env} {N : Nat} {rs : List ResultVar} {Q R : AV → List (Nat × Nd) → Nat → Prop} {st : AS} (h : retA P E N rs Q R .ret st) : retA P E N rs Q R .normal st := h
attribute [local irreducible] AWP retA
def boxB (st : List UInt8 × List UInt8) : Nd := .box 45 [nbA st.1, nbA st.2]
@[simp] theorem ren_nb (f : Nat → Nat) (l : List UInt8) : ren f (nbA l) = nbA l := by
  cases l <;> rfl
@[simp] theorem pt_nb (l : List UInt8) : PT (nbA l) := by
  cases l with
  | nil => exact .r _
  | cons x r => exact .ro _ _ (pt_map _ _)
/-- Literals that may be. -/
def okL (ops : List OP) : Prop := ∀ o ∈ ops, gV (valO o) ∧ vcheck o.vk o.vn o.vs = 0
theorem enc_one {v : V} (h : vcheck v.k v.n v.s = 0) : encM [v] = .ok (encV v) := by
  have := encV_len h
  rw [encM, if_neg (by simp)]
  simp only [encFrom, h, List.nil_append]
  simp
  omega
theorem say_long {key : ByteArray} {nt : Bool} {l : List OP} (h : l.length ≠ 3) : sayM key nt l = none := by
  match l, h with
  | [], _ => rfl
  | [_], _ => rfl
  | [_, _], _ => rfl
  | _ :: _ :: _ :: _ :: _, _ => rfl
set_option maxRecDepth 100000 in
set_option maxHeartbeats 16000000 in
theorem narrow_short {G : List (Nat × List Value)} (t : Bool) (key : ByteArray) (st : List UInt8 × List UInt8) (ops : List OP) (n : Nat) (o : OP) (hn : ops.length = n + 1) (hx : ops[n]? = some o) (h3 : o.k ≠ 3) (hl : n ≤ 1000) (hs : if o.k = 5 then n ≠ 3 else n ≠ 2) :
    Con Go.Proofs.Tryz.prog G 20 [.p 0 0 0, .r (.string key), .ro t 5 (ops.map eO)] [(0, boxB st)] 1 (Is (.tup []) [(0, boxB (updM key st ops))] 1) No := by
  have hgl : ops.getLast? = some o := by rw [List.getLast?_eq_getElem?, hn, Nat.add_sub_cancel, hx]
  have hU : updM key st ops = st := by
    rw [updM, sideM, hgl]
    simp only
    split at hs
    · rename_i h5; rw [if_pos h5, say_long (by rw [List.length_dropLast]; omega)]
    · rename_i h5; rw [if_neg h5, say_long (by omega)]
  rw [hU]
  refine con_of_awp Go.Proofs.Tryz.func20 rfl (by kernel_rfl) (of_decide_eq_true (by kernel_rfl)) ?_; intro E hG hE; subst hG; simp only [ent]
  have e1 : (ops.length : Int) - 1 = (n : Nat) := by omega
  have k3 : (o.k == 3) = false := by simpa using h3
  by_cases h5 : o.k = 5
  · rw [if_pos h5] at hs
    have d1 : ((n : Int) - 1 != 2) = true := by simp; omega
    (repeat' (first | refine awp_seq ?_ | refine awp_block ?_ | refine awp_skip ?_ | refine awp_exit ?_ | ((first | refine rR (fun K kp hK hkp => ?_) | refine rD (id := 4) mixed 6 [0,1,2,3,4,5] (fun K kp hK hkp => ?_) | refine rD (id := 5) mixed 7 [0,1,2,3,4,5,6] (fun K kp hK hkp => ?_) | refine iG ?_ | refine iD ?_); simp (implicitDefEqProofs := false) (maxSteps := 2000000) (disch := omega) only [go_sem, hx, eO, e1, k3, h5, d1]; (repeat' (first | (refine hK _ ?_; clear hK hkp kp K) | (with_reducible refine And.intro ?_ ?_) | omega))) | ((first | refine aG (fun h => ?_) (fun h => ?_) | refine aD (fun h => ?_) (fun h => ?_) | refine aX (fun h => ?_) (fun h => ?_)) <;> simp only [h]) | refine awp_cond_t rfl ?_ | refine awp_cond_f rfl ?_ | ((refine awp_cond rfl (fun h => ?_) (fun h => ?_) <;> try simp only [ifs] at h) <;> (try (exfalso; omega))) | refine awp_ret ?_))
    (refine retA_is (by (simp (implicitDefEqProofs := false) (maxSteps := 2000000) (disch := omega) only [go_sem, Go.Proofs.Tryz.results20, boxB]); rfl) ?_; refine (embV [0] ?_ ?_ ?_ ?_ ?_ ?_).s <;> simp [oneA, okO, lk, ren, renL, renNd, by_, hE, boxB])
  · rw [if_neg h5] at hs
    have d1 : ((n : Int) != 2) = true := by simp; omega
    have k5 : (o.k == 5) = false := by simpa using h5
    (repeat' (first | refine awp_seq ?_ | refine awp_block ?_ | refine awp_skip ?_ | refine awp_exit ?_ | ((first | refine rR (fun K kp hK hkp => ?_) | refine rD (id := 4) mixed 6 [0,1,2,3,4,5] (fun K kp hK hkp => ?_) | refine rD (id := 5) mixed 7 [0,1,2,3,4,5,6] (fun K kp hK hkp => ?_) | refine iG ?_ | refine iD ?_); simp (implicitDefEqProofs := false) (maxSteps := 2000000) (disch := omega) only [go_sem, hx, eO, e1, k3, k5, d1]; (repeat' (first | (refine hK _ ?_; clear hK hkp kp K) | (with_reducible refine And.intro ?_ ?_) | omega))) | ((first | refine aG (fun h => ?_) (fun h => ?_) | refine aD (fun h => ?_) (fun h => ?_) | refine aX (fun h => ?_) (fun h => ?_)) <;> simp only [h]) | refine awp_cond_t rfl ?_ | refine awp_cond_f rfl ?_ | ((refine awp_cond rfl (fun h => ?_) (fun h => ?_) <;> try simp only [ifs] at h) <;> (try (exfalso; omega))) | refine awp_ret ?_))
    (refine retA_is (by (simp (implicitDefEqProofs := false) (maxSteps := 2000000) (disch := omega) only [go_sem, Go.Proofs.Tryz.results20, boxB]); rfl) ?_; refine (embV [0] ?_ ?_ ?_ ?_ ?_ ?_).s <;> simp [oneA, okO, lk, ren, renL, renNd, by_, hE, boxB])
theorem nb_ne {l : List UInt8} (h : l ≠ []) : nbA l = .ro true 1 (l.map eByte) := by
  cases l with
  | nil => exact (h rfl).elim
  | cons x r => rfl
@[go_sem] theorem bor_nb (st : AS) (l : List UInt8) : bor st (nbA l) = some (nbA l) := by
  cases l <;> rfl
theorem lenS_nb (l : List UInt8) : lenS (nbA l) = some (.r (.int .i64 l.length)) := by
  cases l with
  | nil => rfl
  | cons x r => simp [nbA, lenS]
theorem bcmp_nb (G : List (Nat × List Value)) (t : Bool) (l m : List UInt8) : Con Go.Proofs.Tryz.prog G 50 [.ro t 1 (l.map eByte), nbA m] [] 0 (Is (.r (.int .i64 (Lib.compareBytes l m))) [] 0) No := by
  cases m with
  | nil => exact (bcmp_con G t true l []).weak (by simp [wkL, wk, nbA])
  | cons x r => exact bcmp_con G t true l (x :: r)
theorem cloneN_con (G : List (Nat × List Value)) (t : Bool) (l : List UInt8) (h : l ≠ []) (hl : l.length ≤ 1048576) : Con Go.Proofs.Tryz.prog G 51 [.ro t 1 (l.map eByte)] [] 0 (Is (.ro true 1 (l.map eByte)) [] 0) No := by
  cases l with
  | nil => exact (h rfl).elim
  | cons x r => exact cloneB_con G t x r (by simp at hl; omega)
/-- What is left of a part of three ops. -/
theorem upd_three {key : ByteArray} {st : List UInt8 × List UInt8} {nt : Bool} {a b c o : OP} (ho : o.k = 5) (hc : nt = false → c.k ≠ 5) : updM key st (if nt then [a, b, c, o] else [a, b, c]) = match sayM key nt [a, b, c] with
    | none => st
    | some (w, v) => (if w ≤ 0 ∧ Op.bytesLess st.1 (encV v) = true then encV v else st.1, if 0 ≤ w ∧ (st.2 = [] ∨ Op.bytesLess (encV v) st.2 = true) then encV v else st.2) := by
  cases nt
  · show updM key st [a, b, c] = _
    rw [updM, sideM]
    simp only [List.getLast?_cons_cons, List.getLast?_singleton, if_neg (hc rfl)]
    rfl
  · show updM key st [a, b, c, o] = _
    rw [updM, sideM]
    simp only [List.getLast?_cons_cons, List.getLast?_singleton, if_pos ho]
    rfl
end Go.AM
/- Bounds: a part of three ops: the program's side. -/
namespace Go.AM
open Go Go.RowKit
open Go.Proofs.YtoecmmpjndcolaaGreatDoor (OP nameM litM exprM exprFrom stepM popsM vcheck)
attribute [local irreducible] AWP retA
theorem isCol_k {key : ByteArray} {o : OP} (h : isCol key o = true) : o.k = 2 := by
  simp [isCol] at h; exact h.1
theorem isLit_k {o : OP} (h : isLit o = true) : o.k = 1 ∧ o.vk ≠ 0 := by
  simpa [isLit] using h
set_option maxRecDepth 100000 in
set_option maxHeartbeats 16000000 in
theorem narrow_none {G : List (Nat × List Value)} (t : Bool) (key : ByteArray) (st : List UInt8 × List UInt8) (nt : Bool) (a b c o : OP) (ho : o.k = 5) (hc : nt = false → c.k ≠ 5 ∧ c.k ≠ 3)
    (hno : (nt = false ∧ c.k ≠ 6 ∧ c.k ≠ 7) ∨ (nt = true ∧ c.k ≠ 7) ∨ ((isCol key a = false ∧ isCol key b = false) ∨ (isLit a = false ∧ isLit b = false))) :
    Con Go.Proofs.Tryz.prog G 20 [.p 0 0 0, .r (.string key), .ro t 5 ((if nt then [a, b, c, o] else [a, b, c]).map eO)] [(0, boxB st)] 1 (Is (.tup []) [(0, boxB (updM key st (if nt then [a, b, c, o] else [a, b, c])))] 1) No := by
  have hS : sayM key nt [a, b, c] = none := by
    rw [sayM]
    rcases hno with ⟨rfl, h6, h7⟩ | ⟨rfl, h7⟩ | ⟨h1, h2⟩ | ⟨h1, h2⟩
    · simp [h6, h7]
    · simp [h7]
    · simp [h1, h2]
    · have n1 : a.k = 1 → a.vk = 0 := fun h => by
        cases h0 : (a.vk != 0)
        · simpa using h0
        · rw [isLit, h, h0] at h1; simp at h1
      have n2 : b.k = 1 → b.vk = 0 := fun h => by
        cases h0 : (b.vk != 0)
        · simpa using h0
        · rw [isLit, h, h0] at h2; simp at h2
      repeat' split
      all_goals first | rfl | skip
      all_goals simp_all
  rw [upd_three ho (fun h => (hc h).1), hS]
  simp only
  have ic := fun H => indexFuncO_con H t [a, b] 47 [.re false [.r (.string key)] 0] (isCol key) (by simp) (by simp [borL, bor]) (by simp [renL, ren]) (fun G x => narrow1_con false key G x)
  have il := fun H => indexFuncO_con H t [a, b] 48 [] isLit (by simp) (by simp [borL]) (by simp [renL]) (fun G x => narrow2_con G x)
  simp only [List.map_cons, List.map_nil, eO] at ic il
  refine con_of_awp Go.Proofs.Tryz.func20 rfl (by kernel_rfl) (of_decide_eq_true (by kernel_rfl)) ?_; intro E hG hE; subst hG; simp only [ent]
  have ic := ic E.G
  have il := il E.G
  cases nt
  · obtain ⟨h5, h3⟩ := hc rfl
    have k3 : (c.k == 3) = false := by simpa using h3
    have k5 : (c.k == 5) = false := by simpa using h5
    simp only [if_neg (show ¬ (false = true) by decide), List.map_cons, List.map_nil]
    by_cases h67 : c.k = 6 ∨ c.k = 7
    · have hcl : (isCol key a = false ∧ isCol key b = false) ∨ (isLit a = false ∧ isLit b = false) := by
        rcases hno with ⟨_, h6, h7⟩ | ⟨h, _⟩ | h
        · rcases h67 with h | h
          · exact (h6 h).elim
          · exact (h7 h).elim
        · cases h
        · exact h
      rcases h67 with h6 | h6
      all_goals
        rcases hcl with ⟨h1, h2⟩ | ⟨h1, h2⟩
        · have hI : idxM (isCol key) [a, b] 0 = -1 := by simp [idxM, h1, h2]
          rw [hI] at ic
          (repeat' (first | refine awp_seq ?_ | refine awp_block ?_ | refine awp_skip ?_ | refine awp_exit ?_ | ((first | refine rR (fun K kp hK hkp => ?_) | refine rD (id := 4) mixed 6 [0,1,2,3,4,5] (fun K kp hK hkp => ?_) | refine rD (id := 5) mixed 7 [0,1,2,3,4,5,6] (fun K kp hK hkp => ?_) | refine cR ic ?_ | refine cD ic ?_ | refine cR il ?_ | refine cD il ?_ | refine iG ?_ | refine iD ?_); simp (implicitDefEqProofs := false) (maxSteps := 2000000) (disch := omega) only [go_sem, eO, k3, k5, h6]; (repeat' (first | (refine hK _ ?_; clear hK hkp kp K) | (with_reducible refine And.intro ?_ ?_) | omega))) | ((first | refine aG (fun h => ?_) (fun h => ?_) | refine aD (fun h => ?_) (fun h => ?_) | refine aX (fun h => ?_) (fun h => ?_)) <;> simp only [h]) | refine awp_cond_t rfl ?_ | refine awp_cond_f rfl ?_ | ((refine awp_cond rfl (fun h => ?_) (fun h => ?_) <;> try simp only [ifs] at h) <;> (try (exfalso; omega))) | refine awp_ret ?_))
          (refine retA_is (by (simp (implicitDefEqProofs := false) (maxSteps := 2000000) (disch := omega) only [go_sem, Go.Proofs.Tryz.results20, boxB]); rfl) ?_; refine (embV [0] ?_ ?_ ?_ ?_ ?_ ?_).s <;> simp [oneA, okO, lk, ren, renL, renNd, by_, hE, boxB])
        · have hL : idxM isLit [a, b] 0 = -1 := by simp [idxM, h1, h2]
          rw [hL] at il
          cases hd : decide (idxM (isCol key) [a, b] 0 < 0)
          all_goals
            (repeat' (first | refine awp_seq ?_ | refine awp_block ?_ | refine awp_skip ?_ | refine awp_exit ?_ | ((first | refine rR (fun K kp hK hkp => ?_) | refine rD (id := 4) mixed 6 [0,1,2,3,4,5] (fun K kp hK hkp => ?_) | refine rD (id := 5) mixed 7 [0,1,2,3,4,5,6] (fun K kp hK hkp => ?_) | refine cR ic ?_ | refine cD ic ?_ | refine cR il ?_ | refine cD il ?_ | refine iG ?_ | refine iD ?_); simp (implicitDefEqProofs := false) (maxSteps := 2000000) (disch := omega) only [go_sem, eO, hd, k3, k5, h6]; (repeat' (first | (refine hK _ ?_; clear hK hkp kp K) | (with_reducible refine And.intro ?_ ?_) | omega))) | ((first | refine aG (fun h => ?_) (fun h => ?_) | refine aD (fun h => ?_) (fun h => ?_) | refine aX (fun h => ?_) (fun h => ?_)) <;> simp only [h]) | refine awp_cond_t rfl ?_ | refine awp_cond_f rfl ?_ | ((refine awp_cond rfl (fun h => ?_) (fun h => ?_) <;> try simp only [ifs] at h) <;> (try (exfalso; omega))) | refine awp_ret ?_))
            (refine retA_is (by (simp (implicitDefEqProofs := false) (maxSteps := 2000000) (disch := omega) only [go_sem, Go.Proofs.Tryz.results20, boxB]); rfl) ?_; refine (embV [0] ?_ ?_ ?_ ?_ ?_ ?_).s <;> simp [oneA, okO, lk, ren, renL, renNd, by_, hE, boxB])
    · have k6 : (c.k != 6) = true := by simp; exact fun h => h67 (.inl h)
      have k7 : (c.k != 7) = true := by simp; exact fun h => h67 (.inr h)
      (repeat' (first | refine awp_seq ?_ | refine awp_block ?_ | refine awp_skip ?_ | refine awp_exit ?_ | ((first | refine rR (fun K kp hK hkp => ?_) | refine rD (id := 4) mixed 6 [0,1,2,3,4,5] (fun K kp hK hkp => ?_) | refine rD (id := 5) mixed 7 [0,1,2,3,4,5,6] (fun K kp hK hkp => ?_) | refine iG ?_ | refine iD ?_); simp (implicitDefEqProofs := false) (maxSteps := 2000000) (disch := omega) only [go_sem, eO, k3, k5, k6, k7]; (repeat' (first | (refine hK _ ?_; clear hK hkp kp K) | (with_reducible refine And.intro ?_ ?_) | omega))) | ((first | refine aG (fun h => ?_) (fun h => ?_) | refine aD (fun h => ?_) (fun h => ?_) | refine aX (fun h => ?_) (fun h => ?_)) <;> simp only [h]) | refine awp_cond_t rfl ?_ | refine awp_cond_f rfl ?_ | ((refine awp_cond rfl (fun h => ?_) (fun h => ?_) <;> try simp only [ifs] at h) <;> (try (exfalso; omega))) | refine awp_ret ?_))
      (refine retA_is (by (simp (implicitDefEqProofs := false) (maxSteps := 2000000) (disch := omega) only [go_sem, Go.Proofs.Tryz.results20, boxB]); rfl) ?_; refine (embV [0] ?_ ?_ ?_ ?_ ?_ ?_).s <;> simp [oneA, okO, lk, ren, renL, renNd, by_, hE, boxB])
  · simp only [if_true, List.map_cons, List.map_nil]
    by_cases h7 : c.k = 7
    · have hcl : (isCol key a = false ∧ isCol key b = false) ∨ (isLit a = false ∧ isLit b = false) := by
        rcases hno with ⟨h, _⟩ | ⟨_, h⟩ | h
        · cases h
        · exact (h h7).elim
        · exact h
      rcases hcl with ⟨h1, h2⟩ | ⟨h1, h2⟩
      · have hI : idxM (isCol key) [a, b] 0 = -1 := by simp [idxM, h1, h2]
        rw [hI] at ic
        (repeat' (first | refine awp_seq ?_ | refine awp_block ?_ | refine awp_skip ?_ | refine awp_exit ?_ | ((first | refine rR (fun K kp hK hkp => ?_) | refine rD (id := 4) mixed 6 [0,1,2,3,4,5] (fun K kp hK hkp => ?_) | refine rD (id := 5) mixed 7 [0,1,2,3,4,5,6] (fun K kp hK hkp => ?_) | refine cR ic ?_ | refine cD ic ?_ | refine cR il ?_ | refine cD il ?_ | refine iG ?_ | refine iD ?_); simp (implicitDefEqProofs := false) (maxSteps := 2000000) (disch := omega) only [go_sem, eO, ho, h7]; (repeat' (first | (refine hK _ ?_; clear hK hkp kp K) | (with_reducible refine And.intro ?_ ?_) | omega))) | ((first | refine aG (fun h => ?_) (fun h => ?_) | refine aD (fun h => ?_) (fun h => ?_) | refine aX (fun h => ?_) (fun h => ?_)) <;> simp only [h]) | refine awp_cond_t rfl ?_ | refine awp_cond_f rfl ?_ | ((refine awp_cond rfl (fun h => ?_) (fun h => ?_) <;> try simp only [ifs] at h) <;> (try (exfalso; omega))) | refine awp_ret ?_))
        (refine retA_is (by (simp (implicitDefEqProofs := false) (maxSteps := 2000000) (disch := omega) only [go_sem, Go.Proofs.Tryz.results20, boxB]); rfl) ?_; refine (embV [0] ?_ ?_ ?_ ?_ ?_ ?_).s <;> simp [oneA, okO, lk, ren, renL, renNd, by_, hE, boxB])
      · have hL : idxM isLit [a, b] 0 = -1 := by simp [idxM, h1, h2]
        rw [hL] at il
        cases hd : decide (idxM (isCol key) [a, b] 0 < 0)
        all_goals
          (repeat' (first | refine awp_seq ?_ | refine awp_block ?_ | refine awp_skip ?_ | refine awp_exit ?_ | ((first | refine rR (fun K kp hK hkp => ?_) | refine rD (id := 4) mixed 6 [0,1,2,3,4,5] (fun K kp hK hkp => ?_) | refine rD (id := 5) mixed 7 [0,1,2,3,4,5,6] (fun K kp hK hkp => ?_) | refine cR ic ?_ | refine cD ic ?_ | refine cR il ?_ | refine cD il ?_ | refine iG ?_ | refine iD ?_); simp (implicitDefEqProofs := false) (maxSteps := 2000000) (disch := omega) only [go_sem, eO, hd, ho, h7]; (repeat' (first | (refine hK _ ?_; clear hK hkp kp K) | (with_reducible refine And.intro ?_ ?_) | omega))) | ((first | refine aG (fun h => ?_) (fun h => ?_) | refine aD (fun h => ?_) (fun h => ?_) | refine aX (fun h => ?_) (fun h => ?_)) <;> simp only [h]) | refine awp_cond_t rfl ?_ | refine awp_cond_f rfl ?_ | ((refine awp_cond rfl (fun h => ?_) (fun h => ?_) <;> try simp only [ifs] at h) <;> (try (exfalso; omega))) | refine awp_ret ?_))
          (refine retA_is (by (simp (implicitDefEqProofs := false) (maxSteps := 2000000) (disch := omega) only [go_sem, Go.Proofs.Tryz.results20, boxB]); rfl) ?_; refine (embV [0] ?_ ?_ ?_ ?_ ?_ ?_).s <;> simp [oneA, okO, lk, ren, renL, renNd, by_, hE, boxB])
    · have k7 : (c.k != 7) = true := by simpa using h7
      (repeat' (first | refine awp_seq ?_ | refine awp_block ?_ | refine awp_skip ?_ | refine awp_exit ?_ | ((first | refine rR (fun K kp hK hkp => ?_) | refine rD (id := 4) mixed 6 [0,1,2,3,4,5] (fun K kp hK hkp => ?_) | refine rD (id := 5) mixed 7 [0,1,2,3,4,5,6] (fun K kp hK hkp => ?_) | refine iG ?_ | refine iD ?_); simp (implicitDefEqProofs := false) (maxSteps := 2000000) (disch := omega) only [go_sem, eO, ho, k7]; (repeat' (first | (refine hK _ ?_; clear hK hkp kp K) | (with_reducible refine And.intro ?_ ?_) | omega))) | ((first | refine aG (fun h => ?_) (fun h => ?_) | refine aD (fun h => ?_) (fun h => ?_) | refine aX (fun h => ?_) (fun h => ?_)) <;> simp only [h]) | refine awp_cond_t rfl ?_ | refine awp_cond_f rfl ?_ | ((refine awp_cond rfl (fun h => ?_) (fun h => ?_) <;> try simp only [ifs] at h) <;> (try (exfalso; omega))) | refine awp_ret ?_))
      (refine retA_is (by (simp (implicitDefEqProofs := false) (maxSteps := 2000000) (disch := omega) only [go_sem, Go.Proofs.Tryz.results20, boxB]); rfl) ?_; refine (embV [0] ?_ ?_ ?_ ?_ ?_ ?_).s <;> simp [oneA, okO, lk, ren, renL, renNd, by_, hE, boxB])
end Go.AM
/- Bounds: a part that says something of the key: the program's side. -/
namespace Go.AM
open Go Go.RowKit
open Go.Proofs.YtoecmmpjndcolaaGreatDoor (OP nameM litM exprM exprFrom stepM popsM vcheck)
attribute [local irreducible] AWP retA
set_option maxRecDepth 100000 in
set_option maxHeartbeats 32000000 in
theorem narrow_ab {G : List (Nat × List Value)} (HR : RepCon G) (t : Bool) (key : ByteArray) (lo hi : List UInt8) (nt : Bool) (a b c o : OP) (ho : o.k = 5) (hk : (c.k = 6 ∧ nt = false) ∨ c.k = 7) (h1 : isCol key a = true) (h2 : isLit b = true) (hgy : gV (valO b)) (hvy : vcheck b.vk b.vn b.vs = 0) :
    Con Go.Proofs.Tryz.prog G 20 [.p 0 0 0, .r (.string key), .ro t 5 ((if nt then [a, b, c, o] else [a, b, c]).map eO)] [(0, boxB (lo, hi))] 1 (Is (.tup []) [(0, boxB (updM key (lo, hi) (if nt then [a, b, c, o] else [a, b, c])))] 1) No := by
  have kx := isCol_k h1
  obtain ⟨ky, ny⟩ := isLit_k h2
  have l1 : isLit a = false := by simp [isLit, kx]
  have c1 : isCol key b = false := by simp [isCol, ky]
  have hS : sayM key nt [a, b, c] = some (if c.k = 6 then 0 else if nt = false then 1 else -1, valO b) := by
    rw [sayM]
    rcases hk with ⟨h6, rfl⟩ | h7
    · simp [h1, c1, ky, kx, ny, h6]
    · cases nt <;> simp [h1, c1, ky, kx, ny, h7]
  rw [upd_three ho (fun _ => by rcases hk with h | h <;> omega), hS]
  simp only
  have hc := fun H => encode_con (G := H) (t := false) (l := [valO b])
  have hI : idxM (isCol key) [a, b] 0 = 0 := by simp [idxM, h1, c1]
  have hL : idxM isLit [a, b] 0 = 1 := by simp [idxM, h2, l1]
  have ic := fun H => indexFuncO_con H t [a, b] 47 [.re false [.r (.string key)] 0] (isCol key) (by simp) (by simp [borL, bor]) (by simp [renL, ren]) (fun G x => narrow1_con false key G x)
  have il := fun H => indexFuncO_con H t [a, b] 48 [] isLit (by simp) (by simp [borL]) (by simp [renL]) (fun G x => narrow2_con G x)
  simp only [hI, hL] at ic il
  simp only [List.map_cons, List.map_nil, eO] at ic il
  have hlen := encV_len (v := valO b) hvy
  obtain ⟨kb, hkb⟩ : ∃ kb, encV (valO b) = kb := ⟨_, rfl⟩
  have hne : kb ≠ [] := by rw [← hkb]; simp [encV]
  rw [hkb] at hlen
  rw [hkb]
  have hkn := nb_ne hne
  refine con_of_awp Go.Proofs.Tryz.func20 rfl (by kernel_rfl) (of_decide_eq_true (by kernel_rfl)) ?_; intro E hG hE; subst hG; simp only [ent]
  have ic := ic E.G
  have il := il E.G
  have hc := hc E.G HR (by simp) (fun v hv => by simp only [List.mem_singleton] at hv; subst hv; exact hgy)
  rw [enc_one (v := valO b) hvy, hkb] at hc
  simp only [List.map_cons, List.map_nil, encA, eV, valO] at hc
  have kc := cloneN_con E.G true kb hne (by omega)
  have bl := bcmp_nb E.G true kb lo
  have bh := bcmp_nb E.G true kb hi
  have g1 := cmp_gt kb lo
  have g3 := cmp_lt kb hi
  by_cases hz : hi = []
  · subst hz
    have hzn : nbA [] = .r (.slice none 0 0) := rfl
    rw [hzn] at bh
    cases hb1 : Op.bytesLess lo kb
    all_goals
      rw [hb1] at g1
      rcases hk with ⟨h6, rfl⟩ | h7
      · simp only [if_neg (show ¬ (false = true) by decide), List.map_cons, List.map_nil]
        (repeat' (first | refine awp_seq ?_ | refine awp_block ?_ | refine awp_skip ?_ | refine awp_exit ?_ | ((first | refine rR (fun K kp hK hkp => ?_) | refine rD (id := 4) mixed 6 [0,1,2,3,4,5] (fun K kp hK hkp => ?_) | refine rD (id := 5) mixed 7 [0,1,2,3,4,5,6] (fun K kp hK hkp => ?_) | refine cR ic ?_ | refine cD ic ?_ | refine cR il ?_ | refine cD il ?_ | refine cR hc ?_ | refine cD hc ?_ | refine cR kc ?_ | refine cD kc ?_ | refine cR bl ?_ | refine cD bl ?_ | refine cR bh ?_ | refine cD bh ?_ | refine iG ?_ | refine iD ?_); simp (implicitDefEqProofs := false) (maxSteps := 2000000) (disch := omega) only [go_sem, eO, h6, kx, ky, boxB, bor_nb, g1, hzn]; (repeat' (first | (refine hK _ ?_; clear hK hkp kp K) | (with_reducible refine And.intro ?_ ?_) | omega))) | ((first | refine aG (fun h => ?_) (fun h => ?_) | refine aD (fun h => ?_) (fun h => ?_) | refine aX (fun h => ?_) (fun h => ?_)) <;> simp only [h]) | refine awp_cond_t rfl ?_ | refine awp_cond_f rfl ?_ | ((refine awp_cond rfl (fun h => ?_) (fun h => ?_) <;> try simp only [ifs] at h) <;> (try (exfalso; omega))) | refine awp_ret ?_))
        refine retA_norm ?_
        (refine retA_is (by (simp (implicitDefEqProofs := false) (maxSteps := 2000000) (disch := omega) only [go_sem, Go.Proofs.Tryz.results20, boxB, hkn, hb1, h6, hzn]); rfl) ?_; refine (embV [0] ?_ ?_ ?_ ?_ ?_ ?_).s <;> simp [oneA, okO, lk, ren, renL, renNd, by_, hE, boxB, hkn, hb1, h6, hzn])
      · cases nt
        all_goals
          simp only [if_neg (show ¬ (false = true) by decide), if_true, List.map_cons, List.map_nil]
          (repeat' (first | refine awp_seq ?_ | refine awp_block ?_ | refine awp_skip ?_ | refine awp_exit ?_ | ((first | refine rR (fun K kp hK hkp => ?_) | refine rD (id := 4) mixed 6 [0,1,2,3,4,5] (fun K kp hK hkp => ?_) | refine rD (id := 5) mixed 7 [0,1,2,3,4,5,6] (fun K kp hK hkp => ?_) | refine cR ic ?_ | refine cD ic ?_ | refine cR il ?_ | refine cD il ?_ | refine cR hc ?_ | refine cD hc ?_ | refine cR kc ?_ | refine cD kc ?_ | refine cR bl ?_ | refine cD bl ?_ | refine cR bh ?_ | refine cD bh ?_ | refine iG ?_ | refine iD ?_); simp (implicitDefEqProofs := false) (maxSteps := 2000000) (disch := omega) only [go_sem, eO, h7, ho, kx, ky, boxB, bor_nb, g1, hzn]; (repeat' (first | (refine hK _ ?_; clear hK hkp kp K) | (with_reducible refine And.intro ?_ ?_) | omega))) | ((first | refine aG (fun h => ?_) (fun h => ?_) | refine aD (fun h => ?_) (fun h => ?_) | refine aX (fun h => ?_) (fun h => ?_)) <;> simp only [h]) | refine awp_cond_t rfl ?_ | refine awp_cond_f rfl ?_ | ((refine awp_cond rfl (fun h => ?_) (fun h => ?_) <;> try simp only [ifs] at h) <;> (try (exfalso; omega))) | refine awp_ret ?_))
          refine retA_norm ?_
          (refine retA_is (by (simp (implicitDefEqProofs := false) (maxSteps := 2000000) (disch := omega) only [go_sem, Go.Proofs.Tryz.results20, boxB, hkn, hb1, h7, hzn]); rfl) ?_; refine (embV [0] ?_ ?_ ?_ ?_ ?_ ?_).s <;> simp [oneA, okO, lk, ren, renL, renNd, by_, hE, boxB, hkn, hb1, h7, hzn])
  · have g2 : ((hi.length : Int) == 0) = false := by simp [hz]
    have hzn := nb_ne hz
    rw [hzn] at bh
    cases hb1 : Op.bytesLess lo kb
    all_goals
      rw [hb1] at g1
      cases hb3 : Op.bytesLess kb hi
      all_goals
        rw [hb3] at g3
        rcases hk with ⟨h6, rfl⟩ | h7
        · simp only [if_neg (show ¬ (false = true) by decide), List.map_cons, List.map_nil]
          (repeat' (first | refine awp_seq ?_ | refine awp_block ?_ | refine awp_skip ?_ | refine awp_exit ?_ | ((first | refine rR (fun K kp hK hkp => ?_) | refine rD (id := 4) mixed 6 [0,1,2,3,4,5] (fun K kp hK hkp => ?_) | refine rD (id := 5) mixed 7 [0,1,2,3,4,5,6] (fun K kp hK hkp => ?_) | refine cR ic ?_ | refine cD ic ?_ | refine cR il ?_ | refine cD il ?_ | refine cR hc ?_ | refine cD hc ?_ | refine cR kc ?_ | refine cD kc ?_ | refine cR bl ?_ | refine cD bl ?_ | refine cR bh ?_ | refine cD bh ?_ | refine iG ?_ | refine iD ?_); simp (implicitDefEqProofs := false) (maxSteps := 2000000) (disch := omega) only [go_sem, eO, h6, kx, ky, boxB, bor_nb, g1, g2, g3, hzn]; (repeat' (first | (refine hK _ ?_; clear hK hkp kp K) | (with_reducible refine And.intro ?_ ?_) | omega))) | ((first | refine aG (fun h => ?_) (fun h => ?_) | refine aD (fun h => ?_) (fun h => ?_) | refine aX (fun h => ?_) (fun h => ?_)) <;> simp only [h]) | refine awp_cond_t rfl ?_ | refine awp_cond_f rfl ?_ | ((refine awp_cond rfl (fun h => ?_) (fun h => ?_) <;> try simp only [ifs] at h) <;> (try (exfalso; omega))) | refine awp_ret ?_))
          refine retA_norm ?_
          (refine retA_is (by (simp (implicitDefEqProofs := false) (maxSteps := 2000000) (disch := omega) only [go_sem, Go.Proofs.Tryz.results20, boxB, hkn, hb1, h6, hz, hb3, hzn]); rfl) ?_; refine (embV [0] ?_ ?_ ?_ ?_ ?_ ?_).s <;> simp [oneA, okO, lk, ren, renL, renNd, by_, hE, boxB, hkn, hb1, h6, hz, hb3, hzn])
        · cases nt
          all_goals
            simp only [if_neg (show ¬ (false = true) by decide), if_true, List.map_cons, List.map_nil]
            (repeat' (first | refine awp_seq ?_ | refine awp_block ?_ | refine awp_skip ?_ | refine awp_exit ?_ | ((first | refine rR (fun K kp hK hkp => ?_) | refine rD (id := 4) mixed 6 [0,1,2,3,4,5] (fun K kp hK hkp => ?_) | refine rD (id := 5) mixed 7 [0,1,2,3,4,5,6] (fun K kp hK hkp => ?_) | refine cR ic ?_ | refine cD ic ?_ | refine cR il ?_ | refine cD il ?_ | refine cR hc ?_ | refine cD hc ?_ | refine cR kc ?_ | refine cD kc ?_ | refine cR bl ?_ | refine cD bl ?_ | refine cR bh ?_ | refine cD bh ?_ | refine iG ?_ | refine iD ?_); simp (implicitDefEqProofs := false) (maxSteps := 2000000) (disch := omega) only [go_sem, eO, h7, ho, kx, ky, boxB, bor_nb, g1, g2, g3, hzn]; (repeat' (first | (refine hK _ ?_; clear hK hkp kp K) | (with_reducible refine And.intro ?_ ?_) | omega))) | ((first | refine aG (fun h => ?_) (fun h => ?_) | refine aD (fun h => ?_) (fun h => ?_) | refine aX (fun h => ?_) (fun h => ?_)) <;> simp only [h]) | refine awp_cond_t rfl ?_ | refine awp_cond_f rfl ?_ | ((refine awp_cond rfl (fun h => ?_) (fun h => ?_) <;> try simp only [ifs] at h) <;> (try (exfalso; omega))) | refine awp_ret ?_))
            refine retA_norm ?_
            (refine retA_is (by (simp (implicitDefEqProofs := false) (maxSteps := 2000000) (disch := omega) only [go_sem, Go.Proofs.Tryz.results20, boxB, hkn, hb1, h7, hz, hb3, hzn]); rfl) ?_; refine (embV [0] ?_ ?_ ?_ ?_ ?_ ?_).s <;> simp [oneA, okO, lk, ren, renL, renNd, by_, hE, boxB, hkn, hb1, h7, hz, hb3, hzn])
end Go.AM
/- Bounds: a part that says something of the key: the program's side. -/
namespace Go.AM
open Go Go.RowKit
open Go.Proofs.YtoecmmpjndcolaaGreatDoor (OP nameM litM exprM exprFrom stepM popsM vcheck)
attribute [local irreducible] AWP retA
set_option maxRecDepth 100000 in
set_option maxHeartbeats 32000000 in
theorem narrow_ba {G : List (Nat × List Value)} (HR : RepCon G) (t : Bool) (key : ByteArray) (lo hi : List UInt8) (nt : Bool) (a b c o : OP) (ho : o.k = 5) (hk : (c.k = 6 ∧ nt = false) ∨ c.k = 7) (h1 : isCol key b = true) (h2 : isLit a = true) (hgy : gV (valO a)) (hvy : vcheck a.vk a.vn a.vs = 0) :
    Con Go.Proofs.Tryz.prog G 20 [.p 0 0 0, .r (.string key), .ro t 5 ((if nt then [a, b, c, o] else [a, b, c]).map eO)] [(0, boxB (lo, hi))] 1 (Is (.tup []) [(0, boxB (updM key (lo, hi) (if nt then [a, b, c, o] else [a, b, c])))] 1) No := by
  have kx := isCol_k h1
  obtain ⟨ky, ny⟩ := isLit_k h2
  have l1 : isLit b = false := by simp [isLit, kx]
  have c1 : isCol key a = false := by simp [isCol, ky]
  have hS : sayM key nt [a, b, c] = some (if c.k = 6 then 0 else if nt = true then 1 else -1, valO a) := by
    rw [sayM]
    rcases hk with ⟨h6, rfl⟩ | h7
    · simp [h1, c1, ky, kx, ny, h6]
    · cases nt <;> simp [h1, c1, ky, kx, ny, h7]
  rw [upd_three ho (fun _ => by rcases hk with h | h <;> omega), hS]
  simp only
  have hc := fun H => encode_con (G := H) (t := false) (l := [valO a])
  have hI : idxM (isCol key) [a, b] 0 = 1 := by simp [idxM, h1, c1]
  have hL : idxM isLit [a, b] 0 = 0 := by simp [idxM, h2, l1]
  have ic := fun H => indexFuncO_con H t [a, b] 47 [.re false [.r (.string key)] 0] (isCol key) (by simp) (by simp [borL, bor]) (by simp [renL, ren]) (fun G x => narrow1_con false key G x)
  have il := fun H => indexFuncO_con H t [a, b] 48 [] isLit (by simp) (by simp [borL]) (by simp [renL]) (fun G x => narrow2_con G x)
  simp only [hI, hL] at ic il
  simp only [List.map_cons, List.map_nil, eO] at ic il
  have hlen := encV_len (v := valO a) hvy
  obtain ⟨kb, hkb⟩ : ∃ kb, encV (valO a) = kb := ⟨_, rfl⟩
  have hne : kb ≠ [] := by rw [← hkb]; simp [encV]
  rw [hkb] at hlen
  rw [hkb]
  have hkn := nb_ne hne
  refine con_of_awp Go.Proofs.Tryz.func20 rfl (by kernel_rfl) (of_decide_eq_true (by kernel_rfl)) ?_; intro E hG hE; subst hG; simp only [ent]
  have ic := ic E.G
  have il := il E.G
  have hc := hc E.G HR (by simp) (fun v hv => by simp only [List.mem_singleton] at hv; subst hv; exact hgy)
  rw [enc_one (v := valO a) hvy, hkb] at hc
  simp only [List.map_cons, List.map_nil, encA, eV, valO] at hc
  have kc := cloneN_con E.G true kb hne (by omega)
  have bl := bcmp_nb E.G true kb lo
  have bh := bcmp_nb E.G true kb hi
  have g1 := cmp_gt kb lo
  have g3 := cmp_lt kb hi
  by_cases hz : hi = []
  · subst hz
    have hzn : nbA [] = .r (.slice none 0 0) := rfl
    rw [hzn] at bh
    cases hb1 : Op.bytesLess lo kb
    all_goals
      rw [hb1] at g1
      rcases hk with ⟨h6, rfl⟩ | h7
      · simp only [if_neg (show ¬ (false = true) by decide), List.map_cons, List.map_nil]
        (repeat' (first | refine awp_seq ?_ | refine awp_block ?_ | refine awp_skip ?_ | refine awp_exit ?_ | ((first | refine rR (fun K kp hK hkp => ?_) | refine rD (id := 4) mixed 6 [0,1,2,3,4,5] (fun K kp hK hkp => ?_) | refine rD (id := 5) mixed 7 [0,1,2,3,4,5,6] (fun K kp hK hkp => ?_) | refine cR ic ?_ | refine cD ic ?_ | refine cR il ?_ | refine cD il ?_ | refine cR hc ?_ | refine cD hc ?_ | refine cR kc ?_ | refine cD kc ?_ | refine cR bl ?_ | refine cD bl ?_ | refine cR bh ?_ | refine cD bh ?_ | refine iG ?_ | refine iD ?_); simp (implicitDefEqProofs := false) (maxSteps := 2000000) (disch := omega) only [go_sem, eO, h6, kx, ky, boxB, bor_nb, g1, hzn]; (repeat' (first | (refine hK _ ?_; clear hK hkp kp K) | (with_reducible refine And.intro ?_ ?_) | omega))) | ((first | refine aG (fun h => ?_) (fun h => ?_) | refine aD (fun h => ?_) (fun h => ?_) | refine aX (fun h => ?_) (fun h => ?_)) <;> simp only [h]) | refine awp_cond_t rfl ?_ | refine awp_cond_f rfl ?_ | ((refine awp_cond rfl (fun h => ?_) (fun h => ?_) <;> try simp only [ifs] at h) <;> (try (exfalso; omega))) | refine awp_ret ?_))
        refine retA_norm ?_
        (refine retA_is (by (simp (implicitDefEqProofs := false) (maxSteps := 2000000) (disch := omega) only [go_sem, Go.Proofs.Tryz.results20, boxB, hkn, hb1, h6, hzn]); rfl) ?_; refine (embV [0] ?_ ?_ ?_ ?_ ?_ ?_).s <;> simp [oneA, okO, lk, ren, renL, renNd, by_, hE, boxB, hkn, hb1, h6, hzn])
      · cases nt
        all_goals
          simp only [if_neg (show ¬ (false = true) by decide), if_true, List.map_cons, List.map_nil]
          (repeat' (first | refine awp_seq ?_ | refine awp_block ?_ | refine awp_skip ?_ | refine awp_exit ?_ | ((first | refine rR (fun K kp hK hkp => ?_) | refine rD (id := 4) mixed 6 [0,1,2,3,4,5] (fun K kp hK hkp => ?_) | refine rD (id := 5) mixed 7 [0,1,2,3,4,5,6] (fun K kp hK hkp => ?_) | refine cR ic ?_ | refine cD ic ?_ | refine cR il ?_ | refine cD il ?_ | refine cR hc ?_ | refine cD hc ?_ | refine cR kc ?_ | refine cD kc ?_ | refine cR bl ?_ | refine cD bl ?_ | refine cR bh ?_ | refine cD bh ?_ | refine iG ?_ | refine iD ?_); simp (implicitDefEqProofs := false) (maxSteps := 2000000) (disch := omega) only [go_sem, eO, h7, ho, kx, ky, boxB, bor_nb, g1, hzn]; (repeat' (first | (refine hK _ ?_; clear hK hkp kp K) | (with_reducible refine And.intro ?_ ?_) | omega))) | ((first | refine aG (fun h => ?_) (fun h => ?_) | refine aD (fun h => ?_) (fun h => ?_) | refine aX (fun h => ?_) (fun h => ?_)) <;> simp only [h]) | refine awp_cond_t rfl ?_ | refine awp_cond_f rfl ?_ | ((refine awp_cond rfl (fun h => ?_) (fun h => ?_) <;> try simp only [ifs] at h) <;> (try (exfalso; omega))) | refine awp_ret ?_))
          refine retA_norm ?_
          (refine retA_is (by (simp (implicitDefEqProofs := false) (maxSteps := 2000000) (disch := omega) only [go_sem, Go.Proofs.Tryz.results20, boxB, hkn, hb1, h7, hzn]); rfl) ?_; refine (embV [0] ?_ ?_ ?_ ?_ ?_ ?_).s <;> simp [oneA, okO, lk, ren, renL, renNd, by_, hE, boxB, hkn, hb1, h7, hzn])
  · have g2 : ((hi.length : Int) == 0) = false := by simp [hz]
    have hzn := nb_ne hz
    rw [hzn] at bh
    cases hb1 : Op.bytesLess lo kb
    all_goals
      rw [hb1] at g1
      cases hb3 : Op.bytesLess kb hi
      all_goals
        rw [hb3] at g3
        rcases hk with ⟨h6, rfl⟩ | h7
        · simp only [if_neg (show ¬ (false = true) by decide), List.map_cons, List.map_nil]
          (repeat' (first | refine awp_seq ?_ | refine awp_block ?_ | refine awp_skip ?_ | refine awp_exit ?_ | ((first | refine rR (fun K kp hK hkp => ?_) | refine rD (id := 4) mixed 6 [0,1,2,3,4,5] (fun K kp hK hkp => ?_) | refine rD (id := 5) mixed 7 [0,1,2,3,4,5,6] (fun K kp hK hkp => ?_) | refine cR ic ?_ | refine cD ic ?_ | refine cR il ?_ | refine cD il ?_ | refine cR hc ?_ | refine cD hc ?_ | refine cR kc ?_ | refine cD kc ?_ | refine cR bl ?_ | refine cD bl ?_ | refine cR bh ?_ | refine cD bh ?_ | refine iG ?_ | refine iD ?_); simp (implicitDefEqProofs := false) (maxSteps := 2000000) (disch := omega) only [go_sem, eO, h6, kx, ky, boxB, bor_nb, g1, g2, g3, hzn]; (repeat' (first | (refine hK _ ?_; clear hK hkp kp K) | (with_reducible refine And.intro ?_ ?_) | omega))) | ((first | refine aG (fun h => ?_) (fun h => ?_) | refine aD (fun h => ?_) (fun h => ?_) | refine aX (fun h => ?_) (fun h => ?_)) <;> simp only [h]) | refine awp_cond_t rfl ?_ | refine awp_cond_f rfl ?_ | ((refine awp_cond rfl (fun h => ?_) (fun h => ?_) <;> try simp only [ifs] at h) <;> (try (exfalso; omega))) | refine awp_ret ?_))
          refine retA_norm ?_
          (refine retA_is (by (simp (implicitDefEqProofs := false) (maxSteps := 2000000) (disch := omega) only [go_sem, Go.Proofs.Tryz.results20, boxB, hkn, hb1, h6, hz, hb3, hzn]); rfl) ?_; refine (embV [0] ?_ ?_ ?_ ?_ ?_ ?_).s <;> simp [oneA, okO, lk, ren, renL, renNd, by_, hE, boxB, hkn, hb1, h6, hz, hb3, hzn])
        · cases nt
          all_goals
            simp only [if_neg (show ¬ (false = true) by decide), if_true, List.map_cons, List.map_nil]
            (repeat' (first | refine awp_seq ?_ | refine awp_block ?_ | refine awp_skip ?_ | refine awp_exit ?_ | ((first | refine rR (fun K kp hK hkp => ?_) | refine rD (id := 4) mixed 6 [0,1,2,3,4,5] (fun K kp hK hkp => ?_) | refine rD (id := 5) mixed 7 [0,1,2,3,4,5,6] (fun K kp hK hkp => ?_) | refine cR ic ?_ | refine cD ic ?_ | refine cR il ?_ | refine cD il ?_ | refine cR hc ?_ | refine cD hc ?_ | refine cR kc ?_ | refine cD kc ?_ | refine cR bl ?_ | refine cD bl ?_ | refine cR bh ?_ | refine cD bh ?_ | refine iG ?_ | refine iD ?_); simp (implicitDefEqProofs := false) (maxSteps := 2000000) (disch := omega) only [go_sem, eO, h7, ho, kx, ky, boxB, bor_nb, g1, g2, g3, hzn]; (repeat' (first | (refine hK _ ?_; clear hK hkp kp K) | (with_reducible refine And.intro ?_ ?_) | omega))) | ((first | refine aG (fun h => ?_) (fun h => ?_) | refine aD (fun h => ?_) (fun h => ?_) | refine aX (fun h => ?_) (fun h => ?_)) <;> simp only [h]) | refine awp_cond_t rfl ?_ | refine awp_cond_f rfl ?_ | ((refine awp_cond rfl (fun h => ?_) (fun h => ?_) <;> try simp only [ifs] at h) <;> (try (exfalso; omega))) | refine awp_ret ?_))
            refine retA_norm ?_
            (refine retA_is (by (simp (implicitDefEqProofs := false) (maxSteps := 2000000) (disch := omega) only [go_sem, Go.Proofs.Tryz.results20, boxB, hkn, hb1, h7, hz, hb3, hzn]); rfl) ?_; refine (embV [0] ?_ ?_ ?_ ?_ ?_ ?_).s <;> simp [oneA, okO, lk, ren, renL, renNd, by_, hE, boxB, hkn, hb1, h7, hz, hb3, hzn])
end Go.AM
/- Bounds: narrow, whole. -/
namespace Go.AM
open Go Go.RowKit
open Go.Proofs.YtoecmmpjndcolaaGreatDoor (OP nameM litM exprM exprFrom stepM popsM vcheck)
attribute [local irreducible] AWP retA
theorem narrow_three {G : List (Nat × List Value)} (HR : RepCon G) (t : Bool) (key : ByteArray) (st : List UInt8 × List UInt8) (nt : Bool) (a b c o : OP) (ho : o.k = 5) (hc : nt = false → c.k ≠ 5 ∧ c.k ≠ 3) (hg : okL [a, b]) :
    Con Go.Proofs.Tryz.prog G 20 [.p 0 0 0, .r (.string key), .ro t 5 ((if nt then [a, b, c, o] else [a, b, c]).map eO)] [(0, boxB st)] 1 (Is (.tup []) [(0, boxB (updM key st (if nt then [a, b, c, o] else [a, b, c])))] 1) No := by
  obtain ⟨ga, va⟩ := hg a (by simp)
  obtain ⟨gb, vb⟩ := hg b (by simp)
  obtain ⟨lo, hi⟩ := st
  by_cases hk : (c.k = 6 ∧ nt = false) ∨ c.k = 7
  · by_cases h1 : isCol key a = true ∧ isLit b = true
    · exact narrow_ab HR t key lo hi nt a b c o ho hk h1.1 h1.2 gb vb
    by_cases h2 : isCol key b = true ∧ isLit a = true
    · exact narrow_ba HR t key lo hi nt a b c o ho hk h2.1 h2.2 ga va
    refine narrow_none t key (lo, hi) nt a b c o ho hc (.inr (.inr ?_))
    cases ca : isCol key a
    · cases cb : isCol key b
      · exact .inl ⟨rfl, rfl⟩
      · have lb : isLit b = false := by have := isCol_k cb; simp [isLit, this]
        refine .inr ⟨?_, lb⟩
        cases la : isLit a
        · rfl
        · exact (h2 ⟨cb, la⟩).elim
    · have la : isLit a = false := by have := isCol_k ca; simp [isLit, this]
      refine .inr ⟨la, ?_⟩
      cases lb : isLit b
      · rfl
      · exact (h1 ⟨ca, lb⟩).elim
  · refine narrow_none t key (lo, hi) nt a b c o ho hc ?_
    have h7 : c.k ≠ 7 := fun h => hk (.inr h)
    cases nt
    · exact .inl ⟨rfl, fun h => hk (.inl ⟨h, rfl⟩), h7⟩
    · exact .inr (.inl ⟨rfl, h7⟩)
theorem narrow_leaf {G : List (Nat × List Value)} (HR : RepCon G) (t : Bool) (key : ByteArray) (st : List UInt8 × List UInt8) (ops : List OP) (n : Nat) (o : OP) (hn : ops.length = n + 1) (hx : ops[n]? = some o) (h3 : o.k ≠ 3) (hl : n ≤ 1000) (hg : okL ops) :
    Con Go.Proofs.Tryz.prog G 20 [.p 0 0 0, .r (.string key), .ro t 5 (ops.map eO)] [(0, boxB st)] 1 (Is (.tup []) [(0, boxB (updM key st ops))] 1) No := by
  by_cases h5 : o.k = 5
  · by_cases h : n = 3
    · subst h
      match ops, hn, hx with
      | [a, b, c, d], _, hx =>
        obtain rfl : d = o := by simpa using hx
        exact narrow_three HR t key st true a b c d h5 (fun h => by cases h) (fun x hx => hg x (by simp at hx ⊢; rcases hx with rfl | rfl <;> simp))
    · exact narrow_short t key st ops n o hn hx h3 hl (by rw [if_pos h5]; exact h)
  · by_cases h : n = 2
    · subst h
      match ops, hn, hx with
      | [a, b, c], _, hx =>
        obtain rfl : c = o := by simpa using hx
        exact narrow_three HR t key st false a b c ⟨5, 0, 0, ⟨#[]⟩, ⟨#[]⟩⟩ rfl (fun _ => ⟨h5, h3⟩) (fun x hx => hg x (by simp at hx ⊢; rcases hx with rfl | rfl <;> simp))
    · exact narrow_short t key st ops n o hn hx h3 hl (by rw [if_neg h5]; exact h)
set_option maxRecDepth 100000 in
set_option maxHeartbeats 8000000 in
theorem narrow_con {G : List (Nat × List Value)} (HR : RepCon G) (t : Bool) (key : ByteArray) : ∀ (tr : RT OP) (st : List UInt8 × List UInt8), tr.wf arO → (∀ o ∈ tr.flat, 1 ≤ o.k ∧ o.k ≤ 11) → okL tr.flat → tr.flat.length ≤ 1000 →
    Con Go.Proofs.Tryz.prog G 20 [.p 0 0 0, .r (.string key), .ro t 5 (tr.flat.map eO)] [(0, boxB st)] 1 (Is (.tup []) [(0, boxB (boundT key st tr))] 1) No
  | .l o, st, hw, hk, hg, hn => by
    have k0 := hk o (by simp [RT.flat])
    have : boundT key st (.l o) = updM key st (RT.l o).flat := rfl
    rw [this]
    exact narrow_leaf HR t key st _ 0 o (by simp [RT.flat]) (by simp [RT.flat]) (by rcases (ar_ks k0.1 k0.2).1 hw with h | h <;> omega) (by omega) hg
  | .u o s, st, hw, hk, hg, hn => by
    have k0 := hk o (by simp [RT.flat])
    have : boundT key st (.u o s) = updM key st (RT.u o s).flat := rfl
    rw [this]
    exact narrow_leaf HR t key st _ s.flat.length o (by simp [RT.flat]) (by simp [RT.flat]) (by rcases (ar_ks k0.1 k0.2).2.1 hw.1 with h | h <;> omega) (by simp [RT.flat] at hn; omega) hg
  | .b o p q, st, hw, hk, hg, hn => by
    obtain ⟨hw1, hw2, hw3⟩ := hw
    obtain ⟨k1, k11⟩ := hk o (by simp [RT.flat])
    have hln0 : (RT.b o p q).flat.length = p.flat.length + q.flat.length + 1 := by simp [RT.flat]; omega
    by_cases h3 : o.k = 3
    · have hB : boundT key st (.b o p q) = boundT key (boundT key st p) q := by
        rw [boundT, partsT, if_pos h3, List.foldl_append]; rfl
      rw [hB]
      have ihp := narrow_con HR t key p st hw2 (fun x hx => hk x (by simp [RT.flat, hx])) (fun x hx => hg x (by simp [RT.flat, hx])) (by omega)
      have ihq := narrow_con HR t key q (boundT key st p) hw3 (fun x hx => hk x (by simp [RT.flat, hx])) (fun x hx => hg x (by simp [RT.flat, hx])) (by omega)
      obtain ⟨ops, hops⟩ : ∃ ops, ops = (RT.b o p q).flat := ⟨_, rfl⟩
      rw [← hops]
      obtain ⟨m, hme⟩ : ∃ m, m = p.flat.length := ⟨_, rfl⟩
      obtain ⟨n, hne⟩ : ∃ n, n = p.flat.length + q.flat.length := ⟨_, rfl⟩
      have hln : ops.length = n + 1 := by rw [hops, hne]; simp [RT.flat]; omega
      have hx : ops[n]? = some o := by rw [hops, hne, ← List.length_append]; simp only [RT.flat]; exact List.getElem?_concat_length
      have htk : ops.take n = p.flat ++ q.flat := by rw [hops, hne, ← List.length_append]; simp only [RT.flat]; exact List.take_left
      have htm : ops.take m = p.flat := by rw [hops, hme]; simp [RT.flat]
      have e1 : (ops.length : Int) - 1 = (n : Nat) := by omega
      have hle : n ≤ 1000 := by rw [← hops] at hn; omega
      have hmr : p.flat.map eO = (ops.map eO).take m := by rw [← List.map_take, htm]
      have hms : q.flat.map eO = ((ops.map eO).take n).drop m := by rw [← List.map_take, ← List.map_drop, htk, hme]; simp
      rw [hmr] at ihp
      rw [hms] at ihq
      have hbe : begM arO ops n = m := by rw [hops, hne, hme]; have := begM_tree (ar := arO) p.flat q [o] hw3; simpa [RT.flat] using this
      have bc := beginsP_con G t ops n (by rw [hops]; exact hn) (by omega) (by rw [hops]; exact hk) (by
        intro i k hi hc
        rcases Nat.eq_zero_or_pos i with rfl | h0
        · exfalso
          have hp := RT.flat_pos p
          unfold begM at hbe
          simp only [List.take_zero, List.reverse_nil, cnt, Nat.add_zero, Nat.sub_zero] at hc
          omega
        · exact h0)
      rw [hbe] at bc
      refine con_of_awp Go.Proofs.Tryz.func20 rfl (by kernel_rfl) (of_decide_eq_true (by kernel_rfl)) ?_; intro E hG hE; subst hG; simp only [ent]
      (repeat' (first | refine awp_seq ?_ | refine awp_block ?_ | refine awp_skip ?_ | refine awp_exit ?_ | ((first | refine rR (fun K kp hK hkp => ?_) | refine rD (id := 4) mixed 5 [0, 1, 2, 3, 4] (fun K kp hK hkp => ?_) | refine rD (id := 5) mixed 6 [0, 1, 2, 3, 4, 5] (fun K kp hK hkp => ?_) | refine cR bc ?_ | refine cD bc ?_ | refine iG ?_ | refine iD ?_); simp (implicitDefEqProofs := false) (maxSteps := 2000000) (disch := omega) only [go_sem, hx, eO, e1, h3]; (repeat' (first | (refine hK _ ?_; clear hK hkp kp K) | (with_reducible refine And.intro ?_ ?_) | omega))) | ((first | refine aG (fun h => ?_) (fun h => ?_) | refine aD (fun h => ?_) (fun h => ?_) | refine aX (fun h => ?_) (fun h => ?_)) <;> simp only [h]) | refine awp_cond_t rfl ?_ | refine awp_cond_f rfl ?_ | ((refine awp_cond rfl (fun h => ?_) (fun h => ?_) <;> try simp only [ifs] at h) <;> (try (exfalso; omega))) | refine awp_ret ?_))
      refine callR_own [0] ihp ?_ ?_ ?_ ?_ ?_ ?_ ?_ ?_ rfl rfl ?_
      · simp [pasL, pas, idx]
      · simp [okO, lk, boxB, renNd, renL, by_]
      · intro i hi
        obtain rfl : i = 0 := by simp at hi; omega
        exact ⟨_, rfl⟩
      · simp
      · simp
      · simp
      · simp
      · simp [boxB]
      simp only [mapO, fw, rmL, rm, List.map_cons, List.map_nil, List.foldl_cons, List.foldl_nil, List.getElem?_cons_zero, List.length_cons, List.length_nil, Nat.zero_add, Nat.sub_self, Nat.add_zero, if_true, if_neg (show ¬ 1 = 0 by decide), List.cons_append, List.nil_append, ren, renL, renNd, boxB, ren_nb]
      (simp (implicitDefEqProofs := false) (maxSteps := 2000000) (disch := omega) only [go_sem]; (repeat' (first | (refine hK _ ?_; clear hK hkp kp K) | (with_reducible refine And.intro ?_ ?_) | omega)))
      (repeat' (first | refine awp_seq ?_ | refine awp_block ?_ | refine awp_skip ?_ | refine awp_exit ?_ | ((first | refine rR (fun K kp hK hkp => ?_) | refine rD (id := 4) mixed 5 [0, 1, 2, 3, 4] (fun K kp hK hkp => ?_) | refine rD (id := 5) mixed 6 [0, 1, 2, 3, 4, 5] (fun K kp hK hkp => ?_) | refine cR bc ?_ | refine cD bc ?_ | refine iG ?_ | refine iD ?_); simp (implicitDefEqProofs := false) (maxSteps := 2000000) (disch := omega) only [go_sem, hx, eO, e1, h3]; (repeat' (first | (refine hK _ ?_; clear hK hkp kp K) | (with_reducible refine And.intro ?_ ?_) | omega))) | ((first | refine aG (fun h => ?_) (fun h => ?_) | refine aD (fun h => ?_) (fun h => ?_) | refine aX (fun h => ?_) (fun h => ?_)) <;> simp only [h]) | refine awp_cond_t rfl ?_ | refine awp_cond_f rfl ?_ | ((refine awp_cond rfl (fun h => ?_) (fun h => ?_) <;> try simp only [ifs] at h) <;> (try (exfalso; omega))) | refine awp_ret ?_))
      refine callR_own [0] ihq ?_ ?_ ?_ ?_ ?_ ?_ ?_ ?_ rfl rfl ?_
      · simp [pasL, pas, idx]
      · simp [okO, lk, boxB, renNd, renL, by_]
      · intro i hi
        obtain rfl : i = 0 := by simp at hi; omega
        exact ⟨_, rfl⟩
      · simp
      · simp
      · simp
      · simp
      · simp [boxB]
      simp only [mapO, fw, rmL, rm, List.map_cons, List.map_nil, List.foldl_cons, List.foldl_nil, List.getElem?_cons_zero, List.length_cons, List.length_nil, Nat.zero_add, Nat.sub_self, Nat.add_zero, if_true, if_neg (show ¬ 1 = 0 by decide), List.cons_append, List.nil_append, ren, renL, renNd, boxB, ren_nb]
      (simp (implicitDefEqProofs := false) (maxSteps := 2000000) (disch := omega) only [go_sem]; (repeat' (first | (refine hK _ ?_; clear hK hkp kp K) | (with_reducible refine And.intro ?_ ?_) | omega)))
      (repeat' (first | refine awp_seq ?_ | refine awp_block ?_ | refine awp_skip ?_ | refine awp_exit ?_ | ((first | refine rR (fun K kp hK hkp => ?_) | refine rD (id := 4) mixed 5 [0, 1, 2, 3, 4] (fun K kp hK hkp => ?_) | refine rD (id := 5) mixed 6 [0, 1, 2, 3, 4, 5] (fun K kp hK hkp => ?_) | refine cR bc ?_ | refine cD bc ?_ | refine iG ?_ | refine iD ?_); simp (implicitDefEqProofs := false) (maxSteps := 2000000) (disch := omega) only [go_sem, hx, eO, e1, h3]; (repeat' (first | (refine hK _ ?_; clear hK hkp kp K) | (with_reducible refine And.intro ?_ ?_) | omega))) | ((first | refine aG (fun h => ?_) (fun h => ?_) | refine aD (fun h => ?_) (fun h => ?_) | refine aX (fun h => ?_) (fun h => ?_)) <;> simp only [h]) | refine awp_cond_t rfl ?_ | refine awp_cond_f rfl ?_ | ((refine awp_cond rfl (fun h => ?_) (fun h => ?_) <;> try simp only [ifs] at h) <;> (try (exfalso; omega))) | refine awp_ret ?_))
      (refine retA_is (by (simp (implicitDefEqProofs := false) (maxSteps := 2000000) (disch := omega) only [go_sem, Go.Proofs.Tryz.results20, boxB]); rfl) ?_; refine (embV [0] ?_ ?_ ?_ ?_ ?_ ?_).s <;> simp [oneA, okO, lk, ren, renL, renNd, by_, hE, boxB])
    · have : boundT key st (.b o p q) = updM key st (RT.b o p q).flat := by rw [boundT, partsT, if_neg h3]; rfl
      rw [this]
      exact narrow_leaf HR t key st _ (p.flat.length + q.flat.length) o hln0 (by simp only [RT.flat]; rw [← List.length_append]; exact List.getElem?_concat_length) h3 (by omega) hg
end Go.AM
/- Statements: the reference's tokens out of texts. -/
namespace Go.AM
open Go Go.RowKit
open Go.Proofs.YtoecmmpjndcolaaGreatDoor (OP nameM litM exprM marksS wordsS StrsAt str SlAt letB wrdB digB bt)
attribute [local irreducible] AWP retA
theorem str_get (l : List UInt8) (i : Nat) : (str l)[i]? = l[i]? := by
  by_cases h : i < l.length
  · have h1 : i < (str l).size := h
    rw [getElem?_def, dif_pos h1, List.getElem?_eq_getElem h]; rfl
  · have h1 : ¬ i < (str l).size := h
    rw [getElem?_def, dif_neg h1, List.getElem?_eq_none (by omega)]
theorem str_size (l : List UInt8) : (str l).size = l.length := by simp [str, ByteArray.size]
theorem ba_ext {a b : ByteArray} (h : a.toList = b.toList) : a = b := by
  rw [Go.Proofs.YtoecmmpjndcolaaGreatDoor.eq_str a, Go.Proofs.YtoecmmpjndcolaaGreatDoor.eq_str b, h]
theorem str_app (a b : List UInt8) : str a ++ str b = str (a ++ b) := by
  apply ba_ext
  rw [Go.Proofs.YtoecmmpjndcolaaGreatDoor.mk_toList, ByteArray.toList_eq, ByteArray.data_append]
  simp [str]
theorem str_ext (l : List UInt8) (i j : Nat) : (str l).extract i j = str ((l.take j).drop i) := by
  apply ba_ext
  rw [Go.Proofs.YtoecmmpjndcolaaGreatDoor.mk_toList, ByteArray.toList_eq]
  simp [str, ByteArray.data_extract, List.drop_take]
def emit : List UInt8 → List TK0
  | [] => []
  | c :: r => [⟨if letB c.toNat = true then 1 else 4, str (c :: r), 0⟩]
def toksG : List UInt8 → List UInt8 → List TK0
  | cur, [] => emit cur
  | cur, c :: r => if c = 32 then emit cur ++ toksG [] r else toksG (cur ++ [c]) r
def toksM (l : List UInt8) : List TK0 := toksG [] l
theorem toksG_word : ∀ (w cur r : List UInt8), (∀ c ∈ w, c ≠ 32) → toksG cur (w ++ r) = toksG (cur ++ w) r
  | [], cur, r, _ => by simp
  | c :: w, cur, r, h => by
    rw [List.cons_append, toksG, if_neg (h c (by simp)), toksG_word w (cur ++ [c]) r (fun x hx => h x (by simp [hx]))]; simp
theorem toksG_blank (cur r : List UInt8) : toksG cur (32 :: r) = emit cur ++ toksG [] r := by rw [toksG, if_pos rfl]
theorem toksG_len : ∀ (l cur : List UInt8), (toksG cur l).length ≤ l.length + 1
  | [], cur => by cases cur <;> simp [toksG, emit]
  | c :: r, cur => by
    rw [toksG]
    split
    · have := toksG_len r []
      cases cur <;> simp [emit] <;> omega
    · have := toksG_len r (cur ++ [c]); simp; omega
theorem wordByte_con (G : List (Nat × List Value)) (c : UInt8) : Con Go.Proofs.Tryz.prog G 126 [.r (.int .u8 c.toNat)] [] 0 (Is (.r (.bool (letB c.toNat))) [] 0) No :=
  con_of_calls (by kernel_rfl) (fun w z vs hz hr hG => by
    obtain ⟨v, r, rfl, h1, h2⟩ := hr.head
    obtain rfl := h1.r_inv
    obtain rfl := h2.of_nil
    have := c.toNat_lt
    exact (Go.Proofs.YtoecmmpjndcolaaGreatDoor.wordByte_any c.toNat w (by omega) (by omega)).mono (fun e w' ⟨he, hw⟩ => by subst hw; exact ⟨he, Below.refl _ _⟩))
def toksI (l : List UInt8) (q : Nat × Nat × List TK0) : Prop := q.2.1 ≤ q.1 ∧ q.1 ≤ l.length + 1 ∧ q.2.2.length ≤ q.1 ∧ (q.1 ≤ l.length → q.2.2 ++ toksG ((l.take q.1).drop q.2.1) (l.drop q.1) = toksM l) ∧ (q.1 = l.length + 1 → q.2.2 = toksM l)
theorem toks_next {l : List UInt8} {i : Nat} {out : List TK0} {q : List TK0} (hi : i < l.length) (h3 : out.length ≤ i) (hq : q.length ≤ out.length + 1) (h : q ++ toksG [] (l.drop (i + 1)) = toksM l) : toksI l (i + 1, i + 1, q) :=
  ⟨Nat.le_refl _, by simp only; omega, by simp only; omega, fun _ => by simp only; rw [List.drop_of_length_le (by simp; omega)]; exact h, fun e => by simp only at e; omega⟩
theorem cur_cons {l : List UInt8} {fr i : Nat} {c : UInt8} (hf : fr < i) (h : l[fr]? = some c) : ∃ tl, (l.take i).drop fr = c :: tl := by
  have : (l.take i)[fr]? = some c := by rw [List.getElem?_take_of_lt hf]; exact h
  exact ⟨_, drop_at this⟩
set_option maxRecDepth 100000 in
set_option maxHeartbeats 8000000 in
theorem toks_con (G : List (Nat × List Value)) (l : List UInt8) (hl : l.length ≤ 1000000) : Con Go.Proofs.Tryz.prog G 104 [.r (.string (str l))] [] 0 (Is (.s 0 0 (toksM l).length) [(0, .lst 110 3 ((toksM l).map eT))] 1) No := by
  refine con_of_awp Go.Proofs.Tryz.func104 rfl (by kernel_rfl) (of_decide_eq_true (by kernel_rfl)) ?_; intro E hG hE; subst hG; simp only [ent]
  (repeat' (first | refine awp_seq ?_ | refine awp_block ?_ | refine awp_skip ?_ | refine awp_exit ?_ | ((first | refine rR (fun K kp hK hkp => ?_) | refine iG ?_); simp (implicitDefEqProofs := false) (maxSteps := 2000000) (disch := omega) only [go_sem]; (repeat' (first | (refine hK _ ?_; clear hK hkp kp K) | (with_reducible refine And.intro ?_ ?_) | omega))) | ((first | refine aG (fun h => ?_) (fun h => ?_) | refine aD (fun h => ?_) (fun h => ?_) | refine aX (fun h => ?_) (fun h => ?_)) <;> simp only [h]) | refine awp_cond_t rfl ?_ | refine awp_cond_f rfl ?_ | ((refine awp_cond rfl (fun h => ?_) (fun h => ?_) <;> try simp only [ifs] at h) <;> (try (exfalso; omega))) | refine awp_ret ?_))
  (refine AWP.emb (emb_nil 3 110 3 ?_) ?_; (· rfl); dsimp only)
  refine awp_loop (fun q : Nat × Nat × List TK0 => ⟨[(5, .r (.int .i64 q.1)), (4, .r (.int .i64 q.2.1)), (0, .r (.string (str l))), (3, .s 0 0 q.2.2.length)], [(0, .lst 110 3 (q.2.2.map eT))], 1⟩) (toksI l) (fun q => l.length + 1 - q.1) (0, 0, []) ?_ ?_ ?_
  · refine ⟨by simp, by simp, by simp, fun _ => by simp [toksM], fun h => by simp at h⟩
  · (refine emb [0] ?_ ?_ rfl ?_ ?_ ?_ ?_ <;> simp [okM, okO, lk, ren, renL, renNd, by_, hE] <;> (try omega))
  rintro ⟨i, fr, out⟩ ⟨h1, h2, h3, h4, h5⟩
  simp only at h1 h2 h3 h4 h5 ⊢
  by_cases hi : i ≤ l.length
  · have hno := h4 hi
    have d0 : decide ((i : Int) ≤ (l.length : Int)) = true := decide_eq_true (by omega)
    by_cases hlt : i < l.length
    · have d1 : decide ((i : Int) < (l.length : Int)) = true := decide_eq_true (by omega)
      obtain ⟨c, hc⟩ : ∃ c, l[i]? = some c := ⟨l[i], by simp [hlt]⟩
      have hd := drop_at hc
      rw [hd] at hno
      by_cases h32 : c = 32
      · have d2 : ((c.toNat : Int) != 32) = false := by subst h32; rfl
        rw [toksG, if_pos h32] at hno
        by_cases hf : fr < i
        · have d3 : decide ((i : Int) > (fr : Int)) = true := decide_eq_true (by omega)
          obtain ⟨c0, hc0⟩ : ∃ c, l[fr]? = some c := ⟨l[fr]'(by omega), by simp⟩
          obtain ⟨tl, hcur⟩ := cur_cons hf hc0
          have hx := str_ext l fr i
          have hw := wordByte_con E.G c0
          cases hlet : letB c0.toNat
          · rw [hlet] at hw
            have hem : emit ((l.take i).drop fr) = [⟨4, str ((l.take i).drop fr), 0⟩] := by rw [hcur, emit, hlet]; rfl
            (repeat' (first | refine awp_seq ?_ | refine awp_block ?_ | refine awp_skip ?_ | refine awp_exit ?_ | ((first | refine rR (fun K kp hK hkp => ?_) | refine cR hw ?_ | refine iG ?_); simp (implicitDefEqProofs := false) (maxSteps := 2000000) (disch := omega) only [go_sem, str_get, str_size, hc, hc0, d0, d1, d2, d3, hx]; (repeat' (first | (refine hK _ ?_; clear hK hkp kp K) | (with_reducible refine And.intro ?_ ?_) | omega))) | ((first | refine aG (fun h => ?_) (fun h => ?_) | refine aD (fun h => ?_) (fun h => ?_) | refine aX (fun h => ?_) (fun h => ?_)) <;> simp only [h]) | refine awp_cond_t rfl ?_ | refine awp_cond_f rfl ?_ | ((refine awp_cond rfl (fun h => ?_) (fun h => ?_) <;> try simp only [ifs] at h) <;> (try (exfalso; omega))) | refine awp_ret ?_))
            ((first | (refine nextB ((i + 1, i + 1, out ++ [⟨4, str ((l.take i).drop fr), 0⟩])) ?_ ?_ ?_) | (refine nextA ((i + 1, i + 1, out ++ [⟨4, str ((l.take i).drop fr), 0⟩])) ?_ ?_ ?_)); rotate_left; (· (try dsimp only); (first | omega | (simp only [List.length_drop, List.length_cons, List.length_append]; omega) | (simp; done) | (simp; omega))); (· (refine emb [2] ?_ ?_ rfl ?_ ?_ ?_ ?_ <;> simp [okM, okO, lk, ren, renL, renNd, by_, hE, eT] <;> (try omega))))
            exact toks_next hlt h3 (by simp) (by rw [← hno, hem]; simp)
          · rw [hlet] at hw
            have hem : emit ((l.take i).drop fr) = [⟨1, str ((l.take i).drop fr), 0⟩] := by rw [hcur, emit, hlet]; rfl
            (repeat' (first | refine awp_seq ?_ | refine awp_block ?_ | refine awp_skip ?_ | refine awp_exit ?_ | ((first | refine rR (fun K kp hK hkp => ?_) | refine cR hw ?_ | refine iG ?_); simp (implicitDefEqProofs := false) (maxSteps := 2000000) (disch := omega) only [go_sem, str_get, str_size, hc, hc0, d0, d1, d2, d3, hx]; (repeat' (first | (refine hK _ ?_; clear hK hkp kp K) | (with_reducible refine And.intro ?_ ?_) | omega))) | ((first | refine aG (fun h => ?_) (fun h => ?_) | refine aD (fun h => ?_) (fun h => ?_) | refine aX (fun h => ?_) (fun h => ?_)) <;> simp only [h]) | refine awp_cond_t rfl ?_ | refine awp_cond_f rfl ?_ | ((refine awp_cond rfl (fun h => ?_) (fun h => ?_) <;> try simp only [ifs] at h) <;> (try (exfalso; omega))) | refine awp_ret ?_))
            ((first | (refine nextB ((i + 1, i + 1, out ++ [⟨1, str ((l.take i).drop fr), 0⟩])) ?_ ?_ ?_) | (refine nextA ((i + 1, i + 1, out ++ [⟨1, str ((l.take i).drop fr), 0⟩])) ?_ ?_ ?_)); rotate_left; (· (try dsimp only); (first | omega | (simp only [List.length_drop, List.length_cons, List.length_append]; omega) | (simp; done) | (simp; omega))); (· (refine emb [2] ?_ ?_ rfl ?_ ?_ ?_ ?_ <;> simp [okM, okO, lk, ren, renL, renNd, by_, hE, eT] <;> (try omega))))
            exact toks_next hlt h3 (by simp) (by rw [← hno, hem]; simp)
        · obtain rfl : fr = i := by omega
          have d3 : decide ((fr : Int) > (fr : Int)) = false := decide_eq_false (by omega)
          have hem : emit ((l.take fr).drop fr) = [] := by rw [List.drop_of_length_le (by simp; omega)]; rfl
          rw [hem] at hno
          (repeat' (first | refine awp_seq ?_ | refine awp_block ?_ | refine awp_skip ?_ | refine awp_exit ?_ | ((first | refine rR (fun K kp hK hkp => ?_) | refine iG ?_); simp (implicitDefEqProofs := false) (maxSteps := 2000000) (disch := omega) only [go_sem, str_get, str_size, hc, d0, d1, d2, d3]; (repeat' (first | (refine hK _ ?_; clear hK hkp kp K) | (with_reducible refine And.intro ?_ ?_) | omega))) | ((first | refine aG (fun h => ?_) (fun h => ?_) | refine aD (fun h => ?_) (fun h => ?_) | refine aX (fun h => ?_) (fun h => ?_)) <;> simp only [h]) | refine awp_cond_t rfl ?_ | refine awp_cond_f rfl ?_ | ((refine awp_cond rfl (fun h => ?_) (fun h => ?_) <;> try simp only [ifs] at h) <;> (try (exfalso; omega))) | refine awp_ret ?_))
          ((first | (refine nextB ((fr + 1, fr + 1, out)) ?_ ?_ ?_) | (refine nextA ((fr + 1, fr + 1, out)) ?_ ?_ ?_)); rotate_left; (· (try dsimp only); (first | omega | (simp only [List.length_drop, List.length_cons, List.length_append]; omega) | (simp; done) | (simp; omega))); (· (refine emb [0] ?_ ?_ rfl ?_ ?_ ?_ ?_ <;> simp [okM, okO, lk, ren, renL, renNd, by_, hE] <;> (try omega))))
          exact toks_next hlt h3 (by omega) (by rw [← hno]; simp)
      · have d2 : ((c.toNat : Int) != 32) = true := by
          simp only [bne_iff_ne, ne_eq]; intro e; have e : c.toNat = 32 := by omega
          exact h32 (UInt8.toNat_inj.1 e)
        (repeat' (first | refine awp_seq ?_ | refine awp_block ?_ | refine awp_skip ?_ | refine awp_exit ?_ | ((first | refine rR (fun K kp hK hkp => ?_) | refine iG ?_); simp (implicitDefEqProofs := false) (maxSteps := 2000000) (disch := omega) only [go_sem, str_get, str_size, hc, d0, d1, d2]; (repeat' (first | (refine hK _ ?_; clear hK hkp kp K) | (with_reducible refine And.intro ?_ ?_) | omega))) | ((first | refine aG (fun h => ?_) (fun h => ?_) | refine aD (fun h => ?_) (fun h => ?_) | refine aX (fun h => ?_) (fun h => ?_)) <;> simp only [h]) | refine awp_cond_t rfl ?_ | refine awp_cond_f rfl ?_ | ((refine awp_cond rfl (fun h => ?_) (fun h => ?_) <;> try simp only [ifs] at h) <;> (try (exfalso; omega))) | refine awp_ret ?_))
        ((first | (refine nextB ((i + 1, fr, out)) ?_ ?_ ?_) | (refine nextA ((i + 1, fr, out)) ?_ ?_ ?_)); rotate_left; (· (try dsimp only); (first | omega | (simp only [List.length_drop, List.length_cons, List.length_append]; omega) | (simp; done) | (simp; omega))); (· (refine emb [0] ?_ ?_ rfl ?_ ?_ ?_ ?_ <;> simp [okM, okO, lk, ren, renL, renNd, by_, hE] <;> (try omega))))
        refine ⟨by simp; omega, by simp; omega, by simp; omega, fun _ => ?_, fun h => ?_⟩
        · simp only
          rw [← hno, toksG, if_neg h32, List.take_add_one, hc, Option.toList, List.drop_append_of_le_length (by simp; omega)]
        · simp only at h; omega
    · obtain rfl : i = l.length := by omega
      have d1 : decide ((l.length : Int) < (l.length : Int)) = false := decide_eq_false (by omega)
      rw [List.drop_length, toksG] at hno
      by_cases hf : fr < l.length
      · have d3 : decide ((l.length : Int) > (fr : Int)) = true := decide_eq_true (by omega)
        obtain ⟨c0, hc0⟩ : ∃ c, l[fr]? = some c := ⟨l[fr]'(by omega), by simp⟩
        obtain ⟨tl, hcur⟩ := cur_cons hf hc0
        have hx := str_ext l fr l.length
        have hw := wordByte_con E.G c0
        cases hlet : letB c0.toNat
        · rw [hlet] at hw
          have hem : emit ((l.take l.length).drop fr) = [⟨4, str ((l.take l.length).drop fr), 0⟩] := by rw [hcur, emit, hlet]; rfl
          (repeat' (first | refine awp_seq ?_ | refine awp_block ?_ | refine awp_skip ?_ | refine awp_exit ?_ | ((first | refine rR (fun K kp hK hkp => ?_) | refine cR hw ?_ | refine iG ?_); simp (implicitDefEqProofs := false) (maxSteps := 2000000) (disch := omega) only [go_sem, str_get, str_size, hc0, d0, d1, d3, hx]; (repeat' (first | (refine hK _ ?_; clear hK hkp kp K) | (with_reducible refine And.intro ?_ ?_) | omega))) | ((first | refine aG (fun h => ?_) (fun h => ?_) | refine aD (fun h => ?_) (fun h => ?_) | refine aX (fun h => ?_) (fun h => ?_)) <;> simp only [h]) | refine awp_cond_t rfl ?_ | refine awp_cond_f rfl ?_ | ((refine awp_cond rfl (fun h => ?_) (fun h => ?_) <;> try simp only [ifs] at h) <;> (try (exfalso; omega))) | refine awp_ret ?_))
          ((first | (refine nextB ((l.length + 1, l.length + 1, out ++ [⟨4, str ((l.take l.length).drop fr), 0⟩])) ?_ ?_ ?_) | (refine nextA ((l.length + 1, l.length + 1, out ++ [⟨4, str ((l.take l.length).drop fr), 0⟩])) ?_ ?_ ?_)); rotate_left; (· (try dsimp only); (first | omega | (simp only [List.length_drop, List.length_cons, List.length_append]; omega) | (simp; done) | (simp; omega))); (· (refine emb [2] ?_ ?_ rfl ?_ ?_ ?_ ?_ <;> simp [okM, okO, lk, ren, renL, renNd, by_, hE, eT] <;> (try omega))))
          refine ⟨by simp, by simp, by simp; omega, fun h => by simp at h; omega, fun _ => by rw [← hno, hem]⟩
        · rw [hlet] at hw
          have hem : emit ((l.take l.length).drop fr) = [⟨1, str ((l.take l.length).drop fr), 0⟩] := by rw [hcur, emit, hlet]; rfl
          (repeat' (first | refine awp_seq ?_ | refine awp_block ?_ | refine awp_skip ?_ | refine awp_exit ?_ | ((first | refine rR (fun K kp hK hkp => ?_) | refine cR hw ?_ | refine iG ?_); simp (implicitDefEqProofs := false) (maxSteps := 2000000) (disch := omega) only [go_sem, str_get, str_size, hc0, d0, d1, d3, hx]; (repeat' (first | (refine hK _ ?_; clear hK hkp kp K) | (with_reducible refine And.intro ?_ ?_) | omega))) | ((first | refine aG (fun h => ?_) (fun h => ?_) | refine aD (fun h => ?_) (fun h => ?_) | refine aX (fun h => ?_) (fun h => ?_)) <;> simp only [h]) | refine awp_cond_t rfl ?_ | refine awp_cond_f rfl ?_ | ((refine awp_cond rfl (fun h => ?_) (fun h => ?_) <;> try simp only [ifs] at h) <;> (try (exfalso; omega))) | refine awp_ret ?_))
          ((first | (refine nextB ((l.length + 1, l.length + 1, out ++ [⟨1, str ((l.take l.length).drop fr), 0⟩])) ?_ ?_ ?_) | (refine nextA ((l.length + 1, l.length + 1, out ++ [⟨1, str ((l.take l.length).drop fr), 0⟩])) ?_ ?_ ?_)); rotate_left; (· (try dsimp only); (first | omega | (simp only [List.length_drop, List.length_cons, List.length_append]; omega) | (simp; done) | (simp; omega))); (· (refine emb [2] ?_ ?_ rfl ?_ ?_ ?_ ?_ <;> simp [okM, okO, lk, ren, renL, renNd, by_, hE, eT] <;> (try omega))))
          refine ⟨by simp, by simp, by simp; omega, fun h => by simp at h; omega, fun _ => by rw [← hno, hem]⟩
      · obtain rfl : fr = l.length := by omega
        have d3 : decide ((l.length : Int) > (l.length : Int)) = false := decide_eq_false (by omega)
        have hem : emit ((l.take l.length).drop l.length) = [] := by rw [List.drop_of_length_le (by simp)]; rfl
        rw [hem] at hno
        (repeat' (first | refine awp_seq ?_ | refine awp_block ?_ | refine awp_skip ?_ | refine awp_exit ?_ | ((first | refine rR (fun K kp hK hkp => ?_) | refine iG ?_); simp (implicitDefEqProofs := false) (maxSteps := 2000000) (disch := omega) only [go_sem, str_get, str_size, d0, d1, d3]; (repeat' (first | (refine hK _ ?_; clear hK hkp kp K) | (with_reducible refine And.intro ?_ ?_) | omega))) | ((first | refine aG (fun h => ?_) (fun h => ?_) | refine aD (fun h => ?_) (fun h => ?_) | refine aX (fun h => ?_) (fun h => ?_)) <;> simp only [h]) | refine awp_cond_t rfl ?_ | refine awp_cond_f rfl ?_ | ((refine awp_cond rfl (fun h => ?_) (fun h => ?_) <;> try simp only [ifs] at h) <;> (try (exfalso; omega))) | refine awp_ret ?_))
        ((first | (refine nextB ((l.length + 1, l.length + 1, out)) ?_ ?_ ?_) | (refine nextA ((l.length + 1, l.length + 1, out)) ?_ ?_ ?_)); rotate_left; (· (try dsimp only); (first | omega | (simp only [List.length_drop, List.length_cons, List.length_append]; omega) | (simp; done) | (simp; omega))); (· (refine emb [0] ?_ ?_ rfl ?_ ?_ ?_ ?_ <;> simp [okM, okO, lk, ren, renL, renNd, by_, hE] <;> (try omega))))
        refine ⟨by simp, by simp, by simp; omega, fun h => by simp at h; omega, fun _ => by rw [← hno]; simp⟩
  · obtain rfl : i = l.length + 1 := by omega
    have d0 : decide ((l.length : Int) + 1 ≤ (l.length : Int)) = false := decide_eq_false (by omega)
    obtain rfl := h5 rfl
    (repeat' (first | refine awp_seq ?_ | refine awp_block ?_ | refine awp_skip ?_ | refine awp_exit ?_ | ((first | refine rR (fun K kp hK hkp => ?_) | refine iG ?_); simp (implicitDefEqProofs := false) (maxSteps := 2000000) (disch := omega) only [go_sem, str_size, d0]; (repeat' (first | (refine hK _ ?_; clear hK hkp kp K) | (with_reducible refine And.intro ?_ ?_) | omega))) | ((first | refine aG (fun h => ?_) (fun h => ?_) | refine aD (fun h => ?_) (fun h => ?_) | refine aX (fun h => ?_) (fun h => ?_)) <;> simp only [h]) | refine awp_cond_t rfl ?_ | refine awp_cond_f rfl ?_ | ((refine awp_cond rfl (fun h => ?_) (fun h => ?_) <;> try simp only [ifs] at h) <;> (try (exfalso; omega))) | refine awp_ret ?_))
    (refine retA_is (by (simp (implicitDefEqProofs := false) (maxSteps := 2000000) (disch := omega) only [go_sem, Go.Proofs.Tryz.results104]); rfl) ?_; refine (embV [0] ?_ ?_ ?_ ?_ ?_ ?_).s <;> simp [oneA, okO, lk, ren, renL, renNd, by_, hE])
end Go.AM
/- Statements: a new table as tokens. -/
namespace Go.AM
open Go Go.RowKit
open Go.Proofs.YtoecmmpjndcolaaGreatDoor (OP nameM litM exprM marksS wordsS StrsAt str SlAt)
attribute [local irreducible] AWP retA
def typeS (k : Int) : ByteArray := if k = 1 then str [66, 79, 79, 76] else if k = 2 then str [73, 78, 84] else str [84, 69, 88, 84]
def colT (c : CO) : List TK0 := [wordT c.nm, wordT (typeS c.k)]
def createT (s : ST) : List TK0 := [wordT (str [67, 82, 69, 65, 84, 69]), wordT (str [84, 65, 66, 76, 69]), wordT s.tab] ++ listM (s.cols.map colT)
def goodC (c : CO) : Prop := 1 ≤ c.k ∧ c.k ≤ 3
set_option maxRecDepth 100000 in
set_option maxHeartbeats 8000000 in
theorem show1_con {G : List (Nat × List Value)} (T : Tabs G) (s : ST) (hk : s.k = 1) (hl : s.cols.length ≤ 6) (hc : ∀ c ∈ s.cols, goodC c) : Con Go.Proofs.Tryz.prog G 73 [.agg (eST s)] [] 0 (Is (.ro true 3 ((createT s).map eT)) [] 0) No := by
  refine con_of_awp Go.Proofs.Tryz.func73 rfl (by kernel_rfl) (of_decide_eq_true (by kernel_rfl)) ?_; intro E hG hE; subst hG; simp only [ent]
  have Tt := T.types
  (repeat' (first | refine awp_seq ?_ | refine awp_block ?_ | refine awp_skip ?_ | refine awp_exit ?_ | ((first | refine rR (fun K kp hK hkp => ?_) | refine rD (id := 7) mixed 10 [0,1,2,3,4,5,6,7,8,9] (fun K kp hK hkp => ?_) | refine rD (id := 25) mixed 7 [0,1,4,5,2,3,6] (fun K kp hK hkp => ?_) | refine iG ?_ | refine iD ?_); simp (implicitDefEqProofs := false) (maxSteps := 2000000) (disch := omega) only [go_sem, eST, hk]; (repeat' (first | (refine hK _ ?_; clear hK hkp kp K) | (with_reducible refine And.intro ?_ ?_) | omega))) | ((first | refine aG (fun h => ?_) (fun h => ?_) | refine aD (fun h => ?_) (fun h => ?_) | refine aX (fun h => ?_) (fun h => ?_)) <;> simp only [h]) | refine awp_cond_t rfl ?_ | refine awp_cond_f rfl ?_ | ((refine awp_cond rfl (fun h => ?_) (fun h => ?_) <;> try simp only [ifs] at h) <;> (try (exfalso; omega))) | refine awp_ret ?_))
  (refine AWP.emb (emb_nil 3 91 1 ?_) ?_; (· rfl); dsimp only)
  refine awp_loop (fun k : Nat => ⟨[(16, .r (.int .i64 k)), (15, .r (.int .i64 s.cols.length)), (14, .ro true 2 (s.cols.map eC)), (3, .s 1 0 ((s.cols.take k).map colT).length), (1, .p 0 0 0)],
    [(0, .box 71 (eST s)), (1, .lst 91 1 (((s.cols.take k).map colT).map eTs))], 2⟩) (fun k => k ≤ s.cols.length) (fun k => s.cols.length - k) 0 ?_ ?_ ?_
  · simp
  · (refine emb [0, 1] ?_ ?_ rfl ?_ ?_ ?_ ?_ <;> simp [okM, okO, lk, ren, renL, renNd, by_, hE, eST, hk] <;> (try omega))
  intro k hk
  by_cases hk' : k < s.cols.length
  · obtain ⟨c, hx⟩ : ∃ x, s.cols[k]? = some x := ⟨s.cols[k], by simp [hk']⟩
    have hs : (s.cols.take (k + 1)).map colT = (s.cols.take k).map colT ++ [colT c] := by rw [List.take_add_one, hx]; simp
    have hle : ((s.cols.take k).map colT).length ≤ 6 := by simp; omega
    generalize hq : (s.cols.take k).map colT = q at hs hle ⊢
    obtain ⟨g1, g3⟩ := hc c (List.mem_of_getElem? hx)
    have ac := allO_con E.G false [c.nm, typeS c.k] (by simp)
    simp only [List.map_cons, List.map_nil, List.length_cons, List.length_nil, eStr, eT, wordT] at ac
    obtain hy | hy | hy : c.k = 1 ∨ c.k = 2 ∨ c.k = 3 := by omega
    · have hty : typeS c.k = str [66, 79, 79, 76] := by simp [typeS, hy]
      rw [hty] at ac
      (repeat' (first | refine awp_seq ?_ | refine awp_block ?_ | refine awp_skip ?_ | refine awp_exit ?_ | ((first | refine rR (fun K kp hK hkp => ?_) | refine rD (id := 7) mixed 10 [0,1,2,3,4,5,6,7,8,9] (fun K kp hK hkp => ?_) | refine rD (id := 25) mixed 7 [0,1,4,5,2,3,6] (fun K kp hK hkp => ?_) | refine cR ac ?_ | refine cD ac ?_ | refine iG ?_ | refine iD ?_); simp (implicitDefEqProofs := false) (maxSteps := 2000000) (disch := omega) only [go_sem, hx, eC, hy, Tt, typesV]; (repeat' (first | (refine hK _ ?_; clear hK hkp kp K) | (with_reducible refine And.intro ?_ ?_) | omega))) | ((first | refine aG (fun h => ?_) (fun h => ?_) | refine aD (fun h => ?_) (fun h => ?_) | refine aX (fun h => ?_) (fun h => ?_)) <;> simp only [h]) | refine awp_cond_t rfl ?_ | refine awp_cond_f rfl ?_ | ((refine awp_cond rfl (fun h => ?_) (fun h => ?_) <;> try simp only [ifs] at h) <;> (try (exfalso; omega))) | refine awp_ret ?_))
      ((first | (refine nextB (k + 1) ?_ ?_ ?_) | (refine nextA (k + 1) ?_ ?_ ?_)); rotate_left; (· (try dsimp only); (first | omega | (simp only [List.length_drop, List.length_cons, List.length_append]; omega) | (simp; done) | (simp; omega))); (· (refine emb [0, 6] ?_ ?_ rfl ?_ ?_ ?_ ?_ <;> simp [okM, okO, lk, ren, renL, renNd, by_, hE, hs, eTs, colT, hty, eT, wordT, eST] <;> (try omega))))
      omega
    · have hty : typeS c.k = str [73, 78, 84] := by simp [typeS, hy]
      rw [hty] at ac
      (repeat' (first | refine awp_seq ?_ | refine awp_block ?_ | refine awp_skip ?_ | refine awp_exit ?_ | ((first | refine rR (fun K kp hK hkp => ?_) | refine rD (id := 7) mixed 10 [0,1,2,3,4,5,6,7,8,9] (fun K kp hK hkp => ?_) | refine rD (id := 25) mixed 7 [0,1,4,5,2,3,6] (fun K kp hK hkp => ?_) | refine cR ac ?_ | refine cD ac ?_ | refine iG ?_ | refine iD ?_); simp (implicitDefEqProofs := false) (maxSteps := 2000000) (disch := omega) only [go_sem, hx, eC, hy, Tt, typesV]; (repeat' (first | (refine hK _ ?_; clear hK hkp kp K) | (with_reducible refine And.intro ?_ ?_) | omega))) | ((first | refine aG (fun h => ?_) (fun h => ?_) | refine aD (fun h => ?_) (fun h => ?_) | refine aX (fun h => ?_) (fun h => ?_)) <;> simp only [h]) | refine awp_cond_t rfl ?_ | refine awp_cond_f rfl ?_ | ((refine awp_cond rfl (fun h => ?_) (fun h => ?_) <;> try simp only [ifs] at h) <;> (try (exfalso; omega))) | refine awp_ret ?_))
      ((first | (refine nextB (k + 1) ?_ ?_ ?_) | (refine nextA (k + 1) ?_ ?_ ?_)); rotate_left; (· (try dsimp only); (first | omega | (simp only [List.length_drop, List.length_cons, List.length_append]; omega) | (simp; done) | (simp; omega))); (· (refine emb [0, 6] ?_ ?_ rfl ?_ ?_ ?_ ?_ <;> simp [okM, okO, lk, ren, renL, renNd, by_, hE, hs, eTs, colT, hty, eT, wordT, eST] <;> (try omega))))
      omega
    · have hty : typeS c.k = str [84, 69, 88, 84] := by simp [typeS, hy]
      rw [hty] at ac
      (repeat' (first | refine awp_seq ?_ | refine awp_block ?_ | refine awp_skip ?_ | refine awp_exit ?_ | ((first | refine rR (fun K kp hK hkp => ?_) | refine rD (id := 7) mixed 10 [0,1,2,3,4,5,6,7,8,9] (fun K kp hK hkp => ?_) | refine rD (id := 25) mixed 7 [0,1,4,5,2,3,6] (fun K kp hK hkp => ?_) | refine cR ac ?_ | refine cD ac ?_ | refine iG ?_ | refine iD ?_); simp (implicitDefEqProofs := false) (maxSteps := 2000000) (disch := omega) only [go_sem, hx, eC, hy, Tt, typesV]; (repeat' (first | (refine hK _ ?_; clear hK hkp kp K) | (with_reducible refine And.intro ?_ ?_) | omega))) | ((first | refine aG (fun h => ?_) (fun h => ?_) | refine aD (fun h => ?_) (fun h => ?_) | refine aX (fun h => ?_) (fun h => ?_)) <;> simp only [h]) | refine awp_cond_t rfl ?_ | refine awp_cond_f rfl ?_ | ((refine awp_cond rfl (fun h => ?_) (fun h => ?_) <;> try simp only [ifs] at h) <;> (try (exfalso; omega))) | refine awp_ret ?_))
      ((first | (refine nextB (k + 1) ?_ ?_ ?_) | (refine nextA (k + 1) ?_ ?_ ?_)); rotate_left; (· (try dsimp only); (first | omega | (simp only [List.length_drop, List.length_cons, List.length_append]; omega) | (simp; done) | (simp; omega))); (· (refine emb [0, 6] ?_ ?_ rfl ?_ ?_ ?_ ?_ <;> simp [okM, okO, lk, ren, renL, renNd, by_, hE, hs, eTs, colT, hty, eT, wordT, eST] <;> (try omega))))
      omega
  · obtain rfl : k = s.cols.length := by omega
    rw [List.take_of_length_le (Nat.le_refl _)]
    have lc := list_con E.G false (s.cols.map colT) (by simp; omega) (by intro x hx; obtain ⟨c, _, rfl⟩ := List.mem_map.1 hx; simp [colT])
    have ac := allO_con E.G false [str [67, 82, 69, 65, 84, 69], str [84, 65, 66, 76, 69], s.tab] (by simp)
    simp only [List.map_cons, List.map_nil, List.length_cons, List.length_nil, eStr, eT, wordT, str] at ac
    have hlM : (listM (s.cols.map colT)).length ≤ 8000 := by
      have := commas_len (s.cols.map colT) (by intro x hx; obtain ⟨c, _, rfl⟩ := List.mem_map.1 hx; simp [colT])
      simp [listM] at this ⊢; omega
    (repeat' (first | refine awp_seq ?_ | refine awp_block ?_ | refine awp_skip ?_ | refine awp_exit ?_ | ((first | refine rR (fun K kp hK hkp => ?_) | refine rD (id := 7) mixed 10 [0,1,2,3,4,5,6,7,8,9] (fun K kp hK hkp => ?_) | refine rD (id := 25) mixed 7 [0,1,4,5,2,3,6] (fun K kp hK hkp => ?_) | refine cR ac ?_ | refine cD ac ?_ | refine cR lc ?_ | refine cD lc ?_ | refine iG ?_ | refine iD ?_); simp (implicitDefEqProofs := false) (maxSteps := 2000000) (disch := omega) only [go_sem, eST]; (repeat' (first | (refine hK _ ?_; clear hK hkp kp K) | (with_reducible refine And.intro ?_ ?_) | omega))) | ((first | refine aG (fun h => ?_) (fun h => ?_) | refine aD (fun h => ?_) (fun h => ?_) | refine aX (fun h => ?_) (fun h => ?_)) <;> simp only [h]) | refine awp_cond_t rfl ?_ | refine awp_cond_f rfl ?_ | ((refine awp_cond rfl (fun h => ?_) (fun h => ?_) <;> try simp only [ifs] at h) <;> (try (exfalso; omega))) | refine awp_ret ?_))
    (refine retA_is (by (simp (implicitDefEqProofs := false) (maxSteps := 2000000) (disch := omega) only [go_sem, Go.Proofs.Tryz.results73, createT, eT, wordT, str]); rfl) ?_; refine embS_frz (by simp only [oneA]; simp (implicitDefEqProofs := false) (maxSteps := 2000000) (disch := omega) only [go_sem, createT, eT, wordT, str]; rfl) ?_; refine (embV_nil hE (by simp) ?_).s; simp [oneA, ren, renL, createT, eT, wordT, str])
    exact List.take_of_length_le (by simp; omega)
end Go.AM
/- Statements: the reference's tokens of a new table. -/
namespace Go.AM
open Go Go.RowKit
open Go.Proofs.YtoecmmpjndcolaaGreatDoor (OP nameM litM exprM marksS wordsS StrsAt str SlAt letB wrdB digB bt)
attribute [local irreducible] AWP retA
/-- What a name is made of. -/
structure goodN (s : ByteArray) : Prop where
  len : s.toList.length ≤ 8
  first : ∃ c r, s.toList = c :: r ∧ letB c.toNat = true
  none : ∀ c ∈ s.toList, c ≠ 32
theorem emit_good {s : ByteArray} (h : goodN s) : emit s.toList = [wordT s] := by
  obtain ⟨c, r, e, hl⟩ := h.first
  rw [e, emit, if_pos hl, ← e, ← Go.Proofs.YtoecmmpjndcolaaGreatDoor.eq_str]; rfl
def bCT : List UInt8 := [67, 82, 69, 65, 84, 69, 32, 84, 65, 66, 76, 69, 32]
theorem toks_head {s : ByteArray} (h : goodN s) : toksM (bCT ++ s.toList ++ [32, 40]) = [wordT (str [67, 82, 69, 65, 84, 69]), wordT (str [84, 65, 66, 76, 69]), wordT s] ++ listO [] := by
  have e1 : toksM (bCT ++ s.toList ++ [32, 40]) = [wordT (str [67, 82, 69, 65, 84, 69]), wordT (str [84, 65, 66, 76, 69])] ++ toksG [] (s.toList ++ [32, 40]) := rfl
  rw [e1, toksG_word _ _ _ h.none, List.nil_append, toksG_blank, emit_good h]
  rfl
def tyB (k : Int) : List UInt8 := if k = 1 then [66, 79, 79, 76] else if k = 2 then [73, 78, 84] else [84, 69, 88, 84]
theorem toks_col {c : CO} (h : goodN c.nm) : toksM (c.nm.toList ++ [32] ++ tyB c.k) = colT c := by
  rw [toksM, List.append_assoc, toksG_word _ _ _ h.none, List.nil_append, List.cons_append, List.nil_append, toksG_blank, emit_good h, colT, typeS, tyB]
  split
  · rfl
  · split <;> rfl
set_option maxRecDepth 100000 in
set_option maxHeartbeats 8000000 in
theorem tokens1_con (G : List (Nat × List Value)) (s : ST) (hk : s.k = 1) (hl : s.cols.length ≤ 6) (hc : ∀ c ∈ s.cols, goodC c ∧ goodN c.nm) (ht : goodN s.tab) : Con Go.Proofs.Tryz.prog G 78 [.agg (eST s)] [] 0 (Is (.ro true 3 ((createT s).map eT)) [] 0) No := by
  refine con_of_awp Go.Proofs.Tryz.func78 rfl (by kernel_rfl) (of_decide_eq_true (by kernel_rfl)) ?_; intro E hG hE; subst hG; simp only [ent]
  have htl := ht.len
  have et := Go.Proofs.YtoecmmpjndcolaaGreatDoor.eq_str s.tab
  have hh := toks_head ht
  have tc := toks_con E.G (bCT ++ s.tab.toList ++ [32, 40]) (by simp [bCT]; omega)
  rw [hh] at tc
  have e1 : (⟨#[67, 82, 69, 65, 84, 69, 32, 84, 65, 66, 76, 69, 32]⟩ : ByteArray) ++ str s.tab.toList = str (bCT ++ s.tab.toList) := str_app bCT s.tab.toList
  have e2 : str (bCT ++ s.tab.toList) ++ (⟨#[32, 40]⟩ : ByteArray) = str (bCT ++ s.tab.toList ++ [32, 40]) := str_app _ [32, 40]
  have z1 : (⟨#[67, 82, 69, 65, 84, 69, 32, 84, 65, 66, 76, 69, 32]⟩ : ByteArray).size = 13 := rfl
  have z2 : (⟨#[32, 40]⟩ : ByteArray).size = 2 := rfl
  have z3 : (str s.tab.toList).size = s.tab.toList.length := str_size _
  have z4 : (str (bCT ++ s.tab.toList)).size = 13 + s.tab.toList.length := by rw [str_size]; simp [bCT]; omega
  generalize htb : s.tab.toList = tb at *
  generalize hhd : [wordT (str [67, 82, 69, 65, 84, 69]), wordT (str [84, 65, 66, 76, 69]), wordT s.tab] = hd at *
  have hhl : hd.length = 3 := by rw [← hhd]; rfl
  have hcT : createT s = hd ++ listO (s.cols.map colT) ++ [markT (str [41])] := by rw [createT, hhd]; simp [listM, listO]
  rw [hcT]
  (repeat' (first | refine awp_seq ?_ | refine awp_block ?_ | refine awp_skip ?_ | refine awp_exit ?_ | ((first | refine rR (fun K kp hK hkp => ?_) | refine rD (id := 9) mixed 19 [0,1,2,3,4,5,6,7,9,10,11,12,13,14,8,15,16,17,18] (fun K kp hK hkp => ?_) | refine rD (id := 37) mixed 15 [0,1,2,3,4,5,7,8,10,6,9,11,12,13,14] (fun K kp hK hkp => ?_) | refine rD (id := 42) mixed 18 [0,1,2,3,4,5,6,7,9,10,12,13,8,11,14,15,16,17] (fun K kp hK hkp => ?_) | refine rD (id := 44) mixed 10 [0,1,2,4,5,3,6,7,8,9] (fun K kp hK hkp => ?_) | refine cR tc ?_ | refine cD tc ?_ | refine iG ?_ | refine iD ?_); simp (implicitDefEqProofs := false) (maxSteps := 2000000) (disch := omega) only [go_sem, eST, hk, et, e1, e2, z1, z2, z3, z4]; (repeat' (first | (refine hK _ ?_; clear hK hkp kp K) | (with_reducible refine And.intro ?_ ?_) | omega))) | ((first | refine aG (fun h => ?_) (fun h => ?_) | refine aD (fun h => ?_) (fun h => ?_) | refine aX (fun h => ?_) (fun h => ?_)) <;> simp only [h]) | refine awp_cond_t rfl ?_ | refine awp_cond_f rfl ?_ | ((refine awp_cond rfl (fun h => ?_) (fun h => ?_) <;> try simp only [ifs] at h) <;> (try (exfalso; omega))) | refine awp_ret ?_))
  refine awp_loop (fun k : Nat => ⟨[(4, .r (.int .i64 k)), (3, .s 1 0 (hd ++ listO ((s.cols.map colT).take k)).length), (1, .p 0 0 0)],
    [(0, .box 71 (eST s)), (1, .lst 110 3 ((hd ++ listO ((s.cols.map colT).take k)).map eT))], 2⟩) (fun k => k ≤ s.cols.length) (fun k => s.cols.length - k) 0 ?_ ?_ ?_
  · simp
  · (refine emb [0, 1] ?_ ?_ rfl ?_ ?_ ?_ ?_ <;> simp [okM, okO, lk, ren, renL, renNd, by_, hE, eST, hk, et] <;> (try omega))
  intro k hkk
  have tk : toksM [44] = [markT (str [44])] := rfl
  have tm := toks_con E.G [44] (by simp)
  rw [tk] at tm
  simp only [List.map_cons, List.map_nil, List.length_cons, List.length_nil, eT, markT] at tm
  have hle : (hd ++ listO ((s.cols.map colT).take k)).length ≤ 8010 := by
    have := commas_len ((s.cols.map colT).take k) (by intro x hx; obtain ⟨c, _, rfl⟩ := List.mem_map.1 (List.mem_of_mem_take hx); simp [colT])
    simp [listO] at this ⊢; omega
  by_cases hlt : k < s.cols.length
  · obtain ⟨c, hx⟩ : ∃ x, s.cols[k]? = some x := ⟨s.cols[k], by simp [hlt]⟩
    have hx2 : (s.cols.map colT)[k]? = some (colT c) := by rw [List.getElem?_map, hx]; rfl
    obtain ⟨⟨g1, g3⟩, gn⟩ := hc c (List.mem_of_getElem? hx)
    have hnl := gn.len
    have ec := Go.Proofs.YtoecmmpjndcolaaGreatDoor.eq_str c.nm
    have tcc := toks_con E.G (c.nm.toList ++ [32] ++ tyB c.k) (by simp [tyB]; split <;> (try split) <;> simp <;> omega)
    rw [toks_col gn] at tcc
    have e3 : str c.nm.toList ++ (⟨#[32]⟩ : ByteArray) = str (c.nm.toList ++ [32]) := str_app _ [32]
    have z5 : (⟨#[32]⟩ : ByteArray).size = 1 := rfl
    have z6 : (str c.nm.toList).size = c.nm.toList.length := str_size _
    have z7 : (str (c.nm.toList ++ [32])).size = c.nm.toList.length + 1 := by rw [str_size]; simp
    by_cases h0 : 0 < k
    · have d1 : decide ((k : Int) > 0) = true := decide_eq_true (by omega)
      have hm : hd ++ listO ((s.cols.map colT).take (k + 1)) = hd ++ listO ((s.cols.map colT).take k) ++ [markT (str [44])] ++ colT c := by rw [listO_more hx2 h0]; simp
      generalize hd ++ listO ((s.cols.map colT).take k) = q at hm hle ⊢
      obtain hy | hy | hy : c.k = 1 ∨ c.k = 2 ∨ c.k = 3 := by omega
      · have e4 : str (c.nm.toList ++ [32]) ++ (⟨#[66, 79, 79, 76]⟩ : ByteArray) = str (c.nm.toList ++ [32] ++ tyB c.k) := by rw [hy]; exact str_app _ [66, 79, 79, 76]
        have z8 : (⟨#[66, 79, 79, 76]⟩ : ByteArray).size = 4 := rfl
        have hty : typeS c.k = str [66, 79, 79, 76] := by simp [typeS, hy]
        simp only [colT, List.map_cons, List.map_nil, List.length_cons, List.length_nil, eT, wordT, hty] at tcc
        generalize c.nm.toList = nb at *
        rw [hy] at e4 tcc
        (repeat' (first | refine awp_seq ?_ | refine awp_block ?_ | refine awp_skip ?_ | refine awp_exit ?_ | ((first | refine rR (fun K kp hK hkp => ?_) | refine rD (id := 9) mixed 19 [0,1,2,3,4,5,6,7,9,10,11,12,13,14,8,15,16,17,18] (fun K kp hK hkp => ?_) | refine rD (id := 37) mixed 15 [0,1,2,3,4,5,7,8,10,6,9,11,12,13,14] (fun K kp hK hkp => ?_) | refine rD (id := 42) mixed 18 [0,1,2,3,4,5,6,7,9,10,12,13,8,11,14,15,16,17] (fun K kp hK hkp => ?_) | refine rD (id := 44) mixed 10 [0,1,2,4,5,3,6,7,8,9] (fun K kp hK hkp => ?_) | refine cR tm ?_ | refine cD tm ?_ | refine cR tcc ?_ | refine cD tcc ?_ | refine iG ?_ | refine iD ?_); simp (implicitDefEqProofs := false) (maxSteps := 2000000) (disch := omega) only [go_sem, eST, eC, hx, hy, ec, e3, e4, z5, z6, z7, z8, d1]; (repeat' (first | (refine hK _ ?_; clear hK hkp kp K) | (with_reducible refine And.intro ?_ ?_) | omega))) | ((first | refine aG (fun h => ?_) (fun h => ?_) | refine aD (fun h => ?_) (fun h => ?_) | refine aX (fun h => ?_) (fun h => ?_)) <;> simp only [h]) | refine awp_cond_t rfl ?_ | refine awp_cond_f rfl ?_ | ((refine awp_cond rfl (fun h => ?_) (fun h => ?_) <;> try simp only [ifs] at h) <;> (try (exfalso; omega))) | refine awp_ret ?_))
        ((first | (refine nextB (k + 1) ?_ ?_ ?_) | (refine nextA (k + 1) ?_ ?_ ?_)); rotate_left; (· (try dsimp only); (first | omega | (simp only [List.length_drop, List.length_cons, List.length_append]; omega) | (simp; done) | (simp; omega))); (· (refine emb [0, 6] ?_ ?_ rfl ?_ ?_ ?_ ?_ <;> simp [okM, okO, lk, ren, renL, renNd, by_, hE, hm, eT, wordT, colT, hty, eST, markT, ec] <;> (try omega))))
        omega
      · have e4 : str (c.nm.toList ++ [32]) ++ (⟨#[73, 78, 84]⟩ : ByteArray) = str (c.nm.toList ++ [32] ++ tyB c.k) := by rw [hy]; exact str_app _ [73, 78, 84]
        have z8 : (⟨#[73, 78, 84]⟩ : ByteArray).size = 3 := rfl
        have hty : typeS c.k = str [73, 78, 84] := by simp [typeS, hy]
        simp only [colT, List.map_cons, List.map_nil, List.length_cons, List.length_nil, eT, wordT, hty] at tcc
        generalize c.nm.toList = nb at *
        rw [hy] at e4 tcc
        (repeat' (first | refine awp_seq ?_ | refine awp_block ?_ | refine awp_skip ?_ | refine awp_exit ?_ | ((first | refine rR (fun K kp hK hkp => ?_) | refine rD (id := 9) mixed 19 [0,1,2,3,4,5,6,7,9,10,11,12,13,14,8,15,16,17,18] (fun K kp hK hkp => ?_) | refine rD (id := 37) mixed 15 [0,1,2,3,4,5,7,8,10,6,9,11,12,13,14] (fun K kp hK hkp => ?_) | refine rD (id := 42) mixed 18 [0,1,2,3,4,5,6,7,9,10,12,13,8,11,14,15,16,17] (fun K kp hK hkp => ?_) | refine rD (id := 44) mixed 10 [0,1,2,4,5,3,6,7,8,9] (fun K kp hK hkp => ?_) | refine cR tm ?_ | refine cD tm ?_ | refine cR tcc ?_ | refine cD tcc ?_ | refine iG ?_ | refine iD ?_); simp (implicitDefEqProofs := false) (maxSteps := 2000000) (disch := omega) only [go_sem, eST, eC, hx, hy, ec, e3, e4, z5, z6, z7, z8, d1]; (repeat' (first | (refine hK _ ?_; clear hK hkp kp K) | (with_reducible refine And.intro ?_ ?_) | omega))) | ((first | refine aG (fun h => ?_) (fun h => ?_) | refine aD (fun h => ?_) (fun h => ?_) | refine aX (fun h => ?_) (fun h => ?_)) <;> simp only [h]) | refine awp_cond_t rfl ?_ | refine awp_cond_f rfl ?_ | ((refine awp_cond rfl (fun h => ?_) (fun h => ?_) <;> try simp only [ifs] at h) <;> (try (exfalso; omega))) | refine awp_ret ?_))
        ((first | (refine nextB (k + 1) ?_ ?_ ?_) | (refine nextA (k + 1) ?_ ?_ ?_)); rotate_left; (· (try dsimp only); (first | omega | (simp only [List.length_drop, List.length_cons, List.length_append]; omega) | (simp; done) | (simp; omega))); (· (refine emb [0, 6] ?_ ?_ rfl ?_ ?_ ?_ ?_ <;> simp [okM, okO, lk, ren, renL, renNd, by_, hE, hm, eT, wordT, colT, hty, eST, markT, ec] <;> (try omega))))
        omega
      · have e4 : str (c.nm.toList ++ [32]) ++ (⟨#[84, 69, 88, 84]⟩ : ByteArray) = str (c.nm.toList ++ [32] ++ tyB c.k) := by rw [hy]; exact str_app _ [84, 69, 88, 84]
        have z8 : (⟨#[84, 69, 88, 84]⟩ : ByteArray).size = 4 := rfl
        have hty : typeS c.k = str [84, 69, 88, 84] := by simp [typeS, hy]
        simp only [colT, List.map_cons, List.map_nil, List.length_cons, List.length_nil, eT, wordT, hty] at tcc
        generalize c.nm.toList = nb at *
        rw [hy] at e4 tcc
        (repeat' (first | refine awp_seq ?_ | refine awp_block ?_ | refine awp_skip ?_ | refine awp_exit ?_ | ((first | refine rR (fun K kp hK hkp => ?_) | refine rD (id := 9) mixed 19 [0,1,2,3,4,5,6,7,9,10,11,12,13,14,8,15,16,17,18] (fun K kp hK hkp => ?_) | refine rD (id := 37) mixed 15 [0,1,2,3,4,5,7,8,10,6,9,11,12,13,14] (fun K kp hK hkp => ?_) | refine rD (id := 42) mixed 18 [0,1,2,3,4,5,6,7,9,10,12,13,8,11,14,15,16,17] (fun K kp hK hkp => ?_) | refine rD (id := 44) mixed 10 [0,1,2,4,5,3,6,7,8,9] (fun K kp hK hkp => ?_) | refine cR tm ?_ | refine cD tm ?_ | refine cR tcc ?_ | refine cD tcc ?_ | refine iG ?_ | refine iD ?_); simp (implicitDefEqProofs := false) (maxSteps := 2000000) (disch := omega) only [go_sem, eST, eC, hx, hy, ec, e3, e4, z5, z6, z7, z8, d1]; (repeat' (first | (refine hK _ ?_; clear hK hkp kp K) | (with_reducible refine And.intro ?_ ?_) | omega))) | ((first | refine aG (fun h => ?_) (fun h => ?_) | refine aD (fun h => ?_) (fun h => ?_) | refine aX (fun h => ?_) (fun h => ?_)) <;> simp only [h]) | refine awp_cond_t rfl ?_ | refine awp_cond_f rfl ?_ | ((refine awp_cond rfl (fun h => ?_) (fun h => ?_) <;> try simp only [ifs] at h) <;> (try (exfalso; omega))) | refine awp_ret ?_))
        ((first | (refine nextB (k + 1) ?_ ?_ ?_) | (refine nextA (k + 1) ?_ ?_ ?_)); rotate_left; (· (try dsimp only); (first | omega | (simp only [List.length_drop, List.length_cons, List.length_append]; omega) | (simp; done) | (simp; omega))); (· (refine emb [0, 6] ?_ ?_ rfl ?_ ?_ ?_ ?_ <;> simp [okM, okO, lk, ren, renL, renNd, by_, hE, hm, eT, wordT, colT, hty, eST, markT, ec] <;> (try omega))))
        omega
    · obtain rfl : k = 0 := by omega
      have hm : hd ++ listO ((s.cols.map colT).take (0 + 1)) = hd ++ listO ((s.cols.map colT).take 0) ++ colT c := by rw [listO_one hx2, List.take_zero]; simp
      generalize hd ++ listO ((s.cols.map colT).take 0) = q at hm hle ⊢
      obtain hy | hy | hy : c.k = 1 ∨ c.k = 2 ∨ c.k = 3 := by omega
      · have e4 : str (c.nm.toList ++ [32]) ++ (⟨#[66, 79, 79, 76]⟩ : ByteArray) = str (c.nm.toList ++ [32] ++ tyB c.k) := by rw [hy]; exact str_app _ [66, 79, 79, 76]
        have z8 : (⟨#[66, 79, 79, 76]⟩ : ByteArray).size = 4 := rfl
        have hty : typeS c.k = str [66, 79, 79, 76] := by simp [typeS, hy]
        simp only [colT, List.map_cons, List.map_nil, List.length_cons, List.length_nil, eT, wordT, hty] at tcc
        generalize c.nm.toList = nb at *
        rw [hy] at e4 tcc
        (repeat' (first | refine awp_seq ?_ | refine awp_block ?_ | refine awp_skip ?_ | refine awp_exit ?_ | ((first | refine rR (fun K kp hK hkp => ?_) | refine rD (id := 9) mixed 19 [0,1,2,3,4,5,6,7,9,10,11,12,13,14,8,15,16,17,18] (fun K kp hK hkp => ?_) | refine rD (id := 37) mixed 15 [0,1,2,3,4,5,7,8,10,6,9,11,12,13,14] (fun K kp hK hkp => ?_) | refine rD (id := 42) mixed 18 [0,1,2,3,4,5,6,7,9,10,12,13,8,11,14,15,16,17] (fun K kp hK hkp => ?_) | refine rD (id := 44) mixed 10 [0,1,2,4,5,3,6,7,8,9] (fun K kp hK hkp => ?_) | refine cR tm ?_ | refine cD tm ?_ | refine cR tcc ?_ | refine cD tcc ?_ | refine iG ?_ | refine iD ?_); simp (implicitDefEqProofs := false) (maxSteps := 2000000) (disch := omega) only [go_sem, eST, eC, hx, hy, ec, e3, e4, z5, z6, z7, z8]; (repeat' (first | (refine hK _ ?_; clear hK hkp kp K) | (with_reducible refine And.intro ?_ ?_) | omega))) | ((first | refine aG (fun h => ?_) (fun h => ?_) | refine aD (fun h => ?_) (fun h => ?_) | refine aX (fun h => ?_) (fun h => ?_)) <;> simp only [h]) | refine awp_cond_t rfl ?_ | refine awp_cond_f rfl ?_ | ((refine awp_cond rfl (fun h => ?_) (fun h => ?_) <;> try simp only [ifs] at h) <;> (try (exfalso; omega))) | refine awp_ret ?_))
        ((first | (refine nextB (0 + 1) ?_ ?_ ?_) | (refine nextA (0 + 1) ?_ ?_ ?_)); rotate_left; (· (try dsimp only); (first | omega | (simp only [List.length_drop, List.length_cons, List.length_append]; omega) | (simp; done) | (simp; omega))); (· (refine emb [0, 4] ?_ ?_ rfl ?_ ?_ ?_ ?_ <;> simp [okM, okO, lk, ren, renL, renNd, by_, hE, hm, eT, wordT, colT, hty, eST, markT, ec] <;> (try omega))))
        omega
      · have e4 : str (c.nm.toList ++ [32]) ++ (⟨#[73, 78, 84]⟩ : ByteArray) = str (c.nm.toList ++ [32] ++ tyB c.k) := by rw [hy]; exact str_app _ [73, 78, 84]
        have z8 : (⟨#[73, 78, 84]⟩ : ByteArray).size = 3 := rfl
        have hty : typeS c.k = str [73, 78, 84] := by simp [typeS, hy]
        simp only [colT, List.map_cons, List.map_nil, List.length_cons, List.length_nil, eT, wordT, hty] at tcc
        generalize c.nm.toList = nb at *
        rw [hy] at e4 tcc
        (repeat' (first | refine awp_seq ?_ | refine awp_block ?_ | refine awp_skip ?_ | refine awp_exit ?_ | ((first | refine rR (fun K kp hK hkp => ?_) | refine rD (id := 9) mixed 19 [0,1,2,3,4,5,6,7,9,10,11,12,13,14,8,15,16,17,18] (fun K kp hK hkp => ?_) | refine rD (id := 37) mixed 15 [0,1,2,3,4,5,7,8,10,6,9,11,12,13,14] (fun K kp hK hkp => ?_) | refine rD (id := 42) mixed 18 [0,1,2,3,4,5,6,7,9,10,12,13,8,11,14,15,16,17] (fun K kp hK hkp => ?_) | refine rD (id := 44) mixed 10 [0,1,2,4,5,3,6,7,8,9] (fun K kp hK hkp => ?_) | refine cR tm ?_ | refine cD tm ?_ | refine cR tcc ?_ | refine cD tcc ?_ | refine iG ?_ | refine iD ?_); simp (implicitDefEqProofs := false) (maxSteps := 2000000) (disch := omega) only [go_sem, eST, eC, hx, hy, ec, e3, e4, z5, z6, z7, z8]; (repeat' (first | (refine hK _ ?_; clear hK hkp kp K) | (with_reducible refine And.intro ?_ ?_) | omega))) | ((first | refine aG (fun h => ?_) (fun h => ?_) | refine aD (fun h => ?_) (fun h => ?_) | refine aX (fun h => ?_) (fun h => ?_)) <;> simp only [h]) | refine awp_cond_t rfl ?_ | refine awp_cond_f rfl ?_ | ((refine awp_cond rfl (fun h => ?_) (fun h => ?_) <;> try simp only [ifs] at h) <;> (try (exfalso; omega))) | refine awp_ret ?_))
        ((first | (refine nextB (0 + 1) ?_ ?_ ?_) | (refine nextA (0 + 1) ?_ ?_ ?_)); rotate_left; (· (try dsimp only); (first | omega | (simp only [List.length_drop, List.length_cons, List.length_append]; omega) | (simp; done) | (simp; omega))); (· (refine emb [0, 4] ?_ ?_ rfl ?_ ?_ ?_ ?_ <;> simp [okM, okO, lk, ren, renL, renNd, by_, hE, hm, eT, wordT, colT, hty, eST, markT, ec] <;> (try omega))))
        omega
      · have e4 : str (c.nm.toList ++ [32]) ++ (⟨#[84, 69, 88, 84]⟩ : ByteArray) = str (c.nm.toList ++ [32] ++ tyB c.k) := by rw [hy]; exact str_app _ [84, 69, 88, 84]
        have z8 : (⟨#[84, 69, 88, 84]⟩ : ByteArray).size = 4 := rfl
        have hty : typeS c.k = str [84, 69, 88, 84] := by simp [typeS, hy]
        simp only [colT, List.map_cons, List.map_nil, List.length_cons, List.length_nil, eT, wordT, hty] at tcc
        generalize c.nm.toList = nb at *
        rw [hy] at e4 tcc
        (repeat' (first | refine awp_seq ?_ | refine awp_block ?_ | refine awp_skip ?_ | refine awp_exit ?_ | ((first | refine rR (fun K kp hK hkp => ?_) | refine rD (id := 9) mixed 19 [0,1,2,3,4,5,6,7,9,10,11,12,13,14,8,15,16,17,18] (fun K kp hK hkp => ?_) | refine rD (id := 37) mixed 15 [0,1,2,3,4,5,7,8,10,6,9,11,12,13,14] (fun K kp hK hkp => ?_) | refine rD (id := 42) mixed 18 [0,1,2,3,4,5,6,7,9,10,12,13,8,11,14,15,16,17] (fun K kp hK hkp => ?_) | refine rD (id := 44) mixed 10 [0,1,2,4,5,3,6,7,8,9] (fun K kp hK hkp => ?_) | refine cR tm ?_ | refine cD tm ?_ | refine cR tcc ?_ | refine cD tcc ?_ | refine iG ?_ | refine iD ?_); simp (implicitDefEqProofs := false) (maxSteps := 2000000) (disch := omega) only [go_sem, eST, eC, hx, hy, ec, e3, e4, z5, z6, z7, z8]; (repeat' (first | (refine hK _ ?_; clear hK hkp kp K) | (with_reducible refine And.intro ?_ ?_) | omega))) | ((first | refine aG (fun h => ?_) (fun h => ?_) | refine aD (fun h => ?_) (fun h => ?_) | refine aX (fun h => ?_) (fun h => ?_)) <;> simp only [h]) | refine awp_cond_t rfl ?_ | refine awp_cond_f rfl ?_ | ((refine awp_cond rfl (fun h => ?_) (fun h => ?_) <;> try simp only [ifs] at h) <;> (try (exfalso; omega))) | refine awp_ret ?_))
        ((first | (refine nextB (0 + 1) ?_ ?_ ?_) | (refine nextA (0 + 1) ?_ ?_ ?_)); rotate_left; (· (try dsimp only); (first | omega | (simp only [List.length_drop, List.length_cons, List.length_append]; omega) | (simp; done) | (simp; omega))); (· (refine emb [0, 4] ?_ ?_ rfl ?_ ?_ ?_ ?_ <;> simp [okM, okO, lk, ren, renL, renNd, by_, hE, hm, eT, wordT, colT, hty, eST, markT, ec] <;> (try omega))))
        omega
  · obtain rfl : k = s.cols.length := by omega
    have t2 : toksM [41] = [markT (str [41])] := rfl
    have tn := toks_con E.G [41] (by simp)
    rw [t2] at tn
    simp only [List.map_cons, List.map_nil, List.length_cons, List.length_nil, eT, markT] at tn
    have e9 : (s.cols.map colT).take s.cols.length = s.cols.map colT := List.take_of_length_le (by simp)
    rw [e9] at hle ⊢
    generalize hd ++ listO (s.cols.map colT) = q at hle ⊢
    (repeat' (first | refine awp_seq ?_ | refine awp_block ?_ | refine awp_skip ?_ | refine awp_exit ?_ | ((first | refine rR (fun K kp hK hkp => ?_) | refine rD (id := 9) mixed 19 [0,1,2,3,4,5,6,7,9,10,11,12,13,14,8,15,16,17,18] (fun K kp hK hkp => ?_) | refine rD (id := 37) mixed 15 [0,1,2,3,4,5,7,8,10,6,9,11,12,13,14] (fun K kp hK hkp => ?_) | refine rD (id := 42) mixed 18 [0,1,2,3,4,5,6,7,9,10,12,13,8,11,14,15,16,17] (fun K kp hK hkp => ?_) | refine rD (id := 44) mixed 10 [0,1,2,4,5,3,6,7,8,9] (fun K kp hK hkp => ?_) | refine cR tn ?_ | refine cD tn ?_ | refine iG ?_ | refine iD ?_); simp (implicitDefEqProofs := false) (maxSteps := 2000000) (disch := omega) only [go_sem, eST]; (repeat' (first | (refine hK _ ?_; clear hK hkp kp K) | (with_reducible refine And.intro ?_ ?_) | omega))) | ((first | refine aG (fun h => ?_) (fun h => ?_) | refine aD (fun h => ?_) (fun h => ?_) | refine aX (fun h => ?_) (fun h => ?_)) <;> simp only [h]) | refine awp_cond_t rfl ?_ | refine awp_cond_f rfl ?_ | ((refine awp_cond rfl (fun h => ?_) (fun h => ?_) <;> try simp only [ifs] at h) <;> (try (exfalso; omega))) | refine awp_ret ?_))
    (refine retA_is (by (simp (implicitDefEqProofs := false) (maxSteps := 2000000) (disch := omega) only [go_sem, Go.Proofs.Tryz.results78, eT, markT, str]); rfl) ?_; refine embS_frz (by simp only [oneA]; simp (implicitDefEqProofs := false) (maxSteps := 2000000) (disch := omega) only [go_sem, eT, markT, str]; rfl) ?_; refine (embV_nil hE (by simp) ?_).s; simp [oneA, ren, renL, eT, markT, str])
end Go.AM
