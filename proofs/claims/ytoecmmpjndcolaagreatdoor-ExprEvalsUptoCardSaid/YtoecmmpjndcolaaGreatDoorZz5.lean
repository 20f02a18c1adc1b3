/- Texts of the law ExprEvals, part 5: lemmas; what is proved stands in the last text. -/
import Derived.Test.YtoecmmpjndcolaaGreatDoorZz4
import Derived.Test.YtoecmmpjndcolaaGreatDoorZz3
set_option linter.unusedSimpArgs false
set_option linter.unusedVariables false
/- Values: the reference's TwoOf, all but truths and numbers. -/
namespace Go.AM
open Go Go.RowKit
open Go.Proofs.YtoecmmpjndcolaaGreatDoor (vcheck vboth fitsI opV twoR logicR eqlR ariM nov isYes)
attribute [local irreducible] AWP retA
set_option maxRecDepth 100000 in
set_option maxHeartbeats 4000000 in
theorem twoOf_bad (G : List (Nat × List Value)) (kind : Int) (a b : V) (ha : okS a.s) (hb : okS b.s) (hv : vboth a.k a.n a.s b.k b.n b.s ≠ 0) : Con Go.Proofs.Tryz.prog G 43 [.r (.int .i64 kind), .agg (eV a), .agg (eV b)] [] 0 (Is (pairA (twoR kind a.k a.n a.s b.k b.n b.s)) [] 0) No := by
  refine con_of_awp Go.Proofs.Tryz.func43 rfl (by kernel_rfl) (of_decide_eq_true (by kernel_rfl)) ?_; intro E hG hE; subst hG; simp only [ent]
  have bc := bothFault_con E.G a b ha hb
  simp only [eV] at bc
  have b0 : (vboth a.k a.n a.s b.k b.n b.s != 0) = true := by simpa using hv
  (repeat' (first | refine awp_seq ?_ | refine awp_block ?_ | refine awp_skip ?_ | refine awp_exit ?_ | ((first | refine rR (fun K kp hK hkp => ?_) | refine rD (id := 20) mixed 12 [0,1,2,3,4,5,6,7,8,9,10,11] (fun K kp hK hkp => ?_) | refine rD (id := 22) mixed 12 [0,1,2,3,4,5,6,7,8,9,10,11] (fun K kp hK hkp => ?_) | refine cR bc ?_ | refine cD bc ?_ | refine iG ?_ | refine iD ?_); simp (implicitDefEqProofs := false) (maxSteps := 2000000) (disch := omega) only [go_sem, eV, b0]; (repeat' (first | (refine hK _ ?_; clear hK hkp kp K) | (with_reducible refine And.intro ?_ ?_) | omega))) | ((first | refine aG (fun h => ?_) (fun h => ?_) | refine aD (fun h => ?_) (fun h => ?_) | refine aX (fun h => ?_) (fun h => ?_)) <;> simp only [h]) | refine awp_cond_t rfl ?_ | refine awp_cond_f rfl ?_ | ((refine awp_cond rfl (fun h => ?_) (fun h => ?_) <;> try simp only [ifs] at h) <;> (try (exfalso; omega))) | refine awp_ret ?_))
  (refine retA_is (by (simp (implicitDefEqProofs := false) (maxSteps := 2000000) (disch := omega) only [go_sem, Go.Proofs.Tryz.results43, twoR, pairA, eV, nov, hv]); rfl) ?_; refine eN hE ?_; simp [oneA, ren, renL, twoR, pairA, eV, nov, hv])
set_option maxRecDepth 100000 in
set_option maxHeartbeats 8000000 in
theorem twoOf_other (G : List (Nat × List Value)) (kind : Int) (a b : V) (ha : okS a.s) (hb : okS b.s) (hv : vboth a.k a.n a.s b.k b.n b.s = 0) (h3 : kind ≠ 3) (h4 : kind ≠ 4) (h6 : kind ≠ 6) (h7 : kind ≠ 7) (h8 : kind ≠ 8) (h9 : kind ≠ 9) (h10 : kind ≠ 10) : Con Go.Proofs.Tryz.prog G 43 [.r (.int .i64 kind), .agg (eV a), .agg (eV b)] [] 0 (Is (pairA (twoR kind a.k a.n a.s b.k b.n b.s)) [] 0) No := by
  refine con_of_awp Go.Proofs.Tryz.func43 rfl (by kernel_rfl) (of_decide_eq_true (by kernel_rfl)) ?_; intro E hG hE; subst hG; simp only [ent]
  have bc := bothFault_con E.G a b ha hb
  have ic := in_con E.G kind 3 10
  rw [hv] at bc
  simp only [eV] at bc
  have hL : twoR kind a.k a.n a.s b.k b.n b.s = (nov, 2) := by rw [twoR, if_pos hv, if_neg h3, if_neg h4, if_neg (by omega), if_neg (by omega)]
  rw [hL]
  by_cases h5 : kind = 5
  · subst h5
    (repeat' (first | refine awp_seq ?_ | refine awp_block ?_ | refine awp_skip ?_ | refine awp_exit ?_ | ((first | refine rR (fun K kp hK hkp => ?_) | refine rD (id := 20) mixed 12 [0,1,2,3,4,5,6,7,8,9,10,11] (fun K kp hK hkp => ?_) | refine rD (id := 22) mixed 12 [0,1,2,3,4,5,6,7,8,9,10,11] (fun K kp hK hkp => ?_) | refine cR bc ?_ | refine cD bc ?_ | refine cR ic ?_ | refine cD ic ?_ | refine iG ?_ | refine iD ?_); simp (implicitDefEqProofs := false) (maxSteps := 2000000) (disch := omega) only [go_sem, eV]; (repeat' (first | (refine hK _ ?_; clear hK hkp kp K) | (with_reducible refine And.intro ?_ ?_) | omega))) | ((first | refine aG (fun h => ?_) (fun h => ?_) | refine aD (fun h => ?_) (fun h => ?_) | refine aX (fun h => ?_) (fun h => ?_)) <;> simp only [h]) | refine awp_cond_t rfl ?_ | refine awp_cond_f rfl ?_ | ((refine awp_cond rfl (fun h => ?_) (fun h => ?_) <;> try simp only [ifs] at h) <;> (try (exfalso; omega))) | refine awp_ret ?_))
    (refine retA_is (by (simp (implicitDefEqProofs := false) (maxSteps := 2000000) (disch := omega) only [go_sem, Go.Proofs.Tryz.results43, pairA, eV, nov]); rfl) ?_; refine eN hE ?_; simp [oneA, ren, renL, pairA, eV, nov])
  · have hi : (decide (3 ≤ kind) && decide (kind ≤ 10)) = false := by simp; omega
    rw [hi] at ic
    (repeat' (first | refine awp_seq ?_ | refine awp_block ?_ | refine awp_skip ?_ | refine awp_exit ?_ | ((first | refine rR (fun K kp hK hkp => ?_) | refine rD (id := 20) mixed 12 [0,1,2,3,4,5,6,7,8,9,10,11] (fun K kp hK hkp => ?_) | refine rD (id := 22) mixed 12 [0,1,2,3,4,5,6,7,8,9,10,11] (fun K kp hK hkp => ?_) | refine cR bc ?_ | refine cD bc ?_ | refine cR ic ?_ | refine cD ic ?_ | refine iG ?_ | refine iD ?_); simp (implicitDefEqProofs := false) (maxSteps := 2000000) (disch := omega) only [go_sem, eV]; (repeat' (first | (refine hK _ ?_; clear hK hkp kp K) | (with_reducible refine And.intro ?_ ?_) | omega))) | ((first | refine aG (fun h => ?_) (fun h => ?_) | refine aD (fun h => ?_) (fun h => ?_) | refine aX (fun h => ?_) (fun h => ?_)) <;> simp only [h]) | refine awp_cond_t rfl ?_ | refine awp_cond_f rfl ?_ | ((refine awp_cond rfl (fun h => ?_) (fun h => ?_) <;> try simp only [ifs] at h) <;> (try (exfalso; omega))) | refine awp_ret ?_))
    (refine retA_is (by (simp (implicitDefEqProofs := false) (maxSteps := 2000000) (disch := omega) only [go_sem, Go.Proofs.Tryz.results43, pairA, eV, nov]); rfl) ?_; refine eN hE ?_; simp [oneA, ren, renL, pairA, eV, nov])
end Go.AM
/- Values: the reference's TwoOf, equal and less. -/
namespace Go.AM
open Go Go.RowKit
open Go.Proofs.YtoecmmpjndcolaaGreatDoor (vcheck vboth fitsI opV twoR logicR eqlR ariM nov isYes vahead)
attribute [local irreducible] AWP retA
set_option maxRecDepth 100000 in
set_option maxHeartbeats 8000000 in
theorem twoOf_eql (G : List (Nat × List Value)) (kind : Int) (a b : V) (ha : okS a.s) (hb : okS b.s) (hv : vboth a.k a.n a.s b.k b.n b.s = 0) (hk : kind = 6 ∨ kind = 7) : Con Go.Proofs.Tryz.prog G 43 [.r (.int .i64 kind), .agg (eV a), .agg (eV b)] [] 0 (Is (pairA (twoR kind a.k a.n a.s b.k b.n b.s)) [] 0) No := by
  refine con_of_awp Go.Proofs.Tryz.func43 rfl (by kernel_rfl) (of_decide_eq_true (by kernel_rfl)) ?_; intro E hG hE; subst hG; simp only [ent]
  have bc := bothFault_con E.G a b ha hb
  have ic := in_con E.G kind 3 10
  have ac := ahead_con E.G a b
  have yc := yes_con E.G (vahead a.k a.n a.s b.k b.n b.s)
  rw [hv] at bc
  have hi : (decide (3 ≤ kind) && decide (kind ≤ 10)) = true := by simp; omega
  rw [hi] at ic
  have hL : twoR kind a.k a.n a.s b.k b.n b.s = eqlR kind a.k a.n a.s b.k b.n b.s := by rw [twoR, if_pos hv, if_neg (by omega), if_neg (by omega), if_pos hk]
  rw [hL]
  simp only [eV, bV] at bc ac yc
  obtain rfl | rfl := hk
  · have y2 := yes_con E.G (a.k == b.k && (a.n == b.n && a.s.toList == b.s.toList))
    simp only [bV] at y2
    (repeat' (first | refine awp_seq ?_ | refine awp_block ?_ | refine awp_skip ?_ | refine awp_exit ?_ | ((first | refine rR (fun K kp hK hkp => ?_) | refine rD (id := 20) mixed 12 [0,1,2,3,4,5,6,7,8,9,10,11] (fun K kp hK hkp => ?_) | refine rD (id := 22) mixed 12 [0,1,2,3,4,5,6,7,8,9,10,11] (fun K kp hK hkp => ?_) | refine cR bc ?_ | refine cD bc ?_ | refine cR ic ?_ | refine cD ic ?_ | refine cR y2 ?_ | refine cD y2 ?_ | refine iG ?_ | refine iD ?_); simp (implicitDefEqProofs := false) (maxSteps := 2000000) (disch := omega) only [go_sem, eV]; (repeat' (first | (refine hK _ ?_; clear hK hkp kp K) | (with_reducible refine And.intro ?_ ?_) | omega))) | ((first | refine aG (fun h => ?_) (fun h => ?_) | refine aD (fun h => ?_) (fun h => ?_) | refine aX (fun h => ?_) (fun h => ?_)) <;> simp only [h]) | refine awp_cond_t rfl ?_ | refine awp_cond_f rfl ?_ | ((refine awp_cond rfl (fun h => ?_) (fun h => ?_) <;> try simp only [ifs] at h) <;> (try (exfalso; omega))) | refine awp_ret ?_))
    all_goals (refine retA_is (by (simp (implicitDefEqProofs := false) (maxSteps := 2000000) (disch := omega) only [go_sem, Go.Proofs.Tryz.results43]); rfl) ?_; refine (embV_nil hE (by simp) ?_).s; clear hE bc ic ac yc y2; simp_all [oneA, ren, renL, eqlR, pairA, eV, nov])
  · (repeat' (first | refine awp_seq ?_ | refine awp_block ?_ | refine awp_skip ?_ | refine awp_exit ?_ | ((first | refine rR (fun K kp hK hkp => ?_) | refine rD (id := 20) mixed 12 [0,1,2,3,4,5,6,7,8,9,10,11] (fun K kp hK hkp => ?_) | refine rD (id := 22) mixed 12 [0,1,2,3,4,5,6,7,8,9,10,11] (fun K kp hK hkp => ?_) | refine cR bc ?_ | refine cD bc ?_ | refine cR ic ?_ | refine cD ic ?_ | refine cR ac ?_ | refine cD ac ?_ | refine cR yc ?_ | refine cD yc ?_ | refine iG ?_ | refine iD ?_); simp (implicitDefEqProofs := false) (maxSteps := 2000000) (disch := omega) only [go_sem, eV]; (repeat' (first | (refine hK _ ?_; clear hK hkp kp K) | (with_reducible refine And.intro ?_ ?_) | omega))) | ((first | refine aG (fun h => ?_) (fun h => ?_) | refine aD (fun h => ?_) (fun h => ?_) | refine aX (fun h => ?_) (fun h => ?_)) <;> simp only [h]) | refine awp_cond_t rfl ?_ | refine awp_cond_f rfl ?_ | ((refine awp_cond rfl (fun h => ?_) (fun h => ?_) <;> try simp only [ifs] at h) <;> (try (exfalso; omega))) | refine awp_ret ?_))
    all_goals (refine retA_is (by (simp (implicitDefEqProofs := false) (maxSteps := 2000000) (disch := omega) only [go_sem, Go.Proofs.Tryz.results43]); rfl) ?_; refine (embV_nil hE (by simp) ?_).s; clear hE bc ic ac yc; simp_all [oneA, ren, renL, eqlR, pairA, eV, nov])
end Go.AM
/- Values: the reference's TwoOf, numbers. -/
namespace Go.AM
open Go Go.RowKit
open Go.Proofs.YtoecmmpjndcolaaGreatDoor (vcheck vboth fitsI opV twoR logicR eqlR ariM nov isYes vahead)
attribute [local irreducible] AWP retA
set_option maxRecDepth 100000 in
set_option maxHeartbeats 8000000 in
theorem twoOf_ari (G : List (Nat × List Value)) (kind : Int) (a b : V) (ha : okS a.s) (hb : okS b.s) (na : inI a.n) (nb : inI b.n) (hv : vboth a.k a.n a.s b.k b.n b.s = 0) (hk : kind = 8 ∨ kind = 9 ∨ kind = 10) : Con Go.Proofs.Tryz.prog G 43 [.r (.int .i64 kind), .agg (eV a), .agg (eV b)] [] 0 (Is (pairA (twoR kind a.k a.n a.s b.k b.n b.s)) [] 0) No := by
  refine con_of_awp Go.Proofs.Tryz.func43 rfl (by kernel_rfl) (of_decide_eq_true (by kernel_rfl)) ?_; intro E hG hE; subst hG; simp only [ent]
  have bc := bothFault_con E.G a b ha hb
  have ic := in_con E.G kind 3 10
  have lc := leaves_con E.G kind a.n b.n na nb
  rw [hv] at bc
  have hi : (decide (3 ≤ kind) && decide (kind ≤ 10)) = true := by simp; omega
  rw [hi] at ic
  have hL : twoR kind a.k a.n a.s b.k b.n b.s = ariM kind a.k a.n b.k b.n := by rw [twoR, if_pos hv, if_neg (by omega), if_neg (by omega), if_neg (by omega), if_pos hk]
  rw [hL]
  simp only [eV] at bc
  cases f : fitsI (opV kind a.n b.n)
  all_goals
    rw [f] at lc
    obtain rfl | rfl | rfl := hk
    all_goals
      (repeat' (first | refine awp_seq ?_ | refine awp_block ?_ | refine awp_skip ?_ | refine awp_exit ?_ | ((first | refine rR (fun K kp hK hkp => ?_) | refine rD (id := 20) mixed 12 [0,1,2,3,4,5,6,7,8,9,10,11] (fun K kp hK hkp => ?_) | refine rD (id := 22) mixed 12 [0,1,2,3,4,5,6,7,8,9,10,11] (fun K kp hK hkp => ?_) | refine cR bc ?_ | refine cD bc ?_ | refine cR ic ?_ | refine cD ic ?_ | refine cR lc ?_ | refine cD lc ?_ | refine iG ?_ | refine iD ?_); simp (implicitDefEqProofs := false) (maxSteps := 2000000) (disch := omega) only [go_sem, eV]; (repeat' (first | (refine hK _ ?_; clear hK hkp kp K) | (with_reducible refine And.intro ?_ ?_) | omega))) | ((first | refine aG (fun h => ?_) (fun h => ?_) | refine aD (fun h => ?_) (fun h => ?_) | refine aX (fun h => ?_) (fun h => ?_)) <;> simp only [h]) | refine awp_cond_t rfl ?_ | refine awp_cond_f rfl ?_ | ((refine awp_cond rfl (fun h => ?_) (fun h => ?_) <;> try simp only [ifs] at h) <;> (try (exfalso; omega))) | refine awp_ret ?_))
      all_goals (refine retA_is (by (simp (implicitDefEqProofs := false) (maxSteps := 2000000) (disch := omega) only [go_sem, Go.Proofs.Tryz.results43]); rfl) ?_; refine (embV_nil hE (by simp) ?_).s; clear hE bc ic lc; simp_all [oneA, ren, renL, ariM, pairA, eV, nov, opV])
      all_goals exact IntWalk.i64_left _
end Go.AM
/- Values: the reference's TwoOf, truths; all of it. -/
namespace Go.AM
open Go Go.RowKit
open Go.Proofs.YtoecmmpjndcolaaGreatDoor (vcheck vboth fitsI opV twoM twoR logicR eqlR ariM nov isYes vahead two_same)
attribute [local irreducible] AWP retA
set_option maxRecDepth 100000 in
set_option maxHeartbeats 8000000 in
theorem twoOf_log (G : List (Nat × List Value)) (kind : Int) (a b : V) (ha : okS a.s) (hb : okS b.s) (hv : vboth a.k a.n a.s b.k b.n b.s = 0) (hk : kind = 3 ∨ kind = 4) : Con Go.Proofs.Tryz.prog G 43 [.r (.int .i64 kind), .agg (eV a), .agg (eV b)] [] 0 (Is (pairA (twoR kind a.k a.n a.s b.k b.n b.s)) [] 0) No := by
  refine con_of_awp Go.Proofs.Tryz.func43 rfl (by kernel_rfl) (of_decide_eq_true (by kernel_rfl)) ?_; intro E hG hE; subst hG; simp only [ent]
  have bc := bothFault_con E.G a b ha hb
  have ic := in_con E.G kind 3 10
  have y0 := yes_con E.G false
  have y1 := yes_con E.G true
  rw [hv] at bc
  have hi : (decide (3 ≤ kind) && decide (kind ≤ 10)) = true := by simp; omega
  rw [hi] at ic
  have hL : twoR kind a.k a.n a.s b.k b.n b.s = logicR a.k a.n a.s b.k b.n b.s (kind - 3) := by
    rw [twoR, if_pos hv]; obtain rfl | rfl := hk <;> rfl
  rw [hL]
  simp only [eV, bV] at bc y0 y1
  have nl : (⟨#[]⟩ : ByteArray).toList = [] := by rw [ByteArray.toList_eq]
  obtain rfl | rfl := hk
  all_goals
    (repeat' (first | refine awp_seq ?_ | refine awp_block ?_ | refine awp_skip ?_ | refine awp_exit ?_ | ((first | refine rR (fun K kp hK hkp => ?_) | refine rD (id := 20) mixed 12 [0,1,2,3,4,5,6,7,8,9,10,11] (fun K kp hK hkp => ?_) | refine rD (id := 22) mixed 12 [0,1,2,3,4,5,6,7,8,9,10,11] (fun K kp hK hkp => ?_) | refine cR bc ?_ | refine cD bc ?_ | refine cR ic ?_ | refine cD ic ?_ | refine cR y0 ?_ | refine cD y0 ?_ | refine cR y1 ?_ | refine cD y1 ?_ | refine iG ?_ | refine iD ?_); simp (implicitDefEqProofs := false) (maxSteps := 2000000) (disch := omega) only [go_sem, eV, nl]; (repeat' (first | (refine hK _ ?_; clear hK hkp kp K) | (with_reducible refine And.intro ?_ ?_) | omega))) | ((first | refine aG (fun h => ?_) (fun h => ?_) | refine aD (fun h => ?_) (fun h => ?_) | refine aX (fun h => ?_) (fun h => ?_)) <;> simp only [h]) | refine awp_cond_t rfl ?_ | refine awp_cond_f rfl ?_ | ((refine awp_cond rfl (fun h => ?_) (fun h => ?_) <;> try simp only [ifs] at h) <;> (try (exfalso; omega))) | refine awp_ret ?_))
    all_goals (refine retA_is (by (simp (implicitDefEqProofs := false) (maxSteps := 2000000) (disch := omega) only [go_sem, Go.Proofs.Tryz.results43]); rfl) ?_; refine (embV_nil hE (by simp) ?_).s; clear hE bc ic y0 y1 hL; simp_all [oneA, ren, renL, logicR, isYes, pairA, eV, nov])
    all_goals (split <;> simp_all)
    all_goals (rename_i h0; rcases h0 with ⟨p, q⟩ | ⟨p, q⟩ <;> simp_all)
theorem twoOf_con (G : List (Nat × List Value)) (kind : Int) (a b : V) (ha : okS a.s) (hb : okS b.s) (na : inI a.n) (nb : inI b.n) : Con Go.Proofs.Tryz.prog G 43 [.r (.int .i64 kind), .agg (eV a), .agg (eV b)] [] 0 (Is (pairA (twoM kind a.k a.n a.s b.k b.n b.s)) [] 0) No := by
  rw [two_same]
  by_cases hv : vboth a.k a.n a.s b.k b.n b.s = 0
  · by_cases h1 : kind = 3 ∨ kind = 4
    · exact twoOf_log G kind a b ha hb hv h1
    by_cases h2 : kind = 6 ∨ kind = 7
    · exact twoOf_eql G kind a b ha hb hv h2
    by_cases h3 : kind = 8 ∨ kind = 9 ∨ kind = 10
    · exact twoOf_ari G kind a b ha hb na nb hv h3
    exact twoOf_other G kind a b ha hb hv (by omega) (by omega) (by omega) (by omega) (by omega) (by omega) (by omega)
  · exact twoOf_bad G kind a b ha hb hv
end Go.AM
/- Values of expressions: what an op makes of values; the closure of expr.eval. -/
namespace Go.AM
open Go Go.RowKit
open Go.Proofs.YtoecmmpjndcolaaGreatDoor (OP nameM litM exprM exprFrom stepM popsM oneM twoM logicM eqlM ariM nov vcheck vboth)
attribute [local irreducible] AWP retA
def v0 : V := ⟨0, 0, ⟨#[]⟩⟩
def toE (x : (Int × Int × ByteArray) × Int) : Except Int V := if x.2 = 0 then .ok ⟨x.1.1, x.1.2.1, x.1.2.2⟩ else .error x.2
def evA : Except Int V → AV
  | .ok v => .tup [.agg (eV v), .r (.int .i64 0)]
  | .error e => .tup [.agg (eV v0), .r (.int .i64 e)]
/-- What an op makes of values. -/
def evM (l : List CO) (r : List V) (o : OP) (a b : V) : Except Int V :=
  if o.k = 1 then .ok ⟨o.vk, o.vn, o.vs⟩
  else if o.k = 2 then (match r[(findM l o.nm).toNat]? with
    | some v => .ok v
    | none => .error 8)
  else if o.k = 5 ∨ o.k = 11 then toE (oneM o.k a.k a.n a.s)
  else toE (twoM o.k a.k a.n a.s b.k b.n b.s)
theorem oneM_err {k : Int} {a : V} (h : (oneM k a.k a.n a.s).2 ≠ 0) : (oneM k a.k a.n a.s).1 = nov := by
  unfold oneM at h ⊢
  repeat' split at h
  all_goals simp_all [nov]
theorem twoM_err {k : Int} {a b : V} (h : (twoM k a.k a.n a.s b.k b.n b.s).2 ≠ 0) : (twoM k a.k a.n a.s b.k b.n b.s).1 = nov := by
  unfold twoM logicM eqlM ariM at h ⊢
  repeat' split at h
  all_goals simp_all [nov]
theorem pair_one (k : Int) (a : V) : pairA (oneM k a.k a.n a.s) = evA (toE (oneM k a.k a.n a.s)) := by
  unfold toE
  by_cases h : (oneM k a.k a.n a.s).2 = 0
  · rw [if_pos h]; simp only [pairA, evA, h]
  · rw [if_neg h]; simp only [pairA, evA, oneM_err h, nov, v0]
theorem pair_two (k : Int) (a b : V) : pairA (twoM k a.k a.n a.s b.k b.n b.s) = evA (toE (twoM k a.k a.n a.s b.k b.n b.s)) := by
  unfold toE
  by_cases h : (twoM k a.k a.n a.s b.k b.n b.s).2 = 0
  · rw [if_pos h]; simp only [pairA, evA, h]
  · rw [if_neg h]; simp only [pairA, evA, twoM_err h, nov, v0]
theorem gV_v0 : gV v0 := ⟨Nat.zero_le _, by simp [v0, inI]⟩
theorem toE_ok {x : (Int × Int × ByteArray) × Int} {v : V} (hx : gV ⟨x.1.1, x.1.2.1, x.1.2.2⟩) (h : toE x = .ok v) : gV v := by
  unfold toE at h
  split at h
  · cases h; exact hx
  · cases h
theorem one_good {k : Int} {a v : V} (ha : gV a) (h : toE (oneM k a.k a.n a.s) = .ok v) : gV v := by
  have e0 : okS (⟨#[]⟩ : ByteArray) := gV_v0.1
  refine toE_ok ?_ h
  clear h
  unfold oneM
  repeat' split
  all_goals
    first
      | exact ha
      | exact gV_v0
      | (refine ⟨e0, ?_⟩; simp only [inI]; split <;> omega)
      | exact ⟨e0, by simp [inI]⟩
theorem wrap_in (n : Int) : inI (wrap64 n) := by
  simp only [inI, wrap64]; omega
theorem two_good {k : Int} {a b v : V} (ha : gV a) (hb : gV b) (h : toE (twoM k a.k a.n a.s b.k b.n b.s) = .ok v) : gV v := by
  have e0 : okS (⟨#[]⟩ : ByteArray) := gV_v0.1
  refine toE_ok ?_ h
  clear h
  unfold twoM logicM eqlM ariM
  repeat' split
  all_goals
    first
      | exact ha
      | exact hb
      | exact gV_v0
      | exact ⟨e0, wrap_in _⟩
      | (refine ⟨e0, ?_⟩; simp only [inI]; split <;> omega)
      | exact ⟨e0, by simp [inI]⟩
theorem ev_good {l : List CO} {r : List V} {o : OP} {a b v : V} (hr : ∀ v ∈ r, gV v) (ho : gV ⟨o.vk, o.vn, o.vs⟩) (ha : gV a) (hb : gV b) (h : evM l r o a b = .ok v) : gV v := by
  unfold evM at h
  split at h
  · cases h; exact ho
  split at h
  · split at h
    · rename_i hx; cases h; exact hr _ (List.mem_of_getElem? hx)
    · cases h
  split at h
  · exact one_good ha h
  · exact two_good ha hb h
theorem ev_err {l : List CO} {r : List V} {o : OP} {a b : V} {e : Int} (h : evM l r o a b = .error e) : e ≠ 0 := by
  unfold evM toE at h
  repeat' split at h
  all_goals first | (cases h; done) | skip
  · cases h; decide
  all_goals (simp only [Except.error.injEq] at h; rename_i h0; intro h1; exact h0 (by omega))
end Go.AM
/- Kinds: the reference's Begins. -/
namespace Go.AM
open Go Go.RowKit
open Go.Proofs.YtoecmmpjndcolaaGreatDoor (OP nameM litM exprM exprFrom stepM popsM)
attribute [local irreducible] AWP retA
theorem works2_con (G : List (Nat × List Value)) (k : Int) : Con Go.Proofs.Tryz.prog G 40 [.r (.int .i64 k)] [] 0 (Is (.r (.int .i64 (popsM k))) [] 0) No :=
  con_of_calls (by kernel_rfl) (fun w z vs hz hr hG => by
    obtain ⟨v, r, rfl, h1, h2⟩ := hr.head
    obtain rfl := h1.r_inv
    obtain rfl := h2.of_nil
    exact (Go.Proofs.YtoecmmpjndcolaaGreatDoor.works_any k w).mono (fun e w' ⟨he, hw⟩ => by subst hw; exact ⟨he, Below.refl _ _⟩))
/-- From behind: what is still wanted, and what stands ahead. -/
theorem cnt_step {α : Type} {ar : α → Nat} {l : List α} {i n : Nat} {o : α} (h : l[i]? = some o) : cnt ar (l.take (i + 1)).reverse (n + 1) = 1 + cnt ar (l.take i).reverse (n + ar o) := by
  rw [List.take_add_one, h]; simp [cnt]
set_option maxRecDepth 100000 in
set_option maxHeartbeats 4000000 in
theorem begins_con (G : List (Nat × List Value)) (t : Bool) (l : List OP) (e : Nat) (hl : l.length ≤ 1000) (he : e ≤ l.length) (hc : ∀ (i n : Nat), i ≤ e → cnt arO (l.take e).reverse 1 = (e - i) + cnt arO (l.take i).reverse (n + 1) → 0 < i) :
    Con Go.Proofs.Tryz.prog G 42 [.ro t 5 (l.map eO), .r (.int .i64 e)] [] 0 (Is (.r (.int .i64 (begM arO l e))) [] 0) No := by
  refine con_of_awp Go.Proofs.Tryz.func42 rfl (by kernel_rfl) (of_decide_eq_true (by kernel_rfl)) ?_; intro E hG hE; subst hG; simp only [ent]
  (repeat' (first | refine awp_seq ?_ | refine awp_block ?_ | refine awp_skip ?_ | refine awp_exit ?_ | ((first | refine rR (fun K kp hK hkp => ?_) | refine iG ?_); simp (implicitDefEqProofs := false) (maxSteps := 2000000) (disch := omega) only [go_sem]; (repeat' (first | (refine hK _ ?_; clear hK hkp kp K) | (with_reducible refine And.intro ?_ ?_) | omega))) | ((first | refine aG (fun h => ?_) (fun h => ?_) | refine aD (fun h => ?_) (fun h => ?_) | refine aX (fun h => ?_) (fun h => ?_)) <;> simp only [h]) | refine awp_cond_t rfl ?_ | refine awp_cond_f rfl ?_ | ((refine awp_cond rfl (fun h => ?_) (fun h => ?_) <;> try simp only [ifs] at h) <;> (try (exfalso; omega))) | refine awp_ret ?_))
  refine awp_loop (fun q : Nat × Nat => ⟨[(6, .r (.int .i64 q.1)), (5, .r (.int .i64 q.2)), (0, .ro t 5 (l.map eO))], [], 0⟩) (fun q => q.1 ≤ e ∧ q.2 ≤ 1 + 2 * (e - q.1) ∧ cnt arO (l.take e).reverse 1 = (e - q.1) + cnt arO (l.take q.1).reverse q.2) (fun q => q.1) (e, 1) ?_ ?_ ?_
  · exact ⟨Nat.le_refl _, by simp, by simp⟩
  · (refine emb [] ?_ ?_ rfl ?_ ?_ ?_ ?_ <;> simp [okM, okO, lk, ren, renL, renNd, by_, hE] <;> (try omega))
  rintro ⟨i, n⟩ ⟨hi, hn, hno⟩
  simp only at hi hn hno ⊢
  cases n with
  | zero =>
    have hb : begM arO l e = i := by unfold begM; rw [hno]; simp [cnt]; omega
    (repeat' (first | refine awp_seq ?_ | refine awp_block ?_ | refine awp_skip ?_ | refine awp_exit ?_ | ((first | refine rR (fun K kp hK hkp => ?_) | refine iG ?_); simp (implicitDefEqProofs := false) (maxSteps := 2000000) (disch := omega) only [go_sem]; (repeat' (first | (refine hK _ ?_; clear hK hkp kp K) | (with_reducible refine And.intro ?_ ?_) | omega))) | ((first | refine aG (fun h => ?_) (fun h => ?_) | refine aD (fun h => ?_) (fun h => ?_) | refine aX (fun h => ?_) (fun h => ?_)) <;> simp only [h]) | refine awp_cond_t rfl ?_ | refine awp_cond_f rfl ?_ | ((refine awp_cond rfl (fun h => ?_) (fun h => ?_) <;> try simp only [ifs] at h) <;> (try (exfalso; omega))) | refine awp_ret ?_))
    (refine retA_is (by (simp (implicitDefEqProofs := false) (maxSteps := 2000000) (disch := omega) only [go_sem, Go.Proofs.Tryz.results42, hb]); rfl) ?_; refine eN hE ?_; simp [oneA, ren, renL, hb])
  | succ n =>
    have h0 := hc i n hi hno
    obtain ⟨j, rfl⟩ : ∃ j, i = j + 1 := ⟨i - 1, by omega⟩
    obtain ⟨o, hx⟩ : ∃ o, l[j]? = some o := ⟨l[j]'(by omega), by simp⟩
    rw [cnt_step hx] at hno
    have wc := works2_con E.G o.k
    have hpb := Go.Proofs.YtoecmmpjndcolaaGreatDoor.popsM_bd o.k
    have hpa : popsM o.k = (arO o : Nat) := by unfold arO; omega
    have e1 : ((j + 1 : Nat) : Int) - 1 = (j : Nat) := by omega
    have e2 : ((n + 1 : Nat) : Int) - 1 = (n : Nat) := by omega
    have e3 : (n : Int) + (arO o : Nat) = (n + arO o : Nat) := by omega
    (repeat' (first | refine awp_seq ?_ | refine awp_block ?_ | refine awp_skip ?_ | refine awp_exit ?_ | ((first | refine rR (fun K kp hK hkp => ?_) | refine cR wc ?_ | refine iG ?_); simp (implicitDefEqProofs := false) (maxSteps := 2000000) (disch := omega) only [go_sem, hx, eO, e1, e2, hpa, Int.toNat_natCast, Int.natCast_nonneg]; (repeat' (first | (refine hK _ ?_; clear hK hkp kp K) | (with_reducible refine And.intro ?_ ?_) | omega))) | ((first | refine aG (fun h => ?_) (fun h => ?_) | refine aD (fun h => ?_) (fun h => ?_) | refine aX (fun h => ?_) (fun h => ?_)) <;> simp only [h]) | refine awp_cond_t rfl ?_ | refine awp_cond_f rfl ?_ | ((refine awp_cond rfl (fun h => ?_) (fun h => ?_) <;> try simp only [ifs] at h) <;> (try (exfalso; omega))) | refine awp_ret ?_))
    ((first | (refine nextB ((j, n + arO o)) ?_ ?_ ?_) | (refine nextA ((j, n + arO o)) ?_ ?_ ?_)); rotate_left; (· (try dsimp only); (first | omega | (simp only [List.length_drop, List.length_cons, List.length_append]; omega) | (simp; done) | (simp; omega))); (· (refine emb [] ?_ ?_ rfl ?_ ?_ ?_ ?_ <;> simp [okM, okO, lk, ren, renL, renNd, by_, hE] <;> (try omega))))
    refine ⟨by omega, by dsimp only; omega, by dsimp only; omega⟩
end Go.AM
/- Kinds: expr.fold. -/
namespace Go.AM
open Go Go.RowKit
open Go.Proofs.YtoecmmpjndcolaaGreatDoor (OP nameM litM exprM exprFrom stepM popsM)
attribute [local irreducible] AWP retA
def foldR (x : Except Int (List Int)) : AV := match x with
  | .error e => madeA (.error e)
  | .ok st => madeA (.ok (st.getD 0 0))
theorem made_err {l : List CO} {o : OP} {a b e : Int} (h : madeM l o a b = .error e) : e ≠ 0 := by
  unfold madeM at h
  repeat' split at h
  all_goals cases h
  all_goals decide
theorem hgt_step {o : OP} {r : List OP} {n m : Nat} (h : hgt arO (o :: r) n = some m) : arO o ≤ n ∧ hgt arO r (n + 1 - arO o) = some m := by
  unfold hgt at h
  split at h
  · cases h
  · exact ⟨by omega, h⟩
set_option maxRecDepth 100000 in
set_option maxHeartbeats 8000000 in
theorem fold_con (G : List (Nat × List Value)) (u t : Bool) (l : List CO) (ops : List OP) (hl : l.length ≤ 1048576) (ho : ops.length ≤ 40) (hk : ∀ o ∈ ops, 1 ≤ o.k ∧ o.k ≤ 11) (hh : hgt arO ops 0 = some 1) :
    Con Go.Proofs.Tryz.prog G 55 [.ro t 5 (ops.map eO), .fn 56 [.re u [.ro true 2 (l.map eC)] 0]] [] 0 (Is (foldR (foldS arO (madeM l) 0 ops [])) [] 0) No := by
  refine con_of_awp Go.Proofs.Tryz.func55 rfl (by kernel_rfl) (of_decide_eq_true (by kernel_rfl)) ?_; intro E hG hE; subst hG; simp only [ent]
  (repeat' (first | refine awp_seq ?_ | refine awp_block ?_ | refine awp_skip ?_ | refine awp_exit ?_ | ((first | refine rR (fun K kp hK hkp => ?_) | refine iG ?_); simp (implicitDefEqProofs := false) (maxSteps := 2000000) (disch := omega) only [go_sem]; (repeat' (first | (refine hK _ ?_; clear hK hkp kp K) | (with_reducible refine And.intro ?_ ?_) | omega))) | ((first | refine aG (fun h => ?_) (fun h => ?_) | refine aD (fun h => ?_) (fun h => ?_) | refine aX (fun h => ?_) (fun h => ?_)) <;> simp only [h]) | refine awp_cond_t rfl ?_ | refine awp_cond_f rfl ?_ | ((refine awp_cond rfl (fun h => ?_) (fun h => ?_) <;> try simp only [ifs] at h) <;> (try (exfalso; omega))) | refine awp_ret ?_))
  (refine AWP.emb (emb_nil 7 3 1 ?_) ?_; (· rfl); dsimp only)
  refine awp_loop (fun q : Nat × List Int => ⟨[(18, .r (.int .i64 q.1)), (17, .r (.int .i64 ops.length)), (16, .ro t 5 (ops.map eO)), (7, .s 0 0 q.2.length), (1, .fn 56 [.re u [.ro true 2 (l.map eC)] 0]), (6, .r (.int .i64 0))], [(0, .lst 3 1 (q.2.map eI))], 1⟩)
    (fun q => q.1 ≤ ops.length ∧ q.2.length ≤ q.1 ∧ foldS arO (madeM l) 0 (ops.drop q.1) q.2 = foldS arO (madeM l) 0 ops [] ∧ hgt arO (ops.drop q.1) q.2.length = some 1) (fun q => ops.length - q.1) (0, []) ?_ ?_ ?_
  · exact ⟨by simp, by simp, by simp, by simpa using hh⟩
  · (refine emb [0] ?_ ?_ rfl ?_ ?_ ?_ ?_ <;> simp [okM, okO, lk, ren, renL, renNd, by_, hE] <;> (try omega))
  rintro ⟨k, st⟩ ⟨hkl, hsl, hno, hg⟩
  simp only at hkl hsl hno hg ⊢
  by_cases hlt : k < ops.length
  · obtain ⟨o, hx⟩ : ∃ x, ops[k]? = some x := ⟨ops[k], by simp [hlt]⟩
    obtain ⟨g1, g11⟩ := hk o (List.mem_of_getElem? hx)
    rw [drop_at hx] at hno hg
    obtain ⟨har, hg2⟩ := hgt_step hg
    have wc := works_con E.G o g1 g11
    rw [foldS] at hno
    have h2 := arO_le o
    obtain h0 | h0 | h0 : arO o = 0 ∨ arO o = 1 ∨ arO o = 2 := by omega
    · rw [h0] at wc hno hg2
      simp only [Int.cast_ofNat_Int] at wc
      have em : ((st.length : Int) - 0) = (st.length : Int) := by omega
      simp only [Nat.lt_irrefl, if_false, Nat.sub_zero, List.take_length, show ¬ 1 < 0 by omega] at hno
      have kc := kindOf1_con E.G u true l o 0 0 hl g1 g11
      cases hm : madeM l o 0 0 with
      | error e =>
        rw [hm] at kc hno; simp only [madeA, eO] at kc
        have he : (e != 0) = true := by simp [made_err hm]
        (repeat' (first | refine awp_seq ?_ | refine awp_block ?_ | refine awp_skip ?_ | refine awp_exit ?_ | ((first | refine rR (fun K kp hK hkp => ?_) | refine cR wc ?_ | refine cR kc ?_ | refine iG ?_); simp (implicitDefEqProofs := false) (maxSteps := 2000000) (disch := omega) only [go_sem, hx, eO, eI, he, em]; (repeat' (first | (refine hK _ ?_; clear hK hkp kp K) | (with_reducible refine And.intro ?_ ?_) | omega))) | ((first | refine aG (fun h => ?_) (fun h => ?_) | refine aD (fun h => ?_) (fun h => ?_) | refine aX (fun h => ?_) (fun h => ?_)) <;> simp only [h]) | refine awp_cond_t rfl ?_ | refine awp_cond_f rfl ?_ | ((refine awp_cond rfl (fun h => ?_) (fun h => ?_) <;> try simp only [ifs] at h) <;> (try (exfalso; omega))) | refine awp_ret ?_))
        rw [← hno]
        simp only [foldR, madeA]
        (refine retA_is (by (simp (implicitDefEqProofs := false) (maxSteps := 2000000) (disch := omega) only [go_sem, Go.Proofs.Tryz.results55]); rfl) ?_; refine eN hE ?_; simp [oneA, ren, renL])
      | ok x =>
        rw [hm] at kc hno; simp only [madeA, eO] at kc
        (repeat' (first | refine awp_seq ?_ | refine awp_block ?_ | refine awp_skip ?_ | refine awp_exit ?_ | ((first | refine rR (fun K kp hK hkp => ?_) | refine cR wc ?_ | refine cR kc ?_ | refine iG ?_); simp (implicitDefEqProofs := false) (maxSteps := 2000000) (disch := omega) only [go_sem, hx, eO, eI, em]; (repeat' (first | (refine hK _ ?_; clear hK hkp kp K) | (with_reducible refine And.intro ?_ ?_) | omega))) | ((first | refine aG (fun h => ?_) (fun h => ?_) | refine aD (fun h => ?_) (fun h => ?_) | refine aX (fun h => ?_) (fun h => ?_)) <;> simp only [h]) | refine awp_cond_t rfl ?_ | refine awp_cond_f rfl ?_ | ((refine awp_cond rfl (fun h => ?_) (fun h => ?_) <;> try simp only [ifs] at h) <;> (try (exfalso; omega))) | refine awp_ret ?_))
        ((first | (refine nextB ((k + 1, st ++ [x])) ?_ ?_ ?_) | (refine nextA ((k + 1, st ++ [x])) ?_ ?_ ?_)); rotate_left; (· (try dsimp only); (first | omega | (simp only [List.length_drop, List.length_cons, List.length_append]; omega) | (simp; done) | (simp; omega))); (· (refine emb [3] ?_ ?_ rfl ?_ ?_ ?_ ?_ <;> simp [okM, okO, lk, ren, renL, renNd, by_, hE, eI, hx] <;> (try omega))))
        exact ⟨by omega, by simp; omega, hno, by first | (rw [← hg2]; congr 1; simp; done) | (rw [← hg2]; congr 1; simp; omega)⟩
    · rw [h0] at wc hno hg2
      simp only [Int.cast_ofNat_Int] at wc
      obtain ⟨m, hm0⟩ : ∃ m, st.length = m + 1 := ⟨st.length - 1, by omega⟩
      have em : ((st.length : Int) - 1) = (m : Int) := by omega
      have em2 : st.length - 1 = m := by omega
      obtain ⟨a, ha⟩ : ∃ a, st[m]? = some a := ⟨st[m]'(by omega), by simp⟩
      have l1 : ((m : Int) < (st.length : Int)) = True := eq_true (by omega)
      have ga : st.getD m 0 = a := by rw [List.getD, ha]; rfl
      simp only [em2, show 0 < 1 by omega, Nat.lt_irrefl, if_true, if_false, ga] at hno
      have kc := kindOf1_con E.G u true l o a 0 hl g1 g11
      cases hm : madeM l o a 0 with
      | error e =>
        rw [hm] at kc hno; simp only [madeA, eO] at kc
        have he : (e != 0) = true := by simp [made_err hm]
        (repeat' (first | refine awp_seq ?_ | refine awp_block ?_ | refine awp_skip ?_ | refine awp_exit ?_ | ((first | refine rR (fun K kp hK hkp => ?_) | refine cR wc ?_ | refine cR kc ?_ | refine iG ?_); simp (implicitDefEqProofs := false) (maxSteps := 2000000) (disch := omega) only [go_sem, hx, eO, eI, he, em, ha, l1]; (repeat' (first | (refine hK _ ?_; clear hK hkp kp K) | (with_reducible refine And.intro ?_ ?_) | omega))) | ((first | refine aG (fun h => ?_) (fun h => ?_) | refine aD (fun h => ?_) (fun h => ?_) | refine aX (fun h => ?_) (fun h => ?_)) <;> simp only [h]) | refine awp_cond_t rfl ?_ | refine awp_cond_f rfl ?_ | ((refine awp_cond rfl (fun h => ?_) (fun h => ?_) <;> try simp only [ifs] at h) <;> (try (exfalso; omega))) | refine awp_ret ?_))
        rw [← hno]
        simp only [foldR, madeA]
        (refine retA_is (by (simp (implicitDefEqProofs := false) (maxSteps := 2000000) (disch := omega) only [go_sem, Go.Proofs.Tryz.results55]); rfl) ?_; refine eN hE ?_; simp [oneA, ren, renL])
      | ok x =>
        rw [hm] at kc hno; simp only [madeA, eO] at kc
        (repeat' (first | refine awp_seq ?_ | refine awp_block ?_ | refine awp_skip ?_ | refine awp_exit ?_ | ((first | refine rR (fun K kp hK hkp => ?_) | refine cR wc ?_ | refine cR kc ?_ | refine iG ?_); simp (implicitDefEqProofs := false) (maxSteps := 2000000) (disch := omega) only [go_sem, hx, eO, eI, em, ha, l1]; (repeat' (first | (refine hK _ ?_; clear hK hkp kp K) | (with_reducible refine And.intro ?_ ?_) | omega))) | ((first | refine aG (fun h => ?_) (fun h => ?_) | refine aD (fun h => ?_) (fun h => ?_) | refine aX (fun h => ?_) (fun h => ?_)) <;> simp only [h]) | refine awp_cond_t rfl ?_ | refine awp_cond_f rfl ?_ | ((refine awp_cond rfl (fun h => ?_) (fun h => ?_) <;> try simp only [ifs] at h) <;> (try (exfalso; omega))) | refine awp_ret ?_))
        ((first | (refine nextB ((k + 1, st.take m ++ [x])) ?_ ?_ ?_) | (refine nextA ((k + 1, st.take m ++ [x])) ?_ ?_ ?_)); rotate_left; (· (try dsimp only); (first | omega | (simp only [List.length_drop, List.length_cons, List.length_append]; omega) | (simp; done) | (simp; omega))); (· (refine emb [3] ?_ ?_ rfl ?_ ?_ ?_ ?_ <;> simp [okM, okO, lk, ren, renL, renNd, by_, hE, eI, List.map_take] <;> (try omega))))
        exact ⟨by omega, by simp; omega, hno, by first | (rw [← hg2]; congr 1; simp; done) | (rw [← hg2]; congr 1; simp; omega)⟩
    · rw [h0] at wc hno hg2
      simp only [Int.cast_ofNat_Int] at wc
      obtain ⟨m, hm0⟩ : ∃ m, st.length = m + 2 := ⟨st.length - 2, by omega⟩
      have em : ((st.length : Int) - 2) = (m : Int) := by omega
      have em2 : st.length - 2 = m := by omega
      obtain ⟨a, ha⟩ : ∃ a, st[m]? = some a := ⟨st[m]'(by omega), by simp⟩
      have l1 : ((m : Int) < (st.length : Int)) = True := eq_true (by omega)
      have ga : st.getD m 0 = a := by rw [List.getD, ha]; rfl
      obtain ⟨b, hb⟩ : ∃ b, st[m + 1]? = some b := ⟨st[m + 1]'(by omega), by simp⟩
      have l2 : ((m : Int) + 1 < (st.length : Int)) = True := eq_true (by omega)
      have gb : st.getD (m + 1) 0 = b := by rw [List.getD, hb]; rfl
      simp only [em2, show 0 < 2 by omega, show 1 < 2 by omega, if_true, ga, gb] at hno
      have kc := kindOf1_con E.G u true l o a b hl g1 g11
      cases hm : madeM l o a b with
      | error e =>
        rw [hm] at kc hno; simp only [madeA, eO] at kc
        have he : (e != 0) = true := by simp [made_err hm]
        (repeat' (first | refine awp_seq ?_ | refine awp_block ?_ | refine awp_skip ?_ | refine awp_exit ?_ | ((first | refine rR (fun K kp hK hkp => ?_) | refine cR wc ?_ | refine cR kc ?_ | refine iG ?_); simp (implicitDefEqProofs := false) (maxSteps := 2000000) (disch := omega) only [go_sem, hx, eO, eI, he, em, ha, l1, hb, l2]; (repeat' (first | (refine hK _ ?_; clear hK hkp kp K) | (with_reducible refine And.intro ?_ ?_) | omega))) | ((first | refine aG (fun h => ?_) (fun h => ?_) | refine aD (fun h => ?_) (fun h => ?_) | refine aX (fun h => ?_) (fun h => ?_)) <;> simp only [h]) | refine awp_cond_t rfl ?_ | refine awp_cond_f rfl ?_ | ((refine awp_cond rfl (fun h => ?_) (fun h => ?_) <;> try simp only [ifs] at h) <;> (try (exfalso; omega))) | refine awp_ret ?_))
        rw [← hno]
        simp only [foldR, madeA]
        (refine retA_is (by (simp (implicitDefEqProofs := false) (maxSteps := 2000000) (disch := omega) only [go_sem, Go.Proofs.Tryz.results55]); rfl) ?_; refine eN hE ?_; simp [oneA, ren, renL])
      | ok x =>
        rw [hm] at kc hno; simp only [madeA, eO] at kc
        (repeat' (first | refine awp_seq ?_ | refine awp_block ?_ | refine awp_skip ?_ | refine awp_exit ?_ | ((first | refine rR (fun K kp hK hkp => ?_) | refine cR wc ?_ | refine cR kc ?_ | refine iG ?_); simp (implicitDefEqProofs := false) (maxSteps := 2000000) (disch := omega) only [go_sem, hx, eO, eI, em, ha, l1, hb, l2]; (repeat' (first | (refine hK _ ?_; clear hK hkp kp K) | (with_reducible refine And.intro ?_ ?_) | omega))) | ((first | refine aG (fun h => ?_) (fun h => ?_) | refine aD (fun h => ?_) (fun h => ?_) | refine aX (fun h => ?_) (fun h => ?_)) <;> simp only [h]) | refine awp_cond_t rfl ?_ | refine awp_cond_f rfl ?_ | ((refine awp_cond rfl (fun h => ?_) (fun h => ?_) <;> try simp only [ifs] at h) <;> (try (exfalso; omega))) | refine awp_ret ?_))
        ((first | (refine nextB ((k + 1, st.take m ++ [x])) ?_ ?_ ?_) | (refine nextA ((k + 1, st.take m ++ [x])) ?_ ?_ ?_)); rotate_left; (· (try dsimp only); (first | omega | (simp only [List.length_drop, List.length_cons, List.length_append]; omega) | (simp; done) | (simp; omega))); (· (refine emb [3] ?_ ?_ rfl ?_ ?_ ?_ ?_ <;> simp [okM, okO, lk, ren, renL, renNd, by_, hE, eI, List.map_take] <;> (try omega))))
        exact ⟨by omega, by simp; omega, hno, by first | (rw [← hg2]; congr 1; simp; done) | (rw [← hg2]; congr 1; simp; omega)⟩
  · have hgz : st.length = 1 := by rw [List.drop_of_length_le (by omega)] at hg; simpa [hgt] using hg
    obtain ⟨x, rfl⟩ : ∃ x, st = [x] := List.length_eq_one_iff.1 hgz
    rw [List.drop_of_length_le (by omega), foldS] at hno
    rw [← hno]
    simp only [foldR, madeA]
    (repeat' (first | refine awp_seq ?_ | refine awp_block ?_ | refine awp_skip ?_ | refine awp_exit ?_ | ((first | refine rR (fun K kp hK hkp => ?_) | refine iG ?_); simp (implicitDefEqProofs := false) (maxSteps := 2000000) (disch := omega) only [go_sem, eI]; (repeat' (first | (refine hK _ ?_; clear hK hkp kp K) | (with_reducible refine And.intro ?_ ?_) | omega))) | ((first | refine aG (fun h => ?_) (fun h => ?_) | refine aD (fun h => ?_) (fun h => ?_) | refine aX (fun h => ?_) (fun h => ?_)) <;> simp only [h]) | refine awp_cond_t rfl ?_ | refine awp_cond_f rfl ?_ | ((refine awp_cond rfl (fun h => ?_) (fun h => ?_) <;> try simp only [ifs] at h) <;> (try (exfalso; omega))) | refine awp_ret ?_))
    (refine retA_is (by (simp (implicitDefEqProofs := false) (maxSteps := 2000000) (disch := omega) only [go_sem, Go.Proofs.Tryz.results55, eI]); rfl) ?_; refine eN hE ?_; simp [oneA, ren, renL, eI])
end Go.AM
/- Kinds: the reference's kindOf: from the last op down. -/
namespace Go.AM
open Go Go.RowKit
open Go.Proofs.YtoecmmpjndcolaaGreatDoor (OP nameM litM exprM exprFrom stepM popsM)
attribute [local irreducible] AWP retA
theorem evT_err {l : List CO} : ∀ {tr : RT OP} {e : Int}, evT (madeM l) 0 tr = .error e → e ≠ 0
  | .l o, e, h => made_err h
  | .u o s, e, h => by
    rw [evT] at h
    split at h
    · rename_i e' h'; cases h; exact evT_err h'
    · exact made_err h
  | .b o s t, e, h => by
    rw [evT] at h
    split at h
    · rename_i e' h'; cases h; exact evT_err h'
    split at h
    · rename_i e' h'; cases h; exact evT_err h'
    · exact made_err h
theorem ar_ks {o : OP} (h1 : 1 ≤ o.k) (h11 : o.k ≤ 11) : (arO o = 0 → o.k = 1 ∨ o.k = 2) ∧ (arO o = 1 → o.k = 5 ∨ o.k = 11) ∧ (arO o = 2 → o.k = 3 ∨ o.k = 4 ∨ o.k = 6 ∨ o.k = 7 ∨ o.k = 8 ∨ o.k = 9 ∨ o.k = 10) := by
  obtain h | h | h | h | h | h | h | h | h | h | h : o.k = 1 ∨ o.k = 2 ∨ o.k = 3 ∨ o.k = 4 ∨ o.k = 5 ∨ o.k = 6 ∨ o.k = 7 ∨ o.k = 8 ∨ o.k = 9 ∨ o.k = 10 ∨ o.k = 11 := by omega
  all_goals simp [arO, popsM, h]
set_option maxRecDepth 100000 in
set_option maxHeartbeats 8000000 in
theorem kindOfR_con (G : List (Nat × List Value)) (u t : Bool) (l : List CO) (hl : l.length ≤ 1048576) : ∀ tr : RT OP, tr.wf arO → (∀ o ∈ tr.flat, 1 ≤ o.k ∧ o.k ≤ 11) → tr.flat.length ≤ 1000 → Con Go.Proofs.Tryz.prog G 38 [.ro u 2 (l.map eC), .ro t 5 (tr.flat.map eO)] [] 0 (Is (madeA (evT (madeM l) 0 tr)) [] 0) No
  | .l o, hw, hk, hn => by
    obtain ⟨k1, k11⟩ := hk o (by simp [RT.flat])
    simp only [RT.wf] at hw
    simp only [RT.flat, List.map_cons, List.map_nil, evT]
    refine con_of_awp Go.Proofs.Tryz.func38 rfl (by kernel_rfl) (of_decide_eq_true (by kernel_rfl)) ?_; intro E hG hE; subst hG; simp only [ent]
    have fc := colOf_con E.G u l o.nm hl
    obtain h | h := (ar_ks k1 k11).1 hw
    · (repeat' (first | refine awp_seq ?_ | refine awp_block ?_ | refine awp_skip ?_ | refine awp_exit ?_ | ((first | refine rR (fun K kp hK hkp => ?_) | refine iG ?_); simp (implicitDefEqProofs := false) (maxSteps := 2000000) (disch := omega) only [go_sem, eO, h]; (repeat' (first | (refine hK _ ?_; clear hK hkp kp K) | (with_reducible refine And.intro ?_ ?_) | omega))) | ((first | refine aG (fun h => ?_) (fun h => ?_) | refine aD (fun h => ?_) (fun h => ?_) | refine aX (fun h => ?_) (fun h => ?_)) <;> simp only [h]) | refine awp_cond_t rfl ?_ | refine awp_cond_f rfl ?_ | ((refine awp_cond rfl (fun h => ?_) (fun h => ?_) <;> try simp only [ifs] at h) <;> (try (exfalso; omega))) | refine awp_ret ?_))
      (refine retA_is (by (simp (implicitDefEqProofs := false) (maxSteps := 2000000) (disch := omega) only [go_sem, Go.Proofs.Tryz.results38, madeM, h, madeA]); rfl) ?_; refine eN hE ?_; simp [oneA, ren, renL, madeM, h, madeA])
    · by_cases hf : findM l o.nm < 0
      · have d1 : decide (findM l o.nm < 0) = true := decide_eq_true hf
        (repeat' (first | refine awp_seq ?_ | refine awp_block ?_ | refine awp_skip ?_ | refine awp_exit ?_ | ((first | refine rR (fun K kp hK hkp => ?_) | refine cR fc ?_ | refine iG ?_); simp (implicitDefEqProofs := false) (maxSteps := 2000000) (disch := omega) only [go_sem, eO, h, d1]; (repeat' (first | (refine hK _ ?_; clear hK hkp kp K) | (with_reducible refine And.intro ?_ ?_) | omega))) | ((first | refine aG (fun h => ?_) (fun h => ?_) | refine aD (fun h => ?_) (fun h => ?_) | refine aX (fun h => ?_) (fun h => ?_)) <;> simp only [h]) | refine awp_cond_t rfl ?_ | refine awp_cond_f rfl ?_ | ((refine awp_cond rfl (fun h => ?_) (fun h => ?_) <;> try simp only [ifs] at h) <;> (try (exfalso; omega))) | refine awp_ret ?_))
        (refine retA_is (by (simp (implicitDefEqProofs := false) (maxSteps := 2000000) (disch := omega) only [go_sem, Go.Proofs.Tryz.results38, madeM, h, hf, madeA]); rfl) ?_; refine eN hE ?_; simp [oneA, ren, renL, madeM, h, hf, madeA])
      · have d1 : decide (findM l o.nm < 0) = false := decide_eq_false hf
        obtain ⟨c, hc⟩ := findM_lt l o.nm hf
        have hg : (0 ≤ findM l o.nm) = True := eq_true (by omega)
        (repeat' (first | refine awp_seq ?_ | refine awp_block ?_ | refine awp_skip ?_ | refine awp_exit ?_ | ((first | refine rR (fun K kp hK hkp => ?_) | refine cR fc ?_ | refine iG ?_); simp (implicitDefEqProofs := false) (maxSteps := 2000000) (disch := omega) only [go_sem, eO, h, d1, hc, hg, eC]; (repeat' (first | (refine hK _ ?_; clear hK hkp kp K) | (with_reducible refine And.intro ?_ ?_) | omega))) | ((first | refine aG (fun h => ?_) (fun h => ?_) | refine aD (fun h => ?_) (fun h => ?_) | refine aX (fun h => ?_) (fun h => ?_)) <;> simp only [h]) | refine awp_cond_t rfl ?_ | refine awp_cond_f rfl ?_ | ((refine awp_cond rfl (fun h => ?_) (fun h => ?_) <;> try simp only [ifs] at h) <;> (try (exfalso; omega))) | refine awp_ret ?_))
        (refine retA_is (by (simp (implicitDefEqProofs := false) (maxSteps := 2000000) (disch := omega) only [go_sem, Go.Proofs.Tryz.results38, madeM, h, hf, hc, madeA]); rfl) ?_; refine eN hE ?_; simp [oneA, ren, renL, madeM, h, hf, hc, madeA])
  | .u o s, hw, hk, hn => by
    obtain ⟨hw1, hw2⟩ := hw
    obtain ⟨k1, k11⟩ := hk o (by simp [RT.flat])
    have ih := kindOfR_con G u t l hl s hw2 (fun x hx => hk x (by simp [RT.flat, hx])) (by simp [RT.flat] at hn; omega)
    obtain ⟨ops, hops⟩ : ∃ ops, ops = (RT.u o s).flat := ⟨_, rfl⟩
    rw [← hops]
    obtain ⟨n, hne⟩ : ∃ n, n = s.flat.length := ⟨_, rfl⟩
    have hln : ops.length = n + 1 := by rw [hops, hne]; simp [RT.flat]
    have hx : ops[n]? = some o := by rw [hops, hne]; simp [RT.flat]
    have htk : ops.take n = s.flat := by rw [hops, hne]; simp [RT.flat]
    have e1 : (ops.length : Int) - 1 = (n : Nat) := by omega
    have hle : n ≤ 1000 := by rw [← hops] at hn; omega
    have hmt : s.flat.map eO = (ops.map eO).take n := by rw [← List.map_take, htk]
    rw [hmt] at ih
    have hle2 : (n : Int) ≤ ops.length := by omega
    have wc := works2_con G o.k
    have hpa : popsM o.k = 1 := by have := Go.Proofs.YtoecmmpjndcolaaGreatDoor.popsM_bd o.k; unfold arO at hw1; omega
    rw [hpa] at wc
    cases hm : evT (madeM l) 0 s with
    | error e =>
      have he : (e != 0) = true := by simp [evT_err hm]
      rw [show evT (madeM l) 0 (RT.u o s) = .error e by rw [evT, hm]]
      rw [hm] at ih; simp only [madeA] at ih ⊢
      obtain h | h := (ar_ks k1 k11).2.1 hw1
      all_goals
        rw [h] at wc
        refine con_of_awp Go.Proofs.Tryz.func38 rfl (by kernel_rfl) (of_decide_eq_true (by kernel_rfl)) ?_; intro E hG hE; subst hG; simp only [ent]
        (repeat' (first | refine awp_seq ?_ | refine awp_block ?_ | refine awp_skip ?_ | refine awp_exit ?_ | ((first | refine rR (fun K kp hK hkp => ?_) | refine cR wc ?_ | refine cR ih ?_ | refine iG ?_); simp (implicitDefEqProofs := false) (maxSteps := 2000000) (disch := omega) only [go_sem, eO, h, hx, e1, he]; (repeat' (first | (refine hK _ ?_; clear hK hkp kp K) | (with_reducible refine And.intro ?_ ?_) | omega))) | ((first | refine aG (fun h => ?_) (fun h => ?_) | refine aD (fun h => ?_) (fun h => ?_) | refine aX (fun h => ?_) (fun h => ?_)) <;> simp only [h]) | refine awp_cond_t rfl ?_ | refine awp_cond_f rfl ?_ | ((refine awp_cond rfl (fun h => ?_) (fun h => ?_) <;> try simp only [ifs] at h) <;> (try (exfalso; omega))) | refine awp_ret ?_))
        (refine retA_is (by (simp (implicitDefEqProofs := false) (maxSteps := 2000000) (disch := omega) only [go_sem, Go.Proofs.Tryz.results38]); rfl) ?_; refine eN hE ?_; simp [oneA, ren, renL])
    | ok a =>
      rw [show evT (madeM l) 0 (RT.u o s) = madeM l o a 0 by rw [evT, hm]]
      rw [hm] at ih; simp only [madeA] at ih
      obtain h | h := (ar_ks k1 k11).2.1 hw1
      · rw [h] at wc
        refine con_of_awp Go.Proofs.Tryz.func38 rfl (by kernel_rfl) (of_decide_eq_true (by kernel_rfl)) ?_; intro E hG hE; subst hG; simp only [ent]
        (repeat' (first | refine awp_seq ?_ | refine awp_block ?_ | refine awp_skip ?_ | refine awp_exit ?_ | ((first | refine rR (fun K kp hK hkp => ?_) | refine cR wc ?_ | refine cR ih ?_ | refine iG ?_); simp (implicitDefEqProofs := false) (maxSteps := 2000000) (disch := omega) only [go_sem, eO, h, hx, e1]; (repeat' (first | (refine hK _ ?_; clear hK hkp kp K) | (with_reducible refine And.intro ?_ ?_) | omega))) | ((first | refine aG (fun h => ?_) (fun h => ?_) | refine aD (fun h => ?_) (fun h => ?_) | refine aX (fun h => ?_) (fun h => ?_)) <;> simp only [h]) | refine awp_cond_t rfl ?_ | refine awp_cond_f rfl ?_ | ((refine awp_cond rfl (fun h => ?_) (fun h => ?_) <;> try simp only [ifs] at h) <;> (try (exfalso; omega))) | refine awp_ret ?_))
        all_goals (refine retA_is (by (simp (implicitDefEqProofs := false) (maxSteps := 2000000) (disch := omega) only [go_sem, Go.Proofs.Tryz.results38]); rfl) ?_; refine (embV_nil hE (by simp) ?_).s; clear hE hops wc ih; simp_all [oneA, ren, renL, madeM, madeA, isK])
      · rw [h] at wc
        refine con_of_awp Go.Proofs.Tryz.func38 rfl (by kernel_rfl) (of_decide_eq_true (by kernel_rfl)) ?_; intro E hG hE; subst hG; simp only [ent]
        (repeat' (first | refine awp_seq ?_ | refine awp_block ?_ | refine awp_skip ?_ | refine awp_exit ?_ | ((first | refine rR (fun K kp hK hkp => ?_) | refine cR wc ?_ | refine cR ih ?_ | refine iG ?_); simp (implicitDefEqProofs := false) (maxSteps := 2000000) (disch := omega) only [go_sem, eO, h, hx, e1]; (repeat' (first | (refine hK _ ?_; clear hK hkp kp K) | (with_reducible refine And.intro ?_ ?_) | omega))) | ((first | refine aG (fun h => ?_) (fun h => ?_) | refine aD (fun h => ?_) (fun h => ?_) | refine aX (fun h => ?_) (fun h => ?_)) <;> simp only [h]) | refine awp_cond_t rfl ?_ | refine awp_cond_f rfl ?_ | ((refine awp_cond rfl (fun h => ?_) (fun h => ?_) <;> try simp only [ifs] at h) <;> (try (exfalso; omega))) | refine awp_ret ?_))
        (refine retA_is (by (simp (implicitDefEqProofs := false) (maxSteps := 2000000) (disch := omega) only [go_sem, Go.Proofs.Tryz.results38, madeM, h, madeA]); rfl) ?_; refine eN hE ?_; simp [oneA, ren, renL, madeM, h, madeA])
  | .b o r s, hw, hk, hn => by
    obtain ⟨hw1, hw2, hw3⟩ := hw
    obtain ⟨k1, k11⟩ := hk o (by simp [RT.flat])
    have ihr := kindOfR_con G u t l hl r hw2 (fun x hx => hk x (by simp [RT.flat, hx])) (by simp [RT.flat] at hn; omega)
    have ihs := kindOfR_con G u t l hl s hw3 (fun x hx => hk x (by simp [RT.flat, hx])) (by simp [RT.flat] at hn; omega)
    obtain ⟨ops, hops⟩ : ∃ ops, ops = (RT.b o r s).flat := ⟨_, rfl⟩
    rw [← hops]
    obtain ⟨m, hme⟩ : ∃ m, m = r.flat.length := ⟨_, rfl⟩
    obtain ⟨n, hne⟩ : ∃ n, n = r.flat.length + s.flat.length := ⟨_, rfl⟩
    have hln : ops.length = n + 1 := by rw [hops, hne]; simp [RT.flat]; omega
    have hx : ops[n]? = some o := by rw [hops, hne, ← List.length_append]; simp only [RT.flat]; exact List.getElem?_concat_length
    have htk : ops.take n = r.flat ++ s.flat := by rw [hops, hne, ← List.length_append]; simp only [RT.flat]; exact List.take_left
    have htm : ops.take m = r.flat := by rw [hops, hme]; simp [RT.flat]
    have e1 : (ops.length : Int) - 1 = (n : Nat) := by omega
    have hle : n ≤ 1000 := by rw [← hops] at hn; omega
    have hmr : r.flat.map eO = (ops.map eO).take m := by rw [← List.map_take, htm]
    have hms : s.flat.map eO = ((ops.map eO).take n).drop m := by rw [← List.map_take, ← List.map_drop, htk, hme]; simp
    rw [hmr] at ihr
    rw [hms] at ihs
    have hbe : begM arO ops n = m := by rw [hops, hne, hme]; have := begM_tree (ar := arO) r.flat s [o] hw3; simpa [RT.flat] using this
    have bc := begins_con G t ops n (by rw [hops]; exact hn) (by omega) (by
      intro i k hi hc
      rcases Nat.eq_zero_or_pos i with rfl | h0
      · exfalso
        have hp := RT.flat_pos r
        unfold begM at hbe
        simp only [List.take_zero, List.reverse_nil, cnt, Nat.add_zero, Nat.sub_zero] at hc
        omega
      · exact h0)
    rw [hbe] at bc
    have wc := works2_con G o.k
    have hpa : popsM o.k = 2 := by have := Go.Proofs.YtoecmmpjndcolaaGreatDoor.popsM_bd o.k; unfold arO at hw1; omega
    rw [hpa] at wc
    cases hm1 : evT (madeM l) 0 r with
    | error e =>
      have he : (e != 0) = true := by simp [evT_err hm1]
      have he2 : (e == 0) = false := by simp [evT_err hm1]
      rw [show evT (madeM l) 0 (RT.b o r s) = .error e by rw [evT, hm1]]
      rw [hm1] at ihr; simp only [madeA] at ihr ⊢
      obtain h | h | h | h | h | h | h := (ar_ks k1 k11).2.2 hw1
      all_goals
        rw [h] at wc
        refine con_of_awp Go.Proofs.Tryz.func38 rfl (by kernel_rfl) (of_decide_eq_true (by kernel_rfl)) ?_; intro E hG hE; subst hG; simp only [ent]
        (repeat' (first | refine awp_seq ?_ | refine awp_block ?_ | refine awp_skip ?_ | refine awp_exit ?_ | ((first | refine rR (fun K kp hK hkp => ?_) | refine cR wc ?_ | refine cR ihr ?_ | refine cR bc ?_ | refine iG ?_); simp (implicitDefEqProofs := false) (maxSteps := 2000000) (disch := omega) only [go_sem, eO, h, hx, e1, he, he2]; (repeat' (first | (refine hK _ ?_; clear hK hkp kp K) | (with_reducible refine And.intro ?_ ?_) | omega))) | ((first | refine aG (fun h => ?_) (fun h => ?_) | refine aD (fun h => ?_) (fun h => ?_) | refine aX (fun h => ?_) (fun h => ?_)) <;> simp only [h]) | refine awp_cond_t rfl ?_ | refine awp_cond_f rfl ?_ | ((refine awp_cond rfl (fun h => ?_) (fun h => ?_) <;> try simp only [ifs] at h) <;> (try (exfalso; omega))) | refine awp_ret ?_))
        (refine retA_is (by (simp (implicitDefEqProofs := false) (maxSteps := 2000000) (disch := omega) only [go_sem, Go.Proofs.Tryz.results38]); rfl) ?_; refine eN hE ?_; simp [oneA, ren, renL])
    | ok a => 
    cases hm2 : evT (madeM l) 0 s with
    | error e =>
      have he : (e != 0) = true := by simp [evT_err hm2]
      rw [show evT (madeM l) 0 (RT.b o r s) = .error e by rw [evT, hm1, hm2]]
      rw [hm1] at ihr; rw [hm2] at ihs; simp only [madeA] at ihr ihs ⊢
      obtain h | h | h | h | h | h | h := (ar_ks k1 k11).2.2 hw1
      all_goals
        rw [h] at wc
        refine con_of_awp Go.Proofs.Tryz.func38 rfl (by kernel_rfl) (of_decide_eq_true (by kernel_rfl)) ?_; intro E hG hE; subst hG; simp only [ent]
        (repeat' (first | refine awp_seq ?_ | refine awp_block ?_ | refine awp_skip ?_ | refine awp_exit ?_ | ((first | refine rR (fun K kp hK hkp => ?_) | refine cR wc ?_ | refine cR ihs ?_ | refine cR ihr ?_ | refine cR bc ?_ | refine iG ?_); simp (implicitDefEqProofs := false) (maxSteps := 2000000) (disch := omega) only [go_sem, eO, h, hx, e1, he]; (repeat' (first | (refine hK _ ?_; clear hK hkp kp K) | (with_reducible refine And.intro ?_ ?_) | omega))) | ((first | refine aG (fun h => ?_) (fun h => ?_) | refine aD (fun h => ?_) (fun h => ?_) | refine aX (fun h => ?_) (fun h => ?_)) <;> simp only [h]) | refine awp_cond_t rfl ?_ | refine awp_cond_f rfl ?_ | ((refine awp_cond rfl (fun h => ?_) (fun h => ?_) <;> try simp only [ifs] at h) <;> (try (exfalso; omega))) | refine awp_ret ?_))
        (refine retA_is (by (simp (implicitDefEqProofs := false) (maxSteps := 2000000) (disch := omega) only [go_sem, Go.Proofs.Tryz.results38]); rfl) ?_; refine eN hE ?_; simp [oneA, ren, renL])
    | ok b =>
      rw [show evT (madeM l) 0 (RT.b o r s) = madeM l o a b by rw [evT, hm1, hm2]]
      rw [hm1] at ihr; rw [hm2] at ihs; simp only [madeA] at ihr ihs
      obtain h | h | h | h | h | h | h := (ar_ks k1 k11).2.2 hw1
      all_goals
        rw [h] at wc
        refine con_of_awp Go.Proofs.Tryz.func38 rfl (by kernel_rfl) (of_decide_eq_true (by kernel_rfl)) ?_; intro E hG hE; subst hG; simp only [ent]
        (repeat' (first | refine awp_seq ?_ | refine awp_block ?_ | refine awp_skip ?_ | refine awp_exit ?_ | ((first | refine rR (fun K kp hK hkp => ?_) | refine cR wc ?_ | refine cR ihs ?_ | refine cR ihr ?_ | refine cR bc ?_ | refine iG ?_); simp (implicitDefEqProofs := false) (maxSteps := 2000000) (disch := omega) only [go_sem, eO, h, hx, e1]; (repeat' (first | (refine hK _ ?_; clear hK hkp kp K) | (with_reducible refine And.intro ?_ ?_) | omega))) | ((first | refine aG (fun h => ?_) (fun h => ?_) | refine aD (fun h => ?_) (fun h => ?_) | refine aX (fun h => ?_) (fun h => ?_)) <;> simp only [h]) | refine awp_cond_t rfl ?_ | refine awp_cond_f rfl ?_ | ((refine awp_cond rfl (fun h => ?_) (fun h => ?_) <;> try simp only [ifs] at h) <;> (try (exfalso; omega))) | refine awp_ret ?_))
        all_goals (refine retA_is (by (simp (implicitDefEqProofs := false) (maxSteps := 2000000) (disch := omega) only [go_sem, Go.Proofs.Tryz.results38]); rfl) ?_; refine (embV_nil hE (by simp) ?_).s; clear hE hops wc ihs ihr bc; simp_all [oneA, ren, renL, madeM, madeA, isK])
end Go.AM
/- Values of expressions: the closure of expr.eval. -/
namespace Go.AM
open Go Go.RowKit
open Go.Proofs.YtoecmmpjndcolaaGreatDoor (OP nameM litM exprM exprFrom stepM popsM oneM twoM nov)
attribute [local irreducible] AWP retA
set_option maxRecDepth 100000 in
set_option maxHeartbeats 8000000 in
theorem eval1_con (G : List (Nat × List Value)) (u v : Bool) (l : List CO) (r : List V) (o : OP) (a b : V) (hl : l.length ≤ 1048576) (h1 : 1 ≤ o.k) (h11 : o.k ≤ 11) (ha : gV a) (hb : gV b) (hc : o.k = 2 → ¬ findM l o.nm < 0) (hlen : r.length = l.length) :
    Con Go.Proofs.Tryz.prog G 31 [.agg (eO o), .agg (eV a), .agg (eV b), .re u [.ro true 3 (r.map eV)] 0, .re v [.ro true 2 (l.map eC)] 0] [] 0 (Is (evA (evM l r o a b)) [] 0) No := by
  refine con_of_awp Go.Proofs.Tryz.func31 rfl (by kernel_rfl) (of_decide_eq_true (by kernel_rfl)) ?_; intro E hG hE; subst hG; simp only [ent]
  have wc := works_con E.G o h1 h11
  have oc := one_con E.G o.k a ha.1
  have tc := two_con E.G o.k a b ha.1 hb.1 ha.2 hb.2
  rw [pair_one] at oc
  rw [pair_two] at tc
  have fc := find_con E.G true l o.nm hl
  have hk := ar_ks h1 h11
  have h2 := arO_le o
  obtain h0 | h0 | h0 : arO o = 0 ∨ arO o = 1 ∨ arO o = 2 := by omega
  · rw [h0] at wc
    simp only [Int.cast_ofNat_Int] at wc
    obtain h | h := hk.1 h0
    · (repeat' (first | refine awp_seq ?_ | refine awp_block ?_ | refine awp_skip ?_ | refine awp_exit ?_ | ((first | refine rR (fun K kp hK hkp => ?_) | refine rD (id := 7) mixed 7 [0,1,2,3,4,5,6] (fun K kp hK hkp => ?_) | refine cR wc ?_ | refine cD wc ?_ | refine iG ?_ | refine iD ?_); simp (implicitDefEqProofs := false) (maxSteps := 2000000) (disch := omega) only [go_sem, eO, eV, h]; (repeat' (first | (refine hK _ ?_; clear hK hkp kp K) | (with_reducible refine And.intro ?_ ?_) | omega))) | ((first | refine aG (fun h => ?_) (fun h => ?_) | refine aD (fun h => ?_) (fun h => ?_) | refine aX (fun h => ?_) (fun h => ?_)) <;> simp only [h]) | refine awp_cond_t rfl ?_ | refine awp_cond_f rfl ?_ | ((refine awp_cond rfl (fun h => ?_) (fun h => ?_) <;> try simp only [ifs] at h) <;> (try (exfalso; omega))) | refine awp_ret ?_))
      (refine retA_is (by (simp (implicitDefEqProofs := false) (maxSteps := 2000000) (disch := omega) only [go_sem, Go.Proofs.Tryz.results31, evM, h, evA, eV]); rfl) ?_; refine eN hE ?_; simp [oneA, ren, renL, evM, h, evA, eV])
    · obtain ⟨c, hc'⟩ := findM_lt l o.nm (hc h)
      have hi : (findM l o.nm).toNat < r.length := by rw [hlen]; exact (List.getElem?_eq_some_iff.1 hc').1
      obtain ⟨x, hx⟩ : ∃ x, r[(findM l o.nm).toNat]? = some x := ⟨r[(findM l o.nm).toNat], by simp [hi]⟩
      have hg : (0 ≤ findM l o.nm) = True := eq_true (by have := hc h; omega)
      (repeat' (first | refine awp_seq ?_ | refine awp_block ?_ | refine awp_skip ?_ | refine awp_exit ?_ | ((first | refine rR (fun K kp hK hkp => ?_) | refine rD (id := 7) mixed 7 [0,1,2,3,4,5,6] (fun K kp hK hkp => ?_) | refine cR wc ?_ | refine cD wc ?_ | refine cR fc ?_ | refine cD fc ?_ | refine iG ?_ | refine iD ?_); simp (implicitDefEqProofs := false) (maxSteps := 2000000) (disch := omega) only [go_sem, eO, eV, h, hx, hg]; (repeat' (first | (refine hK _ ?_; clear hK hkp kp K) | (with_reducible refine And.intro ?_ ?_) | omega))) | ((first | refine aG (fun h => ?_) (fun h => ?_) | refine aD (fun h => ?_) (fun h => ?_) | refine aX (fun h => ?_) (fun h => ?_)) <;> simp only [h]) | refine awp_cond_t rfl ?_ | refine awp_cond_f rfl ?_ | ((refine awp_cond rfl (fun h => ?_) (fun h => ?_) <;> try simp only [ifs] at h) <;> (try (exfalso; omega))) | refine awp_ret ?_))
      (refine retA_is (by (simp (implicitDefEqProofs := false) (maxSteps := 2000000) (disch := omega) only [go_sem, Go.Proofs.Tryz.results31, evM, h, hx, evA, eV]); rfl) ?_; refine eN hE ?_; simp [oneA, ren, renL, evM, h, hx, evA, eV])
  · rw [h0] at wc
    simp only [Int.cast_ofNat_Int] at wc
    have he : evM l r o a b = toE (oneM o.k a.k a.n a.s) := by
      obtain h | h := hk.2.1 h0 <;> simp [evM, h]
    rw [he]
    cases hm : toE (oneM o.k a.k a.n a.s) with
    | error e =>
      rw [hm] at oc; simp only [evA, eV] at oc
      (repeat' (first | refine awp_seq ?_ | refine awp_block ?_ | refine awp_skip ?_ | refine awp_exit ?_ | ((first | refine rR (fun K kp hK hkp => ?_) | refine rD (id := 7) mixed 7 [0,1,2,3,4,5,6] (fun K kp hK hkp => ?_) | refine cR wc ?_ | refine cD wc ?_ | refine cR oc ?_ | refine cD oc ?_ | refine iG ?_ | refine iD ?_); simp (implicitDefEqProofs := false) (maxSteps := 2000000) (disch := omega) only [go_sem, eO, eV]; (repeat' (first | (refine hK _ ?_; clear hK hkp kp K) | (with_reducible refine And.intro ?_ ?_) | omega))) | ((first | refine aG (fun h => ?_) (fun h => ?_) | refine aD (fun h => ?_) (fun h => ?_) | refine aX (fun h => ?_) (fun h => ?_)) <;> simp only [h]) | refine awp_cond_t rfl ?_ | refine awp_cond_f rfl ?_ | ((refine awp_cond rfl (fun h => ?_) (fun h => ?_) <;> try simp only [ifs] at h) <;> (try (exfalso; omega))) | refine awp_ret ?_))
      (refine retA_is (by (simp (implicitDefEqProofs := false) (maxSteps := 2000000) (disch := omega) only [go_sem, Go.Proofs.Tryz.results31, evA, eV]); rfl) ?_; refine eN hE ?_; simp [oneA, ren, renL, evA, eV])
    | ok x =>
      rw [hm] at oc; simp only [evA, eV] at oc
      (repeat' (first | refine awp_seq ?_ | refine awp_block ?_ | refine awp_skip ?_ | refine awp_exit ?_ | ((first | refine rR (fun K kp hK hkp => ?_) | refine rD (id := 7) mixed 7 [0,1,2,3,4,5,6] (fun K kp hK hkp => ?_) | refine cR wc ?_ | refine cD wc ?_ | refine cR oc ?_ | refine cD oc ?_ | refine iG ?_ | refine iD ?_); simp (implicitDefEqProofs := false) (maxSteps := 2000000) (disch := omega) only [go_sem, eO, eV]; (repeat' (first | (refine hK _ ?_; clear hK hkp kp K) | (with_reducible refine And.intro ?_ ?_) | omega))) | ((first | refine aG (fun h => ?_) (fun h => ?_) | refine aD (fun h => ?_) (fun h => ?_) | refine aX (fun h => ?_) (fun h => ?_)) <;> simp only [h]) | refine awp_cond_t rfl ?_ | refine awp_cond_f rfl ?_ | ((refine awp_cond rfl (fun h => ?_) (fun h => ?_) <;> try simp only [ifs] at h) <;> (try (exfalso; omega))) | refine awp_ret ?_))
      (refine retA_is (by (simp (implicitDefEqProofs := false) (maxSteps := 2000000) (disch := omega) only [go_sem, Go.Proofs.Tryz.results31, evA, eV]); rfl) ?_; refine eN hE ?_; simp [oneA, ren, renL, evA, eV])
  · rw [h0] at wc
    simp only [Int.cast_ofNat_Int] at wc
    have he : evM l r o a b = toE (twoM o.k a.k a.n a.s b.k b.n b.s) := by
      obtain h | h | h | h | h | h | h := hk.2.2 h0 <;> simp [evM, h]
    rw [he]
    cases hm : toE (twoM o.k a.k a.n a.s b.k b.n b.s) with
    | error e =>
      rw [hm] at tc; simp only [evA, eV] at tc
      (repeat' (first | refine awp_seq ?_ | refine awp_block ?_ | refine awp_skip ?_ | refine awp_exit ?_ | ((first | refine rR (fun K kp hK hkp => ?_) | refine rD (id := 7) mixed 7 [0,1,2,3,4,5,6] (fun K kp hK hkp => ?_) | refine cR wc ?_ | refine cD wc ?_ | refine cR tc ?_ | refine cD tc ?_ | refine iG ?_ | refine iD ?_); simp (implicitDefEqProofs := false) (maxSteps := 2000000) (disch := omega) only [go_sem, eO, eV]; (repeat' (first | (refine hK _ ?_; clear hK hkp kp K) | (with_reducible refine And.intro ?_ ?_) | omega))) | ((first | refine aG (fun h => ?_) (fun h => ?_) | refine aD (fun h => ?_) (fun h => ?_) | refine aX (fun h => ?_) (fun h => ?_)) <;> simp only [h]) | refine awp_cond_t rfl ?_ | refine awp_cond_f rfl ?_ | ((refine awp_cond rfl (fun h => ?_) (fun h => ?_) <;> try simp only [ifs] at h) <;> (try (exfalso; omega))) | refine awp_ret ?_))
      (refine retA_is (by (simp (implicitDefEqProofs := false) (maxSteps := 2000000) (disch := omega) only [go_sem, Go.Proofs.Tryz.results31, evA, eV]); rfl) ?_; refine eN hE ?_; simp [oneA, ren, renL, evA, eV])
    | ok x =>
      rw [hm] at tc; simp only [evA, eV] at tc
      (repeat' (first | refine awp_seq ?_ | refine awp_block ?_ | refine awp_skip ?_ | refine awp_exit ?_ | ((first | refine rR (fun K kp hK hkp => ?_) | refine rD (id := 7) mixed 7 [0,1,2,3,4,5,6] (fun K kp hK hkp => ?_) | refine cR wc ?_ | refine cD wc ?_ | refine cR tc ?_ | refine cD tc ?_ | refine iG ?_ | refine iD ?_); simp (implicitDefEqProofs := false) (maxSteps := 2000000) (disch := omega) only [go_sem, eO, eV]; (repeat' (first | (refine hK _ ?_; clear hK hkp kp K) | (with_reducible refine And.intro ?_ ?_) | omega))) | ((first | refine aG (fun h => ?_) (fun h => ?_) | refine aD (fun h => ?_) (fun h => ?_) | refine aX (fun h => ?_) (fun h => ?_)) <;> simp only [h]) | refine awp_cond_t rfl ?_ | refine awp_cond_f rfl ?_ | ((refine awp_cond rfl (fun h => ?_) (fun h => ?_) <;> try simp only [ifs] at h) <;> (try (exfalso; omega))) | refine awp_ret ?_))
      (refine retA_is (by (simp (implicitDefEqProofs := false) (maxSteps := 2000000) (disch := omega) only [go_sem, Go.Proofs.Tryz.results31, evA, eV]); rfl) ?_; refine eN hE ?_; simp [oneA, ren, renL, evA, eV])
end Go.AM
/- Values of expressions: expr.fold over values. -/
namespace Go.AM
open Go Go.RowKit
open Go.Proofs.YtoecmmpjndcolaaGreatDoor (OP nameM litM exprM exprFrom stepM popsM)
attribute [local irreducible] AWP retA
def foldRV (x : Except Int (List V)) : AV := match x with
  | .error e => evA (.error e)
  | .ok st => evA (.ok (st.getD 0 v0))
theorem goods_snoc {st : List V} {m : Nat} {x : V} (h : ∀ v ∈ st, gV v) (hx : gV x) : ∀ v ∈ st.take m ++ [x], gV v := by
  intro v hv
  rcases List.mem_append.1 hv with hv | hv
  · exact h v (List.mem_of_mem_take hv)
  · simp only [List.mem_singleton] at hv; subst hv; exact hx
set_option maxRecDepth 100000 in
set_option maxHeartbeats 8000000 in
theorem foldV_con (G : List (Nat × List Value)) (u w t : Bool) (l : List CO) (r : List V) (ops : List OP) (hl : l.length ≤ 1048576) (hr : r.length ≤ 1048576) (hlen : r.length = l.length) (hgr : ∀ v ∈ r, gV v) (hgo : ∀ o ∈ ops, gV ⟨o.vk, o.vn, o.vs⟩) (hc : ∀ o ∈ ops, o.k = 2 → ¬ findM l o.nm < 0) (ho : ops.length ≤ 40) (hk : ∀ o ∈ ops, 1 ≤ o.k ∧ o.k ≤ 11) (hh : hgt arO ops 0 = some 1) :
    Con Go.Proofs.Tryz.prog G 30 [.ro t 5 (ops.map eO), .fn 31 [.re u [.ro true 3 (r.map eV)] 0, .re w [.ro true 2 (l.map eC)] 0]] [] 0 (Is (foldRV (foldS arO (evM l r) v0 ops [])) [] 0) No := by
  refine con_of_awp Go.Proofs.Tryz.func30 rfl (by kernel_rfl) (of_decide_eq_true (by kernel_rfl)) ?_; intro E hG hE; subst hG; simp only [ent]
  (repeat' (first | refine awp_seq ?_ | refine awp_block ?_ | refine awp_skip ?_ | refine awp_exit ?_ | ((first | refine rR (fun K kp hK hkp => ?_) | refine rD (id := 16) mixed 5 [0,1,2,3,4] (fun K kp hK hkp => ?_) | refine iG ?_ | refine iD ?_); simp (implicitDefEqProofs := false) (maxSteps := 2000000) (disch := omega) only [go_sem]; (repeat' (first | (refine hK _ ?_; clear hK hkp kp K) | (with_reducible refine And.intro ?_ ?_) | omega))) | ((first | refine aG (fun h => ?_) (fun h => ?_) | refine aD (fun h => ?_) (fun h => ?_) | refine aX (fun h => ?_) (fun h => ?_)) <;> simp only [h]) | refine awp_cond_t rfl ?_ | refine awp_cond_f rfl ?_ | ((refine awp_cond rfl (fun h => ?_) (fun h => ?_) <;> try simp only [ifs] at h) <;> (try (exfalso; omega))) | refine awp_ret ?_))
  (refine AWP.emb (emb_nil 7 26 3 ?_) ?_; (· rfl); dsimp only)
  refine awp_loop (fun q : Nat × List V => ⟨[(18, .r (.int .i64 q.1)), (17, .r (.int .i64 ops.length)), (16, .ro t 5 (ops.map eO)), (7, .s 2 0 q.2.length), (4, .p 0 0 0), (1, .fn 31 [.re u [.ro true 3 (r.map eV)] 0, .re w [.ro true 2 (l.map eC)] 0]), (6, .p 1 0 0)], [(0, .box 26 (eV v0)), (1, .box 26 (eV v0)), (2, .lst 26 3 (q.2.map eV))], 3⟩)
    (fun q => q.1 ≤ ops.length ∧ q.2.length ≤ q.1 ∧ foldS arO (evM l r) v0 (ops.drop q.1) q.2 = foldS arO (evM l r) v0 ops [] ∧ hgt arO (ops.drop q.1) q.2.length = some 1 ∧ ∀ v ∈ q.2, gV v) (fun q => ops.length - q.1) (0, []) ?_ ?_ ?_
  · exact ⟨by simp, by simp, by simp, by simpa using hh, by simp⟩
  · (refine emb [0, 1, 2] ?_ ?_ rfl ?_ ?_ ?_ ?_ <;> simp [okM, okO, lk, ren, renL, renNd, by_, hE, eV, v0] <;> (try omega))
  rintro ⟨k, st⟩ ⟨hkl, hsl, hno, hg, hgs⟩
  simp only at hkl hsl hno hg hgs ⊢
  by_cases hlt : k < ops.length
  · obtain ⟨o, hx⟩ : ∃ x, ops[k]? = some x := ⟨ops[k], by simp [hlt]⟩
    have ho' : o ∈ ops := List.mem_of_getElem? hx
    obtain ⟨g1, g11⟩ := hk o ho'
    rw [drop_at hx] at hno hg
    obtain ⟨har, hg2⟩ := hgt_step hg
    have wc := works_con E.G o g1 g11
    rw [foldS] at hno
    have h2 := arO_le o
    obtain h0 | h0 | h0 : arO o = 0 ∨ arO o = 1 ∨ arO o = 2 := by omega
    · rw [h0] at wc hno hg2
      simp only [Int.cast_ofNat_Int] at wc
      have em : ((st.length : Int) - 0) = (st.length : Int) := by omega
      simp only [Nat.lt_irrefl, if_false, Nat.sub_zero, List.take_length, show ¬ 1 < 0 by omega] at hno
      have kc := eval1_con E.G u w l r o v0 v0 hl g1 g11 gV_v0 gV_v0 (hc o ho') hlen
      cases hm : evM l r o v0 v0 with
      | error e =>
        rw [hm] at kc hno; simp only [evA, eO, eV, v0] at kc
        have he : (e != 0) = true := by simp [ev_err hm]
        (repeat' (first | refine awp_seq ?_ | refine awp_block ?_ | refine awp_skip ?_ | refine awp_exit ?_ | ((first | refine rR (fun K kp hK hkp => ?_) | refine rD (id := 16) mixed 5 [0,1,2,3,4] (fun K kp hK hkp => ?_) | refine cR wc ?_ | refine cD wc ?_ | refine cR kc ?_ | refine cD kc ?_ | refine iG ?_ | refine iD ?_); simp (implicitDefEqProofs := false) (maxSteps := 2000000) (disch := omega) only [go_sem, hx, eO, v0, eV, he, em]; (repeat' (first | (refine hK _ ?_; clear hK hkp kp K) | (with_reducible refine And.intro ?_ ?_) | omega))) | ((first | refine aG (fun h => ?_) (fun h => ?_) | refine aD (fun h => ?_) (fun h => ?_) | refine aX (fun h => ?_) (fun h => ?_)) <;> simp only [h]) | refine awp_cond_t rfl ?_ | refine awp_cond_f rfl ?_ | ((refine awp_cond rfl (fun h => ?_) (fun h => ?_) <;> try simp only [ifs] at h) <;> (try (exfalso; omega))) | refine awp_ret ?_))
        rw [← hno]
        simp only [foldRV, evA]
        (refine retA_is (by (simp (implicitDefEqProofs := false) (maxSteps := 2000000) (disch := omega) only [go_sem, Go.Proofs.Tryz.results30, eV, v0]); rfl) ?_; refine eN hE ?_; simp [oneA, ren, renL, eV, v0])
      | ok x =>
        rw [hm] at kc hno; simp only [evA, eO, eV, v0] at kc
        (repeat' (first | refine awp_seq ?_ | refine awp_block ?_ | refine awp_skip ?_ | refine awp_exit ?_ | ((first | refine rR (fun K kp hK hkp => ?_) | refine rD (id := 16) mixed 5 [0,1,2,3,4] (fun K kp hK hkp => ?_) | refine cR wc ?_ | refine cD wc ?_ | refine cR kc ?_ | refine cD kc ?_ | refine iG ?_ | refine iD ?_); simp (implicitDefEqProofs := false) (maxSteps := 2000000) (disch := omega) only [go_sem, hx, eO, v0, eV, em]; (repeat' (first | (refine hK _ ?_; clear hK hkp kp K) | (with_reducible refine And.intro ?_ ?_) | omega))) | ((first | refine aG (fun h => ?_) (fun h => ?_) | refine aD (fun h => ?_) (fun h => ?_) | refine aX (fun h => ?_) (fun h => ?_)) <;> simp only [h]) | refine awp_cond_t rfl ?_ | refine awp_cond_f rfl ?_ | ((refine awp_cond rfl (fun h => ?_) (fun h => ?_) <;> try simp only [ifs] at h) <;> (try (exfalso; omega))) | refine awp_ret ?_))
        ((first | (refine nextB ((k + 1, st ++ [x])) ?_ ?_ ?_) | (refine nextA ((k + 1, st ++ [x])) ?_ ?_ ?_)); rotate_left; (· (try dsimp only); (first | omega | (simp only [List.length_drop, List.length_cons, List.length_append]; omega) | (simp; done) | (simp; omega))); (· (refine emb [0, 1, 8] ?_ ?_ rfl ?_ ?_ ?_ ?_ <;> simp [okM, okO, lk, ren, renL, renNd, by_, hE, v0, eV, hx] <;> (try omega))))
        exact ⟨by omega, by simp; omega, hno, by first | (rw [← hg2]; congr 1; simp; done) | (rw [← hg2]; congr 1; simp; omega), (by have := goods_snoc (m := st.length) hgs (ev_good hgr (hgo o ho') gV_v0 gV_v0 hm); rwa [List.take_length] at this)⟩
    · rw [h0] at wc hno hg2
      simp only [Int.cast_ofNat_Int] at wc
      obtain ⟨m, hm0⟩ : ∃ m, st.length = m + 1 := ⟨st.length - 1, by omega⟩
      have em : ((st.length : Int) - 1) = (m : Int) := by omega
      have em2 : st.length - 1 = m := by omega
      obtain ⟨a, ha⟩ : ∃ a, st[m]? = some a := ⟨st[m]'(by omega), by simp⟩
      have l1 : ((m : Int) < (st.length : Int)) = True := eq_true (by omega)
      have ga : st.getD m v0 = a := by rw [List.getD, ha]; rfl
      simp only [em2, show 0 < 1 by omega, Nat.lt_irrefl, if_true, if_false, ga] at hno
      have kc := eval1_con E.G u w l r o a v0 hl g1 g11 (hgs a (List.mem_of_getElem? ha)) gV_v0 (hc o ho') hlen
      cases hm : evM l r o a v0 with
      | error e =>
        rw [hm] at kc hno; simp only [evA, eO, eV, v0] at kc
        have he : (e != 0) = true := by simp [ev_err hm]
        (repeat' (first | refine awp_seq ?_ | refine awp_block ?_ | refine awp_skip ?_ | refine awp_exit ?_ | ((first | refine rR (fun K kp hK hkp => ?_) | refine rD (id := 16) mixed 5 [0,1,2,3,4] (fun K kp hK hkp => ?_) | refine cR wc ?_ | refine cD wc ?_ | refine cR kc ?_ | refine cD kc ?_ | refine iG ?_ | refine iD ?_); simp (implicitDefEqProofs := false) (maxSteps := 2000000) (disch := omega) only [go_sem, hx, eO, v0, eV, he, em, ha, l1]; (repeat' (first | (refine hK _ ?_; clear hK hkp kp K) | (with_reducible refine And.intro ?_ ?_) | omega))) | ((first | refine aG (fun h => ?_) (fun h => ?_) | refine aD (fun h => ?_) (fun h => ?_) | refine aX (fun h => ?_) (fun h => ?_)) <;> simp only [h]) | refine awp_cond_t rfl ?_ | refine awp_cond_f rfl ?_ | ((refine awp_cond rfl (fun h => ?_) (fun h => ?_) <;> try simp only [ifs] at h) <;> (try (exfalso; omega))) | refine awp_ret ?_))
        rw [← hno]
        simp only [foldRV, evA]
        (refine retA_is (by (simp (implicitDefEqProofs := false) (maxSteps := 2000000) (disch := omega) only [go_sem, Go.Proofs.Tryz.results30, eV, v0]); rfl) ?_; refine eN hE ?_; simp [oneA, ren, renL, eV, v0])
      | ok x =>
        rw [hm] at kc hno; simp only [evA, eO, eV, v0] at kc
        (repeat' (first | refine awp_seq ?_ | refine awp_block ?_ | refine awp_skip ?_ | refine awp_exit ?_ | ((first | refine rR (fun K kp hK hkp => ?_) | refine rD (id := 16) mixed 5 [0,1,2,3,4] (fun K kp hK hkp => ?_) | refine cR wc ?_ | refine cD wc ?_ | refine cR kc ?_ | refine cD kc ?_ | refine iG ?_ | refine iD ?_); simp (implicitDefEqProofs := false) (maxSteps := 2000000) (disch := omega) only [go_sem, hx, eO, v0, eV, em, ha, l1]; (repeat' (first | (refine hK _ ?_; clear hK hkp kp K) | (with_reducible refine And.intro ?_ ?_) | omega))) | ((first | refine aG (fun h => ?_) (fun h => ?_) | refine aD (fun h => ?_) (fun h => ?_) | refine aX (fun h => ?_) (fun h => ?_)) <;> simp only [h]) | refine awp_cond_t rfl ?_ | refine awp_cond_f rfl ?_ | ((refine awp_cond rfl (fun h => ?_) (fun h => ?_) <;> try simp only [ifs] at h) <;> (try (exfalso; omega))) | refine awp_ret ?_))
        ((first | (refine nextB ((k + 1, st.take m ++ [x])) ?_ ?_ ?_) | (refine nextA ((k + 1, st.take m ++ [x])) ?_ ?_ ?_)); rotate_left; (· (try dsimp only); (first | omega | (simp only [List.length_drop, List.length_cons, List.length_append]; omega) | (simp; done) | (simp; omega))); (· (refine emb [0, 1, 8] ?_ ?_ rfl ?_ ?_ ?_ ?_ <;> simp [okM, okO, lk, ren, renL, renNd, by_, hE, v0, eV, List.map_take] <;> (try omega))))
        exact ⟨by omega, by simp; omega, hno, by first | (rw [← hg2]; congr 1; simp; done) | (rw [← hg2]; congr 1; simp; omega), goods_snoc hgs (ev_good hgr (hgo o ho') (hgs a (List.mem_of_getElem? ha)) gV_v0 hm)⟩
    · rw [h0] at wc hno hg2
      simp only [Int.cast_ofNat_Int] at wc
      obtain ⟨m, hm0⟩ : ∃ m, st.length = m + 2 := ⟨st.length - 2, by omega⟩
      have em : ((st.length : Int) - 2) = (m : Int) := by omega
      have em2 : st.length - 2 = m := by omega
      obtain ⟨a, ha⟩ : ∃ a, st[m]? = some a := ⟨st[m]'(by omega), by simp⟩
      have l1 : ((m : Int) < (st.length : Int)) = True := eq_true (by omega)
      have ga : st.getD m v0 = a := by rw [List.getD, ha]; rfl
      obtain ⟨b, hb⟩ : ∃ b, st[m + 1]? = some b := ⟨st[m + 1]'(by omega), by simp⟩
      have l2 : ((m : Int) + 1 < (st.length : Int)) = True := eq_true (by omega)
      have gb : st.getD (m + 1) v0 = b := by rw [List.getD, hb]; rfl
      simp only [em2, show 0 < 2 by omega, show 1 < 2 by omega, if_true, ga, gb] at hno
      have kc := eval1_con E.G u w l r o a b hl g1 g11 (hgs a (List.mem_of_getElem? ha)) (hgs b (List.mem_of_getElem? hb)) (hc o ho') hlen
      cases hm : evM l r o a b with
      | error e =>
        rw [hm] at kc hno; simp only [evA, eO, eV, v0] at kc
        have he : (e != 0) = true := by simp [ev_err hm]
        (repeat' (first | refine awp_seq ?_ | refine awp_block ?_ | refine awp_skip ?_ | refine awp_exit ?_ | ((first | refine rR (fun K kp hK hkp => ?_) | refine rD (id := 16) mixed 5 [0,1,2,3,4] (fun K kp hK hkp => ?_) | refine cR wc ?_ | refine cD wc ?_ | refine cR kc ?_ | refine cD kc ?_ | refine iG ?_ | refine iD ?_); simp (implicitDefEqProofs := false) (maxSteps := 2000000) (disch := omega) only [go_sem, hx, eO, v0, eV, he, em, ha, l1, hb, l2]; (repeat' (first | (refine hK _ ?_; clear hK hkp kp K) | (with_reducible refine And.intro ?_ ?_) | omega))) | ((first | refine aG (fun h => ?_) (fun h => ?_) | refine aD (fun h => ?_) (fun h => ?_) | refine aX (fun h => ?_) (fun h => ?_)) <;> simp only [h]) | refine awp_cond_t rfl ?_ | refine awp_cond_f rfl ?_ | ((refine awp_cond rfl (fun h => ?_) (fun h => ?_) <;> try simp only [ifs] at h) <;> (try (exfalso; omega))) | refine awp_ret ?_))
        rw [← hno]
        simp only [foldRV, evA]
        (refine retA_is (by (simp (implicitDefEqProofs := false) (maxSteps := 2000000) (disch := omega) only [go_sem, Go.Proofs.Tryz.results30, eV, v0]); rfl) ?_; refine eN hE ?_; simp [oneA, ren, renL, eV, v0])
      | ok x =>
        rw [hm] at kc hno; simp only [evA, eO, eV, v0] at kc
        (repeat' (first | refine awp_seq ?_ | refine awp_block ?_ | refine awp_skip ?_ | refine awp_exit ?_ | ((first | refine rR (fun K kp hK hkp => ?_) | refine rD (id := 16) mixed 5 [0,1,2,3,4] (fun K kp hK hkp => ?_) | refine cR wc ?_ | refine cD wc ?_ | refine cR kc ?_ | refine cD kc ?_ | refine iG ?_ | refine iD ?_); simp (implicitDefEqProofs := false) (maxSteps := 2000000) (disch := omega) only [go_sem, hx, eO, v0, eV, em, ha, l1, hb, l2]; (repeat' (first | (refine hK _ ?_; clear hK hkp kp K) | (with_reducible refine And.intro ?_ ?_) | omega))) | ((first | refine aG (fun h => ?_) (fun h => ?_) | refine aD (fun h => ?_) (fun h => ?_) | refine aX (fun h => ?_) (fun h => ?_)) <;> simp only [h]) | refine awp_cond_t rfl ?_ | refine awp_cond_f rfl ?_ | ((refine awp_cond rfl (fun h => ?_) (fun h => ?_) <;> try simp only [ifs] at h) <;> (try (exfalso; omega))) | refine awp_ret ?_))
        ((first | (refine nextB ((k + 1, st.take m ++ [x])) ?_ ?_ ?_) | (refine nextA ((k + 1, st.take m ++ [x])) ?_ ?_ ?_)); rotate_left; (· (try dsimp only); (first | omega | (simp only [List.length_drop, List.length_cons, List.length_append]; omega) | (simp; done) | (simp; omega))); (· (refine emb [0, 1, 8] ?_ ?_ rfl ?_ ?_ ?_ ?_ <;> simp [okM, okO, lk, ren, renL, renNd, by_, hE, v0, eV, List.map_take] <;> (try omega))))
        exact ⟨by omega, by simp; omega, hno, by first | (rw [← hg2]; congr 1; simp; done) | (rw [← hg2]; congr 1; simp; omega), goods_snoc hgs (ev_good hgr (hgo o ho') (hgs a (List.mem_of_getElem? ha)) (hgs b (List.mem_of_getElem? hb)) hm)⟩
  · have hgz : st.length = 1 := by rw [List.drop_of_length_le (by omega)] at hg; simpa [hgt] using hg
    obtain ⟨x, rfl⟩ : ∃ x, st = [x] := List.length_eq_one_iff.1 hgz
    rw [List.drop_of_length_le (by omega), foldS] at hno
    rw [← hno]
    simp only [foldRV, evA]
    (repeat' (first | refine awp_seq ?_ | refine awp_block ?_ | refine awp_skip ?_ | refine awp_exit ?_ | ((first | refine rR (fun K kp hK hkp => ?_) | refine rD (id := 16) mixed 5 [0,1,2,3,4] (fun K kp hK hkp => ?_) | refine iG ?_ | refine iD ?_); simp (implicitDefEqProofs := false) (maxSteps := 2000000) (disch := omega) only [go_sem, eV]; (repeat' (first | (refine hK _ ?_; clear hK hkp kp K) | (with_reducible refine And.intro ?_ ?_) | omega))) | ((first | refine aG (fun h => ?_) (fun h => ?_) | refine aD (fun h => ?_) (fun h => ?_) | refine aX (fun h => ?_) (fun h => ?_)) <;> simp only [h]) | refine awp_cond_t rfl ?_ | refine awp_cond_f rfl ?_ | ((refine awp_cond rfl (fun h => ?_) (fun h => ?_) <;> try simp only [ifs] at h) <;> (try (exfalso; omega))) | refine awp_ret ?_))
    (refine retA_is (by (simp (implicitDefEqProofs := false) (maxSteps := 2000000) (disch := omega) only [go_sem, Go.Proofs.Tryz.results30, eV, v0]); rfl) ?_; refine eN hE ?_; simp [oneA, ren, renL, eV, v0])
end Go.AM
/- Kinds: expr.Kind. -/
namespace Go.AM
open Go Go.RowKit
open Go.Proofs.YtoecmmpjndcolaaGreatDoor (OP nameM litM exprM exprFrom stepM popsM)
attribute [local irreducible] AWP retA
theorem foldR_tree {l : List CO} {tr : RT OP} (h : tr.wf arO) : foldR (foldS arO (madeM l) 0 tr.flat []) = madeA (evT (madeM l) 0 tr) := by
  have := foldS_tree arO (madeM l) 0 tr [] [] h
  rw [List.append_nil] at this
  rw [this]
  cases evT (madeM l) 0 tr <;> rfl
theorem flat_hgt {tr : RT OP} {ops : List OP} (he : exprM ops = 0) : hgt arO ops 0 = some 1 := by
  unfold exprM at he
  split at he
  · cases he
  · exact hgt_of_expr ops 0 he
set_option maxRecDepth 100000 in
theorem kindOfP_con (G : List (Nat × List Value)) (t : Bool) (l : List CO) (ops : List OP) (tr : RT OP) (hl : l.length ≤ 1048576) (he : exprM ops = 0) (hw : tr.wf arO) (hf : tr.flat = ops) :
    Con Go.Proofs.Tryz.prog G 29 [.ro true 2 (l.map eC), .ro t 5 (ops.map eO)] [] 0 (Is (madeA (evT (madeM l) 0 tr)) [] 0) No := by
  obtain ⟨h40, hk, _⟩ := tree_of_expr he
  refine con_of_awp Go.Proofs.Tryz.func29 rfl (by kernel_rfl) (of_decide_eq_true (by kernel_rfl)) ?_; intro E hG hE; subst hG; simp only [ent]
  have fc := fold_con E.G false t l ops hl h40 (fun o ho => ⟨(hk o ho).1, (hk o ho).2.1⟩) (flat_hgt (tr := tr) he)
  rw [← hf, foldR_tree hw, hf] at fc
  cases hm : evT (madeM l) 0 tr with
  | error e =>
    rw [hm] at fc; simp only [madeA] at fc ⊢
    (repeat' (first | refine awp_seq ?_ | refine awp_block ?_ | refine awp_skip ?_ | refine awp_exit ?_ | ((first | refine rR (fun K kp hK hkp => ?_) | refine cR fc ?_ | refine iG ?_); simp (implicitDefEqProofs := false) (maxSteps := 2000000) (disch := omega) only [go_sem]; (repeat' (first | (refine hK _ ?_; clear hK hkp kp K) | (with_reducible refine And.intro ?_ ?_) | omega))) | ((first | refine aG (fun h => ?_) (fun h => ?_) | refine aD (fun h => ?_) (fun h => ?_) | refine aX (fun h => ?_) (fun h => ?_)) <;> simp only [h]) | refine awp_cond_t rfl ?_ | refine awp_cond_f rfl ?_ | ((refine awp_cond rfl (fun h => ?_) (fun h => ?_) <;> try simp only [ifs] at h) <;> (try (exfalso; omega))) | refine awp_ret ?_))
    (refine retA_is (by (simp (implicitDefEqProofs := false) (maxSteps := 2000000) (disch := omega) only [go_sem, Go.Proofs.Tryz.results29]); rfl) ?_; refine eN hE ?_; simp [oneA, ren, renL])
  | ok k =>
    rw [hm] at fc; simp only [madeA] at fc ⊢
    (repeat' (first | refine awp_seq ?_ | refine awp_block ?_ | refine awp_skip ?_ | refine awp_exit ?_ | ((first | refine rR (fun K kp hK hkp => ?_) | refine cR fc ?_ | refine iG ?_); simp (implicitDefEqProofs := false) (maxSteps := 2000000) (disch := omega) only [go_sem]; (repeat' (first | (refine hK _ ?_; clear hK hkp kp K) | (with_reducible refine And.intro ?_ ?_) | omega))) | ((first | refine aG (fun h => ?_) (fun h => ?_) | refine aD (fun h => ?_) (fun h => ?_) | refine aX (fun h => ?_) (fun h => ?_)) <;> simp only [h]) | refine awp_cond_t rfl ?_ | refine awp_cond_f rfl ?_ | ((refine awp_cond rfl (fun h => ?_) (fun h => ?_) <;> try simp only [ifs] at h) <;> (try (exfalso; omega))) | refine awp_ret ?_))
    (refine retA_is (by (simp (implicitDefEqProofs := false) (maxSteps := 2000000) (disch := omega) only [go_sem, Go.Proofs.Tryz.results29]); rfl) ?_; refine eN hE ?_; simp [oneA, ren, renL])
end Go.AM
/- Kinds: expr.checked and expr.Kind. -/
namespace Go.AM
open Go Go.RowKit
open Go.Proofs.YtoecmmpjndcolaaGreatDoor (OP nameM litM exprM exprFrom stepM popsM)
attribute [local irreducible] AWP retA
def bothM (l : List CO) (ops : List OP) : Int := if colsM l ≠ 0 then colsM l else exprM ops
set_option maxRecDepth 100000 in
theorem checked_con {G : List (Nat × List Value)} (T : Tabs G) (l : List CO) (ops : List OP) (hl : l.length ≤ 1048576) (ho : ops.length ≤ 1048576) (hs : ∀ c ∈ l, okS c.nm) (hv : ∀ o ∈ ops, okO1 o) : Con Go.Proofs.Tryz.prog G 28 [.ro true 2 (l.map eC), .ro true 5 (ops.map eO)] [] 0 (Is (.r (.int .i64 (bothM l ops))) [] 0) No := by
  refine con_of_awp Go.Proofs.Tryz.func28 rfl (by kernel_rfl) (of_decide_eq_true (by kernel_rfl)) ?_; intro E hG hE; subst hG; simp only [ent]
  have cc := exprCols_con T true l hl hs
  have ec := expression_con T true ops ho hv
  by_cases h0 : colsM l = 0
  · rw [h0] at cc
    (repeat' (first | refine awp_seq ?_ | refine awp_block ?_ | refine awp_skip ?_ | refine awp_exit ?_ | ((first | refine rR (fun K kp hK hkp => ?_) | refine cR cc ?_ | refine cR ec ?_ | refine iG ?_); simp (implicitDefEqProofs := false) (maxSteps := 2000000) (disch := omega) only [go_sem]; (repeat' (first | (refine hK _ ?_; clear hK hkp kp K) | (with_reducible refine And.intro ?_ ?_) | omega))) | ((first | refine aG (fun h => ?_) (fun h => ?_) | refine aD (fun h => ?_) (fun h => ?_) | refine aX (fun h => ?_) (fun h => ?_)) <;> simp only [h]) | refine awp_cond_t rfl ?_ | refine awp_cond_f rfl ?_ | ((refine awp_cond rfl (fun h => ?_) (fun h => ?_) <;> try simp only [ifs] at h) <;> (try (exfalso; omega))) | refine awp_ret ?_))
    (refine retA_is (by (simp (implicitDefEqProofs := false) (maxSteps := 2000000) (disch := omega) only [go_sem, Go.Proofs.Tryz.results28, bothM, h0]); rfl) ?_; refine eN hE ?_; simp [oneA, ren, renL, bothM, h0])
  · have b0 : (colsM l != 0) = true := by simpa using h0
    (repeat' (first | refine awp_seq ?_ | refine awp_block ?_ | refine awp_skip ?_ | refine awp_exit ?_ | ((first | refine rR (fun K kp hK hkp => ?_) | refine cR cc ?_ | refine iG ?_); simp (implicitDefEqProofs := false) (maxSteps := 2000000) (disch := omega) only [go_sem, b0]; (repeat' (first | (refine hK _ ?_; clear hK hkp kp K) | (with_reducible refine And.intro ?_ ?_) | omega))) | ((first | refine aG (fun h => ?_) (fun h => ?_) | refine aD (fun h => ?_) (fun h => ?_) | refine aX (fun h => ?_) (fun h => ?_)) <;> simp only [h]) | refine awp_cond_t rfl ?_ | refine awp_cond_f rfl ?_ | ((refine awp_cond rfl (fun h => ?_) (fun h => ?_) <;> try simp only [ifs] at h) <;> (try (exfalso; omega))) | refine awp_ret ?_))
    (refine retA_is (by (simp (implicitDefEqProofs := false) (maxSteps := 2000000) (disch := omega) only [go_sem, Go.Proofs.Tryz.results28, bothM, h0]); rfl) ?_; refine eN hE ?_; simp [oneA, ren, renL, bothM, h0])
/-- What both answer: what is wrong with columns or ops, or what the tree makes. -/
def kindR (l : List CO) (ops : List OP) (tr : RT OP) : Except Int Int := if bothM l ops ≠ 0 then .error (bothM l ops) else evT (madeM l) 0 tr
set_option maxRecDepth 100000 in
theorem kind_con {G : List (Nat × List Value)} (T : Tabs G) (l : List CO) (ops : List OP) (tr : RT OP) (hl : l.length ≤ 1048576) (ho : ops.length ≤ 1048576) (hs : ∀ c ∈ l, okS c.nm) (hv : ∀ o ∈ ops, okO1 o) (ht : exprM ops = 0 → tr.wf arO ∧ tr.flat = ops) :
    Con Go.Proofs.Tryz.prog G 14 [.ro true 2 (l.map eC), .ro true 5 (ops.map eO)] [] 0 (Is (madeA (kindR l ops tr)) [] 0) No := by
  refine con_of_awp Go.Proofs.Tryz.func14 rfl (by kernel_rfl) (of_decide_eq_true (by kernel_rfl)) ?_; intro E hG hE; subst hG; simp only [ent]
  have cc := checked_con T l ops hl ho hs hv
  by_cases h0 : bothM l ops = 0
  · rw [h0] at cc
    have he : exprM ops = 0 := by
      unfold bothM at h0
      split at h0
      · rename_i h; exact (h h0).elim
      · exact h0
    obtain ⟨hw, hf⟩ := ht he
    have kc := kindOfP_con E.G true l ops tr hl he hw hf
    have hR : kindR l ops tr = evT (madeM l) 0 tr := by rw [kindR, if_neg (by simpa using h0)]
    rw [hR]
    cases hm : evT (madeM l) 0 tr with
    | error e =>
      rw [hm] at kc; simp only [madeA] at kc ⊢
      (repeat' (first | refine awp_seq ?_ | refine awp_block ?_ | refine awp_skip ?_ | refine awp_exit ?_ | ((first | refine rR (fun K kp hK hkp => ?_) | refine cR cc ?_ | refine cR kc ?_ | refine iG ?_); simp (implicitDefEqProofs := false) (maxSteps := 2000000) (disch := omega) only [go_sem]; (repeat' (first | (refine hK _ ?_; clear hK hkp kp K) | (with_reducible refine And.intro ?_ ?_) | omega))) | ((first | refine aG (fun h => ?_) (fun h => ?_) | refine aD (fun h => ?_) (fun h => ?_) | refine aX (fun h => ?_) (fun h => ?_)) <;> simp only [h]) | refine awp_cond_t rfl ?_ | refine awp_cond_f rfl ?_ | ((refine awp_cond rfl (fun h => ?_) (fun h => ?_) <;> try simp only [ifs] at h) <;> (try (exfalso; omega))) | refine awp_ret ?_))
      (refine retA_is (by (simp (implicitDefEqProofs := false) (maxSteps := 2000000) (disch := omega) only [go_sem, Go.Proofs.Tryz.results14]); rfl) ?_; refine eN hE ?_; simp [oneA, ren, renL])
    | ok k =>
      rw [hm] at kc; simp only [madeA] at kc ⊢
      (repeat' (first | refine awp_seq ?_ | refine awp_block ?_ | refine awp_skip ?_ | refine awp_exit ?_ | ((first | refine rR (fun K kp hK hkp => ?_) | refine cR cc ?_ | refine cR kc ?_ | refine iG ?_); simp (implicitDefEqProofs := false) (maxSteps := 2000000) (disch := omega) only [go_sem]; (repeat' (first | (refine hK _ ?_; clear hK hkp kp K) | (with_reducible refine And.intro ?_ ?_) | omega))) | ((first | refine aG (fun h => ?_) (fun h => ?_) | refine aD (fun h => ?_) (fun h => ?_) | refine aX (fun h => ?_) (fun h => ?_)) <;> simp only [h]) | refine awp_cond_t rfl ?_ | refine awp_cond_f rfl ?_ | ((refine awp_cond rfl (fun h => ?_) (fun h => ?_) <;> try simp only [ifs] at h) <;> (try (exfalso; omega))) | refine awp_ret ?_))
      (refine retA_is (by (simp (implicitDefEqProofs := false) (maxSteps := 2000000) (disch := omega) only [go_sem, Go.Proofs.Tryz.results14]); rfl) ?_; refine eN hE ?_; simp [oneA, ren, renL])
  · have b0 : (bothM l ops != 0) = true := by simpa using h0
    have hR : kindR l ops tr = .error (bothM l ops) := by rw [kindR, if_pos h0]
    rw [hR]; simp only [madeA]
    (repeat' (first | refine awp_seq ?_ | refine awp_block ?_ | refine awp_skip ?_ | refine awp_exit ?_ | ((first | refine rR (fun K kp hK hkp => ?_) | refine cR cc ?_ | refine iG ?_); simp (implicitDefEqProofs := false) (maxSteps := 2000000) (disch := omega) only [go_sem, b0]; (repeat' (first | (refine hK _ ?_; clear hK hkp kp K) | (with_reducible refine And.intro ?_ ?_) | omega))) | ((first | refine aG (fun h => ?_) (fun h => ?_) | refine aD (fun h => ?_) (fun h => ?_) | refine aX (fun h => ?_) (fun h => ?_)) <;> simp only [h]) | refine awp_cond_t rfl ?_ | refine awp_cond_f rfl ?_ | ((refine awp_cond rfl (fun h => ?_) (fun h => ?_) <;> try simp only [ifs] at h) <;> (try (exfalso; omega))) | refine awp_ret ?_))
    (refine retA_is (by (simp (implicitDefEqProofs := false) (maxSteps := 2000000) (disch := omega) only [go_sem, Go.Proofs.Tryz.results14]); rfl) ?_; refine eN hE ?_; simp [oneA, ren, renL])
end Go.AM
/- Values of expressions: expr.eval and expr.Eval. -/
namespace Go.AM
open Go Go.RowKit
open Go.Proofs.YtoecmmpjndcolaaGreatDoor (OP nameM litM exprM exprFrom stepM popsM oneM twoM nov)
attribute [local irreducible] AWP retA
theorem foldRV_tree {l : List CO} {r : List V} {tr : RT OP} (h : tr.wf arO) : foldRV (foldS arO (evM l r) v0 tr.flat []) = evA (evT (evM l r) v0 tr) := by
  have := foldS_tree arO (evM l r) v0 tr [] [] h
  rw [List.append_nil] at this
  rw [this]
  cases evT (evM l r) v0 tr <;> rfl
theorem made_col {l : List CO} {o : OP} {a b k : Int} (h2 : o.k = 2) (h : madeM l o a b = .ok k) : ¬ findM l o.nm < 0 := by
  intro hf
  simp [madeM, h2, hf] at h
theorem cols_found {l : List CO} : ∀ {tr : RT OP} {k : Int}, tr.wf arO → evT (madeM l) 0 tr = .ok k → ∀ o ∈ tr.flat, o.k = 2 → ¬ findM l o.nm < 0
  | .l o, k, _, h, x, hx, h2 => by
    simp only [RT.flat, List.mem_singleton] at hx; subst hx
    exact made_col h2 h
  | .u o s, k, hw, h, x, hx, h2 => by
    rw [evT] at h
    split at h
    · cases h
    rename_i a ha
    simp only [RT.flat, List.mem_append, List.mem_singleton] at hx
    rcases hx with hx | rfl
    · exact cols_found hw.2 ha x hx h2
    · exact made_col h2 h
  | .b o s t, k, hw, h, x, hx, h2 => by
    rw [evT] at h
    split at h
    · cases h
    rename_i a ha
    split at h
    · cases h
    rename_i b hb
    simp only [RT.flat, List.mem_append, List.mem_singleton] at hx
    rcases hx with (hx | hx) | rfl
    · exact cols_found hw.2.1 ha x hx h2
    · exact cols_found hw.2.2 hb x hx h2
    · exact made_col h2 h
theorem evT_good {l : List CO} {r : List V} (hr : ∀ v ∈ r, gV v) : ∀ {tr : RT OP} {v : V}, (∀ o ∈ tr.flat, gV ⟨o.vk, o.vn, o.vs⟩) → evT (evM l r) v0 tr = .ok v → gV v
  | .l o, v, ho, h => ev_good hr (ho o (by simp [RT.flat])) gV_v0 gV_v0 h
  | .u o s, v, ho, h => by
    rw [evT] at h
    split at h
    · cases h
    rename_i a ha
    exact ev_good hr (ho o (by simp [RT.flat])) (evT_good hr (fun x hx => ho x (by simp [RT.flat, hx])) ha) gV_v0 h
  | .b o s t, v, ho, h => by
    rw [evT] at h
    split at h
    · cases h
    rename_i a ha
    split at h
    · cases h
    rename_i b hb
    exact ev_good hr (ho o (by simp [RT.flat])) (evT_good hr (fun x hx => ho x (by simp [RT.flat, hx])) ha) (evT_good hr (fun x hx => ho x (by simp [RT.flat, hx])) hb) h
set_option maxRecDepth 100000 in
theorem eval_con (G : List (Nat × List Value)) (t : Bool) (l : List CO) (r : List V) (ops : List OP) (tr : RT OP) (hl : l.length ≤ 1048576) (hr : r.length ≤ 1048576) (hlen : r.length = l.length) (hgr : ∀ v ∈ r, gV v) (hgo : ∀ o ∈ ops, gV ⟨o.vk, o.vn, o.vs⟩) (hc : ∀ o ∈ ops, o.k = 2 → ¬ findM l o.nm < 0)
    (he : exprM ops = 0) (hw : tr.wf arO) (hf : tr.flat = ops) :
    Con Go.Proofs.Tryz.prog G 15 [.ro true 2 (l.map eC), .ro true 3 (r.map eV), .ro t 5 (ops.map eO)] [] 0 (Is (evA (evT (evM l r) v0 tr)) [] 0) No := by
  obtain ⟨h40, hk, _⟩ := tree_of_expr he
  refine con_of_awp Go.Proofs.Tryz.func15 rfl (by kernel_rfl) (of_decide_eq_true (by kernel_rfl)) ?_; intro E hG hE; subst hG; simp only [ent]
  have fc := foldV_con E.G false false t l r ops hl hr hlen hgr hgo hc h40 (fun o ho => ⟨(hk o ho).1, (hk o ho).2.1⟩) (flat_hgt (tr := tr) he)
  rw [← hf, foldRV_tree hw, hf] at fc
  cases hm : evT (evM l r) v0 tr with
  | error e =>
    rw [hm] at fc; simp only [evA, v0, eV] at fc ⊢
    (repeat' (first | refine awp_seq ?_ | refine awp_block ?_ | refine awp_skip ?_ | refine awp_exit ?_ | ((first | refine rR (fun K kp hK hkp => ?_) | refine cR fc ?_ | refine iG ?_); simp (implicitDefEqProofs := false) (maxSteps := 2000000) (disch := omega) only [go_sem]; (repeat' (first | (refine hK _ ?_; clear hK hkp kp K) | (with_reducible refine And.intro ?_ ?_) | omega))) | ((first | refine aG (fun h => ?_) (fun h => ?_) | refine aD (fun h => ?_) (fun h => ?_) | refine aX (fun h => ?_) (fun h => ?_)) <;> simp only [h]) | refine awp_cond_t rfl ?_ | refine awp_cond_f rfl ?_ | ((refine awp_cond rfl (fun h => ?_) (fun h => ?_) <;> try simp only [ifs] at h) <;> (try (exfalso; omega))) | refine awp_ret ?_))
    (refine retA_is (by (simp (implicitDefEqProofs := false) (maxSteps := 2000000) (disch := omega) only [go_sem, Go.Proofs.Tryz.results15]); rfl) ?_; refine eN hE ?_; simp [oneA, ren, renL])
  | ok k =>
    rw [hm] at fc; simp only [evA, eV] at fc ⊢
    (repeat' (first | refine awp_seq ?_ | refine awp_block ?_ | refine awp_skip ?_ | refine awp_exit ?_ | ((first | refine rR (fun K kp hK hkp => ?_) | refine cR fc ?_ | refine iG ?_); simp (implicitDefEqProofs := false) (maxSteps := 2000000) (disch := omega) only [go_sem]; (repeat' (first | (refine hK _ ?_; clear hK hkp kp K) | (with_reducible refine And.intro ?_ ?_) | omega))) | ((first | refine aG (fun h => ?_) (fun h => ?_) | refine aD (fun h => ?_) (fun h => ?_) | refine aX (fun h => ?_) (fun h => ?_)) <;> simp only [h]) | refine awp_cond_t rfl ?_ | refine awp_cond_f rfl ?_ | ((refine awp_cond rfl (fun h => ?_) (fun h => ?_) <;> try simp only [ifs] at h) <;> (try (exfalso; omega))) | refine awp_ret ?_))
    (refine retA_is (by (simp (implicitDefEqProofs := false) (maxSteps := 2000000) (disch := omega) only [go_sem, Go.Proofs.Tryz.results15]); rfl) ?_; refine eN hE ?_; simp [oneA, ren, renL])
/-- What both answer. -/
def evalR (l : List CO) (r : List V) (ops : List OP) (tr : RT OP) : Except Int V :=
  if rowsM l r ≠ 0 then .error (rowsM l r) else match kindR l ops tr with
  | .error e => .error e
  | .ok _ => evT (evM l r) v0 tr
theorem kind_ok {l : List CO} {ops : List OP} {tr : RT OP} {k : Int} (h : kindR l ops tr = .ok k) : exprM ops = 0 ∧ evT (madeM l) 0 tr = .ok k := by
  unfold kindR at h
  split at h
  · cases h
  · rename_i h0
    refine ⟨?_, h⟩
    have h0 : bothM l ops = 0 := by simpa using h0
    unfold bothM at h0
    split at h0
    · rename_i h; exact (h h0).elim
    · exact h0
theorem rows_len {l : List CO} {r : List V} (h : rowsM l r = 0) : r.length = l.length := by
  unfold rowsM at h
  split at h
  · rename_i h'; exact (h' h).elim
  split at h
  · cases h
  · rename_i h'; simpa using h'
theorem kindR_err {l : List CO} {ops : List OP} {tr : RT OP} {e : Int} (h : kindR l ops tr = .error e) : e ≠ 0 := by
  unfold kindR at h
  split at h
  · cases h; assumption
  · exact evT_err h
set_option maxRecDepth 100000 in
theorem exprEval_con {G : List (Nat × List Value)} (T : Tabs G) (l : List CO) (r : List V) (ops : List OP) (tr : RT OP) (hl : l.length ≤ 1048576) (hr : r.length ≤ 1048576) (ho : ops.length ≤ 1048576) (hs : ∀ c ∈ l, okS c.nm) (hgr : ∀ v ∈ r, gV v) (hv : ∀ o ∈ ops, okO1 o) (hgo : ∀ o ∈ ops, gV ⟨o.vk, o.vn, o.vs⟩) (ht : exprM ops = 0 → tr.wf arO ∧ tr.flat = ops) :
    Con Go.Proofs.Tryz.prog G 5 [.ro true 2 (l.map eC), .ro true 3 (r.map eV), .ro true 5 (ops.map eO)] [] 0 (Is (evA (evalR l r ops tr)) [] 0) No := by
  refine con_of_awp Go.Proofs.Tryz.func5 rfl (by kernel_rfl) (of_decide_eq_true (by kernel_rfl)) ?_; intro E hG hE; subst hG; simp only [ent]
  have rc := exprRow_con T l r hl hr hs (fun v hv => (hgr v hv).1)
  by_cases h0 : rowsM l r = 0
  · rw [h0] at rc
    have kc := kind_con T l ops tr hl ho hs hv ht
    cases hm : kindR l ops tr with
    | error e =>
      have he : (e != 0) = true := by simp [kindR_err hm]
      have hR : evalR l r ops tr = .error e := by rw [evalR, if_neg (by simpa using h0), hm]
      rw [hm] at kc
      rw [hR]
      simp only [madeA, evA, v0, eV] at kc ⊢
      (repeat' (first | refine awp_seq ?_ | refine awp_block ?_ | refine awp_skip ?_ | refine awp_exit ?_ | ((first | refine rR (fun K kp hK hkp => ?_) | refine cR rc ?_ | refine cR kc ?_ | refine iG ?_); simp (implicitDefEqProofs := false) (maxSteps := 2000000) (disch := omega) only [go_sem, he]; (repeat' (first | (refine hK _ ?_; clear hK hkp kp K) | (with_reducible refine And.intro ?_ ?_) | omega))) | ((first | refine aG (fun h => ?_) (fun h => ?_) | refine aD (fun h => ?_) (fun h => ?_) | refine aX (fun h => ?_) (fun h => ?_)) <;> simp only [h]) | refine awp_cond_t rfl ?_ | refine awp_cond_f rfl ?_ | ((refine awp_cond rfl (fun h => ?_) (fun h => ?_) <;> try simp only [ifs] at h) <;> (try (exfalso; omega))) | refine awp_ret ?_))
      (refine retA_is (by (simp (implicitDefEqProofs := false) (maxSteps := 2000000) (disch := omega) only [go_sem, Go.Proofs.Tryz.results5]); rfl) ?_; refine eN hE ?_; simp [oneA, ren, renL])
    | ok k =>
      obtain ⟨e1, e2⟩ := kind_ok hm
      obtain ⟨hw, hf⟩ := ht e1
      have hcf := cols_found hw e2
      rw [hf] at hcf
      have ec := eval_con E.G true l r ops tr hl hr (rows_len h0) hgr hgo hcf e1 hw hf
      have hR : evalR l r ops tr = evT (evM l r) v0 tr := by rw [evalR, if_neg (by simpa using h0), hm]
      rw [hm] at kc
      rw [hR]
      cases hx : evT (evM l r) v0 tr with
      | error e =>
        rw [hx] at ec
        simp only [madeA, evA, v0, eV] at kc ec ⊢
        (repeat' (first | refine awp_seq ?_ | refine awp_block ?_ | refine awp_skip ?_ | refine awp_exit ?_ | ((first | refine rR (fun K kp hK hkp => ?_) | refine cR rc ?_ | refine cR kc ?_ | refine cR ec ?_ | refine iG ?_); simp (implicitDefEqProofs := false) (maxSteps := 2000000) (disch := omega) only [go_sem]; (repeat' (first | (refine hK _ ?_; clear hK hkp kp K) | (with_reducible refine And.intro ?_ ?_) | omega))) | ((first | refine aG (fun h => ?_) (fun h => ?_) | refine aD (fun h => ?_) (fun h => ?_) | refine aX (fun h => ?_) (fun h => ?_)) <;> simp only [h]) | refine awp_cond_t rfl ?_ | refine awp_cond_f rfl ?_ | ((refine awp_cond rfl (fun h => ?_) (fun h => ?_) <;> try simp only [ifs] at h) <;> (try (exfalso; omega))) | refine awp_ret ?_))
        (refine retA_is (by (simp (implicitDefEqProofs := false) (maxSteps := 2000000) (disch := omega) only [go_sem, Go.Proofs.Tryz.results5]); rfl) ?_; refine eN hE ?_; simp [oneA, ren, renL])
      | ok x =>
        rw [hx] at ec
        simp only [madeA, evA, v0, eV] at kc ec ⊢
        (repeat' (first | refine awp_seq ?_ | refine awp_block ?_ | refine awp_skip ?_ | refine awp_exit ?_ | ((first | refine rR (fun K kp hK hkp => ?_) | refine cR rc ?_ | refine cR kc ?_ | refine cR ec ?_ | refine iG ?_); simp (implicitDefEqProofs := false) (maxSteps := 2000000) (disch := omega) only [go_sem]; (repeat' (first | (refine hK _ ?_; clear hK hkp kp K) | (with_reducible refine And.intro ?_ ?_) | omega))) | ((first | refine aG (fun h => ?_) (fun h => ?_) | refine aD (fun h => ?_) (fun h => ?_) | refine aX (fun h => ?_) (fun h => ?_)) <;> simp only [h]) | refine awp_cond_t rfl ?_ | refine awp_cond_f rfl ?_ | ((refine awp_cond rfl (fun h => ?_) (fun h => ?_) <;> try simp only [ifs] at h) <;> (try (exfalso; omega))) | refine awp_ret ?_))
        (refine retA_is (by (simp (implicitDefEqProofs := false) (maxSteps := 2000000) (disch := omega) only [go_sem, Go.Proofs.Tryz.results5]); rfl) ?_; refine eN hE ?_; simp [oneA, ren, renL])
  · have b0 : (rowsM l r != 0) = true := by simpa using h0
    have hR : evalR l r ops tr = .error (rowsM l r) := by rw [evalR, if_pos h0]
    rw [hR]
    simp only [evA, v0, eV]
    (repeat' (first | refine awp_seq ?_ | refine awp_block ?_ | refine awp_skip ?_ | refine awp_exit ?_ | ((first | refine rR (fun K kp hK hkp => ?_) | refine cR rc ?_ | refine iG ?_); simp (implicitDefEqProofs := false) (maxSteps := 2000000) (disch := omega) only [go_sem, b0]; (repeat' (first | (refine hK _ ?_; clear hK hkp kp K) | (with_reducible refine And.intro ?_ ?_) | omega))) | ((first | refine aG (fun h => ?_) (fun h => ?_) | refine aD (fun h => ?_) (fun h => ?_) | refine aX (fun h => ?_) (fun h => ?_)) <;> simp only [h]) | refine awp_cond_t rfl ?_ | refine awp_cond_f rfl ?_ | ((refine awp_cond rfl (fun h => ?_) (fun h => ?_) <;> try simp only [ifs] at h) <;> (try (exfalso; omega))) | refine awp_ret ?_))
    (refine retA_is (by (simp (implicitDefEqProofs := false) (maxSteps := 2000000) (disch := omega) only [go_sem, Go.Proofs.Tryz.results5]); rfl) ?_; refine eN hE ?_; simp [oneA, ren, renL])
end Go.AM
/- Kinds: the reference's KindOf; the law ExprKinds. -/
namespace Go.AM
open Go Go.RowKit
open Go.Proofs.YtoecmmpjndcolaaGreatDoor (OP nameM litM exprM exprFrom stepM popsM)
attribute [local irreducible] AWP retA
set_option maxRecDepth 100000 in
theorem colsAndOps_con (G : List (Nat × List Value)) (l : List CO) (ops : List OP) (hl : l.length ≤ 1048576) (ho : ops.length ≤ 1048576) (hs : ∀ c ∈ l, okS c.nm) (hv : ∀ o ∈ ops, okO1 o) : Con Go.Proofs.Tryz.prog G 37 [.ro true 2 (l.map eC), .ro true 5 (ops.map eO)] [] 0 (Is (.r (.int .i64 (bothM l ops))) [] 0) No := by
  refine con_of_awp Go.Proofs.Tryz.func37 rfl (by kernel_rfl) (of_decide_eq_true (by kernel_rfl)) ?_; intro E hG hE; subst hG; simp only [ent]
  have cc := colsFault_con E.G l hl hs
  have ec := expressionFault_con E.G true ops ho hv
  (repeat' (first | refine awp_seq ?_ | refine awp_block ?_ | refine awp_skip ?_ | refine awp_exit ?_ | ((first | refine rR (fun K kp hK hkp => ?_) | refine cR cc ?_ | refine cR ec ?_ | refine iG ?_); simp (implicitDefEqProofs := false) (maxSteps := 2000000) (disch := omega) only [go_sem]; (repeat' (first | (refine hK _ ?_; clear hK hkp kp K) | (with_reducible refine And.intro ?_ ?_) | omega))) | ((first | refine aG (fun h => ?_) (fun h => ?_) | refine aD (fun h => ?_) (fun h => ?_) | refine aX (fun h => ?_) (fun h => ?_)) <;> simp only [h]) | refine awp_cond_t rfl ?_ | refine awp_cond_f rfl ?_ | ((refine awp_cond rfl (fun h => ?_) (fun h => ?_) <;> try simp only [ifs] at h) <;> (try (exfalso; omega))) | refine awp_ret ?_))
  all_goals (refine retA_is (by (simp (implicitDefEqProofs := false) (maxSteps := 2000000) (disch := omega) only [go_sem, Go.Proofs.Tryz.results37]); rfl) ?_; refine (embV_nil hE (by simp) ?_).s; clear hE cc ec; simp_all [oneA, ren, renL, bothM])
set_option maxRecDepth 100000 in
theorem kindOfRef_con (G : List (Nat × List Value)) (l : List CO) (ops : List OP) (tr : RT OP) (hl : l.length ≤ 1048576) (ho : ops.length ≤ 1048576) (hs : ∀ c ∈ l, okS c.nm) (hv : ∀ o ∈ ops, okO1 o) (ht : exprM ops = 0 → tr.wf arO ∧ tr.flat = ops) :
    Con Go.Proofs.Tryz.prog G 17 [.ro true 2 (l.map eC), .ro true 5 (ops.map eO)] [] 0 (Is (madeA (kindR l ops tr)) [] 0) No := by
  refine con_of_awp Go.Proofs.Tryz.func17 rfl (by kernel_rfl) (of_decide_eq_true (by kernel_rfl)) ?_; intro E hG hE; subst hG; simp only [ent]
  have cc := colsAndOps_con E.G l ops hl ho hs hv
  by_cases h0 : bothM l ops = 0
  · rw [h0] at cc
    have he : exprM ops = 0 := by
      unfold bothM at h0
      split at h0
      · rename_i h; exact (h h0).elim
      · exact h0
    obtain ⟨hw, hf⟩ := ht he
    obtain ⟨h40, hk, _⟩ := tree_of_expr he
    have kc := kindOfR_con E.G true true l hl tr hw (by rw [hf]; exact fun o ho => ⟨(hk o ho).1, (hk o ho).2.1⟩) (by rw [hf]; omega)
    rw [hf] at kc
    have hR : kindR l ops tr = evT (madeM l) 0 tr := by rw [kindR, if_neg (by simpa using h0)]
    rw [hR]
    cases hm : evT (madeM l) 0 tr with
    | error e =>
      rw [hm] at kc; simp only [madeA] at kc ⊢
      (repeat' (first | refine awp_seq ?_ | refine awp_block ?_ | refine awp_skip ?_ | refine awp_exit ?_ | ((first | refine rR (fun K kp hK hkp => ?_) | refine cR cc ?_ | refine cR kc ?_ | refine iG ?_); simp (implicitDefEqProofs := false) (maxSteps := 2000000) (disch := omega) only [go_sem]; (repeat' (first | (refine hK _ ?_; clear hK hkp kp K) | (with_reducible refine And.intro ?_ ?_) | omega))) | ((first | refine aG (fun h => ?_) (fun h => ?_) | refine aD (fun h => ?_) (fun h => ?_) | refine aX (fun h => ?_) (fun h => ?_)) <;> simp only [h]) | refine awp_cond_t rfl ?_ | refine awp_cond_f rfl ?_ | ((refine awp_cond rfl (fun h => ?_) (fun h => ?_) <;> try simp only [ifs] at h) <;> (try (exfalso; omega))) | refine awp_ret ?_))
      (refine retA_is (by (simp (implicitDefEqProofs := false) (maxSteps := 2000000) (disch := omega) only [go_sem, Go.Proofs.Tryz.results17]); rfl) ?_; refine eN hE ?_; simp [oneA, ren, renL])
    | ok k =>
      rw [hm] at kc; simp only [madeA] at kc ⊢
      (repeat' (first | refine awp_seq ?_ | refine awp_block ?_ | refine awp_skip ?_ | refine awp_exit ?_ | ((first | refine rR (fun K kp hK hkp => ?_) | refine cR cc ?_ | refine cR kc ?_ | refine iG ?_); simp (implicitDefEqProofs := false) (maxSteps := 2000000) (disch := omega) only [go_sem]; (repeat' (first | (refine hK _ ?_; clear hK hkp kp K) | (with_reducible refine And.intro ?_ ?_) | omega))) | ((first | refine aG (fun h => ?_) (fun h => ?_) | refine aD (fun h => ?_) (fun h => ?_) | refine aX (fun h => ?_) (fun h => ?_)) <;> simp only [h]) | refine awp_cond_t rfl ?_ | refine awp_cond_f rfl ?_ | ((refine awp_cond rfl (fun h => ?_) (fun h => ?_) <;> try simp only [ifs] at h) <;> (try (exfalso; omega))) | refine awp_ret ?_))
      (refine retA_is (by (simp (implicitDefEqProofs := false) (maxSteps := 2000000) (disch := omega) only [go_sem, Go.Proofs.Tryz.results17]); rfl) ?_; refine eN hE ?_; simp [oneA, ren, renL])
  · have b0 : (bothM l ops != 0) = true := by simpa using h0
    have hR : kindR l ops tr = .error (bothM l ops) := by rw [kindR, if_pos h0]
    rw [hR]; simp only [madeA]
    (repeat' (first | refine awp_seq ?_ | refine awp_block ?_ | refine awp_skip ?_ | refine awp_exit ?_ | ((first | refine rR (fun K kp hK hkp => ?_) | refine cR cc ?_ | refine iG ?_); simp (implicitDefEqProofs := false) (maxSteps := 2000000) (disch := omega) only [go_sem, b0]; (repeat' (first | (refine hK _ ?_; clear hK hkp kp K) | (with_reducible refine And.intro ?_ ?_) | omega))) | ((first | refine aG (fun h => ?_) (fun h => ?_) | refine aD (fun h => ?_) (fun h => ?_) | refine aX (fun h => ?_) (fun h => ?_)) <;> simp only [h]) | refine awp_cond_t rfl ?_ | refine awp_cond_f rfl ?_ | ((refine awp_cond rfl (fun h => ?_) (fun h => ?_) <;> try simp only [ifs] at h) <;> (try (exfalso; omega))) | refine awp_ret ?_))
    (refine retA_is (by (simp (implicitDefEqProofs := false) (maxSteps := 2000000) (disch := omega) only [go_sem, Go.Proofs.Tryz.results17]); rfl) ?_; refine eN hE ?_; simp [oneA, ren, renL])
end Go.AM
/- Values of expressions: the reference's evaled and EvalOf; the law. -/
namespace Go.AM
open Go Go.RowKit
open Go.Proofs.YtoecmmpjndcolaaGreatDoor (OP nameM litM exprM exprFrom stepM popsM oneM twoM nov)
attribute [local irreducible] AWP retA
theorem evT_errV {l : List CO} {r : List V} : ∀ {tr : RT OP} {e : Int}, evT (evM l r) v0 tr = .error e → e ≠ 0
  | .l o, e, h => ev_err h
  | .u o s, e, h => by
    rw [evT] at h
    split at h
    · rename_i e' h'; cases h; exact evT_errV h'
    · exact ev_err h
  | .b o s t, e, h => by
    rw [evT] at h
    split at h
    · rename_i e' h'; cases h; exact evT_errV h'
    split at h
    · rename_i e' h'; cases h; exact evT_errV h'
    · exact ev_err h
set_option maxRecDepth 100000 in
set_option maxHeartbeats 8000000 in
theorem evaled_con (G : List (Nat × List Value)) (t : Bool) (l : List CO) (r : List V) (hl : l.length ≤ 1048576) (hr : r.length ≤ 1048576) (hlen : r.length = l.length) (hgr : ∀ v ∈ r, gV v) : ∀ tr : RT OP, tr.wf arO → (∀ o ∈ tr.flat, 1 ≤ o.k ∧ o.k ≤ 11) → (∀ o ∈ tr.flat, gV ⟨o.vk, o.vn, o.vs⟩) → (∀ o ∈ tr.flat, o.k = 2 → ¬ findM l o.nm < 0) → tr.flat.length ≤ 1000 → Con Go.Proofs.Tryz.prog G 18 [.ro true 2 (l.map eC), .ro true 3 (r.map eV), .ro t 5 (tr.flat.map eO)] [] 0 (Is (evA (evT (evM l r) v0 tr)) [] 0) No
  | .l o, hw, hk, hgo, hc, hn => by
    obtain ⟨k1, k11⟩ := hk o (by simp [RT.flat])
    simp only [RT.wf] at hw
    have hc := hc o (by simp [RT.flat])
    simp only [RT.flat, List.map_cons, List.map_nil, evT]
    refine con_of_awp Go.Proofs.Tryz.func18 rfl (by kernel_rfl) (of_decide_eq_true (by kernel_rfl)) ?_; intro E hG hE; subst hG; simp only [ent]
    have fc := colOf_con E.G true l o.nm hl
    obtain h | h := (ar_ks k1 k11).1 hw
    · (repeat' (first | refine awp_seq ?_ | refine awp_block ?_ | refine awp_skip ?_ | refine awp_exit ?_ | ((first | refine rR (fun K kp hK hkp => ?_) | refine iG ?_); simp (implicitDefEqProofs := false) (maxSteps := 2000000) (disch := omega) only [go_sem, eO, h]; (repeat' (first | (refine hK _ ?_; clear hK hkp kp K) | (with_reducible refine And.intro ?_ ?_) | omega))) | ((first | refine aG (fun h => ?_) (fun h => ?_) | refine aD (fun h => ?_) (fun h => ?_) | refine aX (fun h => ?_) (fun h => ?_)) <;> simp only [h]) | refine awp_cond_t rfl ?_ | refine awp_cond_f rfl ?_ | ((refine awp_cond rfl (fun h => ?_) (fun h => ?_) <;> try simp only [ifs] at h) <;> (try (exfalso; omega))) | refine awp_ret ?_))
      (refine retA_is (by (simp (implicitDefEqProofs := false) (maxSteps := 2000000) (disch := omega) only [go_sem, Go.Proofs.Tryz.results18, evM, h, evA, eV]); rfl) ?_; refine eN hE ?_; simp [oneA, ren, renL, evM, h, evA, eV])
    · obtain ⟨c, hc'⟩ := findM_lt l o.nm (hc h)
      have hi : (findM l o.nm).toNat < r.length := by rw [hlen]; exact (List.getElem?_eq_some_iff.1 hc').1
      obtain ⟨x, hx⟩ : ∃ x, r[(findM l o.nm).toNat]? = some x := ⟨r[(findM l o.nm).toNat], by simp [hi]⟩
      have hg : (0 ≤ findM l o.nm) = True := eq_true (by have := hc h; omega)
      (repeat' (first | refine awp_seq ?_ | refine awp_block ?_ | refine awp_skip ?_ | refine awp_exit ?_ | ((first | refine rR (fun K kp hK hkp => ?_) | refine cR fc ?_ | refine iG ?_); simp (implicitDefEqProofs := false) (maxSteps := 2000000) (disch := omega) only [go_sem, eO, eV, h, hx, hg]; (repeat' (first | (refine hK _ ?_; clear hK hkp kp K) | (with_reducible refine And.intro ?_ ?_) | omega))) | ((first | refine aG (fun h => ?_) (fun h => ?_) | refine aD (fun h => ?_) (fun h => ?_) | refine aX (fun h => ?_) (fun h => ?_)) <;> simp only [h]) | refine awp_cond_t rfl ?_ | refine awp_cond_f rfl ?_ | ((refine awp_cond rfl (fun h => ?_) (fun h => ?_) <;> try simp only [ifs] at h) <;> (try (exfalso; omega))) | refine awp_ret ?_))
      (refine retA_is (by (simp (implicitDefEqProofs := false) (maxSteps := 2000000) (disch := omega) only [go_sem, Go.Proofs.Tryz.results18, evM, h, hx, evA, eV]); rfl) ?_; refine eN hE ?_; simp [oneA, ren, renL, evM, h, hx, evA, eV])
  | .u o s, hw, hk, hgo, hc, hn => by
    obtain ⟨hw1, hw2⟩ := hw
    obtain ⟨k1, k11⟩ := hk o (by simp [RT.flat])
    have ih := evaled_con G t l r hl hr hlen hgr s hw2 (fun x hx => hk x (by simp [RT.flat, hx])) (fun x hx => hgo x (by simp [RT.flat, hx])) (fun x hx => hc x (by simp [RT.flat, hx])) (by simp [RT.flat] at hn; omega)
    have hgs : ∀ o ∈ s.flat, gV ⟨o.vk, o.vn, o.vs⟩ := fun x hx => hgo x (by simp [RT.flat, hx])
    obtain ⟨ops, hops⟩ : ∃ ops, ops = (RT.u o s).flat := ⟨_, rfl⟩
    rw [← hops]
    obtain ⟨n, hne⟩ : ∃ n, n = s.flat.length := ⟨_, rfl⟩
    have hln : ops.length = n + 1 := by rw [hops, hne]; simp [RT.flat]
    have hx : ops[n]? = some o := by rw [hops, hne]; simp [RT.flat]
    have htk : ops.take n = s.flat := by rw [hops, hne]; simp [RT.flat]
    have e1 : (ops.length : Int) - 1 = (n : Nat) := by omega
    have hle : n ≤ 1000 := by rw [← hops] at hn; omega
    have hmt : s.flat.map eO = (ops.map eO).take n := by rw [← List.map_take, htk]
    rw [hmt] at ih
    have hle2 : (n : Int) ≤ ops.length := by omega
    have wc := works2_con G o.k
    have hpa : popsM o.k = 1 := by have := Go.Proofs.YtoecmmpjndcolaaGreatDoor.popsM_bd o.k; unfold arO at hw1; omega
    rw [hpa] at wc
    cases hm : evT (evM l r) v0 s with
    | error e =>
      have he : (e != 0) = true := by simp [evT_errV hm]
      rw [show evT (evM l r) v0 (RT.u o s) = .error e by rw [evT, hm]]
      rw [hm] at ih; simp only [evA, v0, eV] at ih ⊢
      obtain h | h := (ar_ks k1 k11).2.1 hw1
      all_goals
        rw [h] at wc
        refine con_of_awp Go.Proofs.Tryz.func18 rfl (by kernel_rfl) (of_decide_eq_true (by kernel_rfl)) ?_; intro E hG hE; subst hG; simp only [ent]
        (repeat' (first | refine awp_seq ?_ | refine awp_block ?_ | refine awp_skip ?_ | refine awp_exit ?_ | ((first | refine rR (fun K kp hK hkp => ?_) | refine cR wc ?_ | refine cR ih ?_ | refine iG ?_); simp (implicitDefEqProofs := false) (maxSteps := 2000000) (disch := omega) only [go_sem, eO, h, hx, e1, he]; (repeat' (first | (refine hK _ ?_; clear hK hkp kp K) | (with_reducible refine And.intro ?_ ?_) | omega))) | ((first | refine aG (fun h => ?_) (fun h => ?_) | refine aD (fun h => ?_) (fun h => ?_) | refine aX (fun h => ?_) (fun h => ?_)) <;> simp only [h]) | refine awp_cond_t rfl ?_ | refine awp_cond_f rfl ?_ | ((refine awp_cond rfl (fun h => ?_) (fun h => ?_) <;> try simp only [ifs] at h) <;> (try (exfalso; omega))) | refine awp_ret ?_))
        (refine retA_is (by (simp (implicitDefEqProofs := false) (maxSteps := 2000000) (disch := omega) only [go_sem, Go.Proofs.Tryz.results18]); rfl) ?_; refine eN hE ?_; simp [oneA, ren, renL])
    | ok a =>
      have ga := evT_good hgr hgs hm
      have oc := oneOf_con G o.k a ga.1
      rw [pair_one] at oc
      rw [show evT (evM l r) v0 (RT.u o s) = evM l r o a v0 by rw [evT, hm]]
      have hE : evM l r o a v0 = toE (oneM o.k a.k a.n a.s) := by
        obtain h | h := (ar_ks k1 k11).2.1 hw1 <;> simp [evM, h]
      rw [hE]
      rw [hm] at ih; simp only [evA, eV] at ih
      cases hq : toE (oneM o.k a.k a.n a.s) with
      | error e =>
        rw [hq] at oc; simp only [evA, eV, v0] at oc ⊢
        obtain h | h := (ar_ks k1 k11).2.1 hw1
        all_goals
          rw [h] at wc oc
          refine con_of_awp Go.Proofs.Tryz.func18 rfl (by kernel_rfl) (of_decide_eq_true (by kernel_rfl)) ?_; intro E hG hE; subst hG; simp only [ent]
          (repeat' (first | refine awp_seq ?_ | refine awp_block ?_ | refine awp_skip ?_ | refine awp_exit ?_ | ((first | refine rR (fun K kp hK hkp => ?_) | refine cR wc ?_ | refine cR ih ?_ | refine cR oc ?_ | refine iG ?_); simp (implicitDefEqProofs := false) (maxSteps := 2000000) (disch := omega) only [go_sem, eO, h, hx, e1]; (repeat' (first | (refine hK _ ?_; clear hK hkp kp K) | (with_reducible refine And.intro ?_ ?_) | omega))) | ((first | refine aG (fun h => ?_) (fun h => ?_) | refine aD (fun h => ?_) (fun h => ?_) | refine aX (fun h => ?_) (fun h => ?_)) <;> simp only [h]) | refine awp_cond_t rfl ?_ | refine awp_cond_f rfl ?_ | ((refine awp_cond rfl (fun h => ?_) (fun h => ?_) <;> try simp only [ifs] at h) <;> (try (exfalso; omega))) | refine awp_ret ?_))
          (refine retA_is (by (simp (implicitDefEqProofs := false) (maxSteps := 2000000) (disch := omega) only [go_sem, Go.Proofs.Tryz.results18]); rfl) ?_; refine eN hE ?_; simp [oneA, ren, renL])
      | ok x =>
        rw [hq] at oc; simp only [evA, eV] at oc ⊢
        obtain h | h := (ar_ks k1 k11).2.1 hw1
        all_goals
          rw [h] at wc oc
          refine con_of_awp Go.Proofs.Tryz.func18 rfl (by kernel_rfl) (of_decide_eq_true (by kernel_rfl)) ?_; intro E hG hE; subst hG; simp only [ent]
          (repeat' (first | refine awp_seq ?_ | refine awp_block ?_ | refine awp_skip ?_ | refine awp_exit ?_ | ((first | refine rR (fun K kp hK hkp => ?_) | refine cR wc ?_ | refine cR ih ?_ | refine cR oc ?_ | refine iG ?_); simp (implicitDefEqProofs := false) (maxSteps := 2000000) (disch := omega) only [go_sem, eO, h, hx, e1]; (repeat' (first | (refine hK _ ?_; clear hK hkp kp K) | (with_reducible refine And.intro ?_ ?_) | omega))) | ((first | refine aG (fun h => ?_) (fun h => ?_) | refine aD (fun h => ?_) (fun h => ?_) | refine aX (fun h => ?_) (fun h => ?_)) <;> simp only [h]) | refine awp_cond_t rfl ?_ | refine awp_cond_f rfl ?_ | ((refine awp_cond rfl (fun h => ?_) (fun h => ?_) <;> try simp only [ifs] at h) <;> (try (exfalso; omega))) | refine awp_ret ?_))
          (refine retA_is (by (simp (implicitDefEqProofs := false) (maxSteps := 2000000) (disch := omega) only [go_sem, Go.Proofs.Tryz.results18]); rfl) ?_; refine eN hE ?_; simp [oneA, ren, renL])
  | .b o p q, hw, hk, hgo, hc, hn => by
    obtain ⟨hw1, hw2, hw3⟩ := hw
    obtain ⟨k1, k11⟩ := hk o (by simp [RT.flat])
    have ihr := evaled_con G t l r hl hr hlen hgr p hw2 (fun x hx => hk x (by simp [RT.flat, hx])) (fun x hx => hgo x (by simp [RT.flat, hx])) (fun x hx => hc x (by simp [RT.flat, hx])) (by simp [RT.flat] at hn; omega)
    have ihs := evaled_con G t l r hl hr hlen hgr q hw3 (fun x hx => hk x (by simp [RT.flat, hx])) (fun x hx => hgo x (by simp [RT.flat, hx])) (fun x hx => hc x (by simp [RT.flat, hx])) (by simp [RT.flat] at hn; omega)
    have hgp : ∀ o ∈ p.flat, gV ⟨o.vk, o.vn, o.vs⟩ := fun x hx => hgo x (by simp [RT.flat, hx])
    have hgq : ∀ o ∈ q.flat, gV ⟨o.vk, o.vn, o.vs⟩ := fun x hx => hgo x (by simp [RT.flat, hx])
    obtain ⟨ops, hops⟩ : ∃ ops, ops = (RT.b o p q).flat := ⟨_, rfl⟩
    rw [← hops]
    obtain ⟨m, hme⟩ : ∃ m, m = p.flat.length := ⟨_, rfl⟩
    obtain ⟨n, hne⟩ : ∃ n, n = p.flat.length + q.flat.length := ⟨_, rfl⟩
    have hln : ops.length = n + 1 := by rw [hops, hne]; simp [RT.flat]; omega
    have hx : ops[n]? = some o := by rw [hops, hne, ← List.length_append]; simp only [RT.flat]; exact List.getElem?_concat_length
    have htk : ops.take n = p.flat ++ q.flat := by rw [hops, hne, ← List.length_append]; simp only [RT.flat]; exact List.take_left
    have htm : ops.take m = p.flat := by rw [hops, hme]; simp [RT.flat]
    have e1 : (ops.length : Int) - 1 = (n : Nat) := by omega
    have hle : n ≤ 1000 := by rw [← hops] at hn; omega
    have hmr : p.flat.map eO = (ops.map eO).take m := by rw [← List.map_take, htm]
    have hms : q.flat.map eO = ((ops.map eO).take n).drop m := by rw [← List.map_take, ← List.map_drop, htk, hme]; simp
    rw [hmr] at ihr
    rw [hms] at ihs
    have hbe : begM arO ops n = m := by rw [hops, hne, hme]; have := begM_tree (ar := arO) p.flat q [o] hw3; simpa [RT.flat] using this
    have bc := begins_con G t ops n (by rw [hops]; exact hn) (by omega) (by
      intro i k hi hc
      rcases Nat.eq_zero_or_pos i with rfl | h0
      · exfalso
        have hp := RT.flat_pos p
        unfold begM at hbe
        simp only [List.take_zero, List.reverse_nil, cnt, Nat.add_zero, Nat.sub_zero] at hc
        omega
      · exact h0)
    rw [hbe] at bc
    have wc := works2_con G o.k
    have hpa : popsM o.k = 2 := by have := Go.Proofs.YtoecmmpjndcolaaGreatDoor.popsM_bd o.k; unfold arO at hw1; omega
    rw [hpa] at wc
    cases hm1 : evT (evM l r) v0 p with
    | error e =>
      have he : (e != 0) = true := by simp [evT_errV hm1]
      rw [show evT (evM l r) v0 (RT.b o p q) = .error e by rw [evT, hm1]]
      rw [hm1] at ihr; simp only [evA, v0, eV] at ihr ⊢
      obtain h | h | h | h | h | h | h := (ar_ks k1 k11).2.2 hw1
      all_goals
        rw [h] at wc
        refine con_of_awp Go.Proofs.Tryz.func18 rfl (by kernel_rfl) (of_decide_eq_true (by kernel_rfl)) ?_; intro E hG hE; subst hG; simp only [ent]
        (repeat' (first | refine awp_seq ?_ | refine awp_block ?_ | refine awp_skip ?_ | refine awp_exit ?_ | ((first | refine rR (fun K kp hK hkp => ?_) | refine cR wc ?_ | refine cR ihr ?_ | refine cR bc ?_ | refine iG ?_); simp (implicitDefEqProofs := false) (maxSteps := 2000000) (disch := omega) only [go_sem, eO, h, hx, e1, he]; (repeat' (first | (refine hK _ ?_; clear hK hkp kp K) | (with_reducible refine And.intro ?_ ?_) | omega))) | ((first | refine aG (fun h => ?_) (fun h => ?_) | refine aD (fun h => ?_) (fun h => ?_) | refine aX (fun h => ?_) (fun h => ?_)) <;> simp only [h]) | refine awp_cond_t rfl ?_ | refine awp_cond_f rfl ?_ | ((refine awp_cond rfl (fun h => ?_) (fun h => ?_) <;> try simp only [ifs] at h) <;> (try (exfalso; omega))) | refine awp_ret ?_))
        (refine retA_is (by (simp (implicitDefEqProofs := false) (maxSteps := 2000000) (disch := omega) only [go_sem, Go.Proofs.Tryz.results18]); rfl) ?_; refine eN hE ?_; simp [oneA, ren, renL])
    | ok a =>
    cases hm2 : evT (evM l r) v0 q with
    | error e =>
      have he : (e != 0) = true := by simp [evT_errV hm2]
      rw [show evT (evM l r) v0 (RT.b o p q) = .error e by rw [evT, hm1, hm2]]
      rw [hm1] at ihr; rw [hm2] at ihs; simp only [evA, v0, eV] at ihr ihs ⊢
      obtain h | h | h | h | h | h | h := (ar_ks k1 k11).2.2 hw1
      all_goals
        rw [h] at wc
        refine con_of_awp Go.Proofs.Tryz.func18 rfl (by kernel_rfl) (of_decide_eq_true (by kernel_rfl)) ?_; intro E hG hE; subst hG; simp only [ent]
        (repeat' (first | refine awp_seq ?_ | refine awp_block ?_ | refine awp_skip ?_ | refine awp_exit ?_ | ((first | refine rR (fun K kp hK hkp => ?_) | refine cR wc ?_ | refine cR ihs ?_ | refine cR ihr ?_ | refine cR bc ?_ | refine iG ?_); simp (implicitDefEqProofs := false) (maxSteps := 2000000) (disch := omega) only [go_sem, eO, h, hx, e1, he]; (repeat' (first | (refine hK _ ?_; clear hK hkp kp K) | (with_reducible refine And.intro ?_ ?_) | omega))) | ((first | refine aG (fun h => ?_) (fun h => ?_) | refine aD (fun h => ?_) (fun h => ?_) | refine aX (fun h => ?_) (fun h => ?_)) <;> simp only [h]) | refine awp_cond_t rfl ?_ | refine awp_cond_f rfl ?_ | ((refine awp_cond rfl (fun h => ?_) (fun h => ?_) <;> try simp only [ifs] at h) <;> (try (exfalso; omega))) | refine awp_ret ?_))
        (refine retA_is (by (simp (implicitDefEqProofs := false) (maxSteps := 2000000) (disch := omega) only [go_sem, Go.Proofs.Tryz.results18]); rfl) ?_; refine eN hE ?_; simp [oneA, ren, renL])
    | ok b =>
      have ga := evT_good hgr hgp hm1
      have gb := evT_good hgr hgq hm2
      have tc := twoOf_con G o.k a b ga.1 gb.1 ga.2 gb.2
      rw [pair_two] at tc
      rw [show evT (evM l r) v0 (RT.b o p q) = evM l r o a b by rw [evT, hm1, hm2]]
      have hE : evM l r o a b = toE (twoM o.k a.k a.n a.s b.k b.n b.s) := by
        obtain h | h | h | h | h | h | h := (ar_ks k1 k11).2.2 hw1 <;> simp [evM, h]
      rw [hE]
      rw [hm1] at ihr; rw [hm2] at ihs; simp only [evA, eV] at ihr ihs
      cases hq : toE (twoM o.k a.k a.n a.s b.k b.n b.s) with
      | error e =>
        rw [hq] at tc; simp only [evA, eV, v0] at tc ⊢
        obtain h | h | h | h | h | h | h := (ar_ks k1 k11).2.2 hw1
        all_goals
          rw [h] at wc tc
          refine con_of_awp Go.Proofs.Tryz.func18 rfl (by kernel_rfl) (of_decide_eq_true (by kernel_rfl)) ?_; intro E hG hE; subst hG; simp only [ent]
          (repeat' (first | refine awp_seq ?_ | refine awp_block ?_ | refine awp_skip ?_ | refine awp_exit ?_ | ((first | refine rR (fun K kp hK hkp => ?_) | refine cR wc ?_ | refine cR ihs ?_ | refine cR ihr ?_ | refine cR bc ?_ | refine cR tc ?_ | refine iG ?_); simp (implicitDefEqProofs := false) (maxSteps := 2000000) (disch := omega) only [go_sem, eO, h, hx, e1]; (repeat' (first | (refine hK _ ?_; clear hK hkp kp K) | (with_reducible refine And.intro ?_ ?_) | omega))) | ((first | refine aG (fun h => ?_) (fun h => ?_) | refine aD (fun h => ?_) (fun h => ?_) | refine aX (fun h => ?_) (fun h => ?_)) <;> simp only [h]) | refine awp_cond_t rfl ?_ | refine awp_cond_f rfl ?_ | ((refine awp_cond rfl (fun h => ?_) (fun h => ?_) <;> try simp only [ifs] at h) <;> (try (exfalso; omega))) | refine awp_ret ?_))
          (refine retA_is (by (simp (implicitDefEqProofs := false) (maxSteps := 2000000) (disch := omega) only [go_sem, Go.Proofs.Tryz.results18]); rfl) ?_; refine eN hE ?_; simp [oneA, ren, renL])
      | ok x =>
        rw [hq] at tc; simp only [evA, eV] at tc ⊢
        obtain h | h | h | h | h | h | h := (ar_ks k1 k11).2.2 hw1
        all_goals
          rw [h] at wc tc
          refine con_of_awp Go.Proofs.Tryz.func18 rfl (by kernel_rfl) (of_decide_eq_true (by kernel_rfl)) ?_; intro E hG hE; subst hG; simp only [ent]
          (repeat' (first | refine awp_seq ?_ | refine awp_block ?_ | refine awp_skip ?_ | refine awp_exit ?_ | ((first | refine rR (fun K kp hK hkp => ?_) | refine cR wc ?_ | refine cR ihs ?_ | refine cR ihr ?_ | refine cR bc ?_ | refine cR tc ?_ | refine iG ?_); simp (implicitDefEqProofs := false) (maxSteps := 2000000) (disch := omega) only [go_sem, eO, h, hx, e1]; (repeat' (first | (refine hK _ ?_; clear hK hkp kp K) | (with_reducible refine And.intro ?_ ?_) | omega))) | ((first | refine aG (fun h => ?_) (fun h => ?_) | refine aD (fun h => ?_) (fun h => ?_) | refine aX (fun h => ?_) (fun h => ?_)) <;> simp only [h]) | refine awp_cond_t rfl ?_ | refine awp_cond_f rfl ?_ | ((refine awp_cond rfl (fun h => ?_) (fun h => ?_) <;> try simp only [ifs] at h) <;> (try (exfalso; omega))) | refine awp_ret ?_))
          (refine retA_is (by (simp (implicitDefEqProofs := false) (maxSteps := 2000000) (disch := omega) only [go_sem, Go.Proofs.Tryz.results18]); rfl) ?_; refine eN hE ?_; simp [oneA, ren, renL])
end Go.AM
/- Values of expressions: the reference's EvalOf. -/
namespace Go.AM
open Go Go.RowKit
open Go.Proofs.YtoecmmpjndcolaaGreatDoor (OP nameM litM exprM exprFrom stepM popsM oneM twoM nov)
attribute [local irreducible] AWP retA
set_option maxRecDepth 100000 in
theorem evalOf_con (G : List (Nat × List Value)) (l : List CO) (r : List V) (ops : List OP) (tr : RT OP) (hl : l.length ≤ 1048576) (hr : r.length ≤ 1048576) (ho : ops.length ≤ 1048576) (hs : ∀ c ∈ l, okS c.nm) (hgr : ∀ v ∈ r, gV v) (hv : ∀ o ∈ ops, okO1 o) (hgo : ∀ o ∈ ops, gV ⟨o.vk, o.vn, o.vs⟩) (ht : exprM ops = 0 → tr.wf arO ∧ tr.flat = ops) :
    Con Go.Proofs.Tryz.prog G 9 [.ro true 2 (l.map eC), .ro true 3 (r.map eV), .ro true 5 (ops.map eO)] [] 0 (Is (evA (evalR l r ops tr)) [] 0) No := by
  refine con_of_awp Go.Proofs.Tryz.func9 rfl (by kernel_rfl) (of_decide_eq_true (by kernel_rfl)) ?_; intro E hG hE; subst hG; simp only [ent]
  have rc := rowFault_con (G := E.G) l r hl hr hs (fun v hv => (hgr v hv).1)
  by_cases h0 : rowsM l r = 0
  · rw [h0] at rc
    have kc := kindOfRef_con E.G l ops tr hl ho hs hv ht
    cases hm : kindR l ops tr with
    | error e =>
      have he : (e != 0) = true := by simp [kindR_err hm]
      have hR : evalR l r ops tr = .error e := by rw [evalR, if_neg (by simpa using h0), hm]
      rw [hm] at kc
      rw [hR]
      simp only [madeA, evA, v0, eV] at kc ⊢
      (repeat' (first | refine awp_seq ?_ | refine awp_block ?_ | refine awp_skip ?_ | refine awp_exit ?_ | ((first | refine rR (fun K kp hK hkp => ?_) | refine cR rc ?_ | refine cR kc ?_ | refine iG ?_); simp (implicitDefEqProofs := false) (maxSteps := 2000000) (disch := omega) only [go_sem, he]; (repeat' (first | (refine hK _ ?_; clear hK hkp kp K) | (with_reducible refine And.intro ?_ ?_) | omega))) | ((first | refine aG (fun h => ?_) (fun h => ?_) | refine aD (fun h => ?_) (fun h => ?_) | refine aX (fun h => ?_) (fun h => ?_)) <;> simp only [h]) | refine awp_cond_t rfl ?_ | refine awp_cond_f rfl ?_ | ((refine awp_cond rfl (fun h => ?_) (fun h => ?_) <;> try simp only [ifs] at h) <;> (try (exfalso; omega))) | refine awp_ret ?_))
      (refine retA_is (by (simp (implicitDefEqProofs := false) (maxSteps := 2000000) (disch := omega) only [go_sem, Go.Proofs.Tryz.results9]); rfl) ?_; refine eN hE ?_; simp [oneA, ren, renL])
    | ok k =>
      obtain ⟨e1, e2⟩ := kind_ok hm
      obtain ⟨hw, hf⟩ := ht e1
      obtain ⟨h40, hk, _⟩ := tree_of_expr e1
      have hcf := cols_found hw e2
      have ec := evaled_con E.G true l r hl hr (rows_len h0) hgr tr hw (by rw [hf]; exact fun o ho => ⟨(hk o ho).1, (hk o ho).2.1⟩) (by rw [hf]; exact hgo) hcf (by rw [hf]; omega)
      rw [hf] at ec
      have hR : evalR l r ops tr = evT (evM l r) v0 tr := by rw [evalR, if_neg (by simpa using h0), hm]
      rw [hm] at kc
      rw [hR]
      cases hx : evT (evM l r) v0 tr with
      | error e =>
        rw [hx] at ec
        simp only [madeA, evA, v0, eV] at kc ec ⊢
        (repeat' (first | refine awp_seq ?_ | refine awp_block ?_ | refine awp_skip ?_ | refine awp_exit ?_ | ((first | refine rR (fun K kp hK hkp => ?_) | refine cR rc ?_ | refine cR kc ?_ | refine cR ec ?_ | refine iG ?_); simp (implicitDefEqProofs := false) (maxSteps := 2000000) (disch := omega) only [go_sem]; (repeat' (first | (refine hK _ ?_; clear hK hkp kp K) | (with_reducible refine And.intro ?_ ?_) | omega))) | ((first | refine aG (fun h => ?_) (fun h => ?_) | refine aD (fun h => ?_) (fun h => ?_) | refine aX (fun h => ?_) (fun h => ?_)) <;> simp only [h]) | refine awp_cond_t rfl ?_ | refine awp_cond_f rfl ?_ | ((refine awp_cond rfl (fun h => ?_) (fun h => ?_) <;> try simp only [ifs] at h) <;> (try (exfalso; omega))) | refine awp_ret ?_))
        (refine retA_is (by (simp (implicitDefEqProofs := false) (maxSteps := 2000000) (disch := omega) only [go_sem, Go.Proofs.Tryz.results9]); rfl) ?_; refine eN hE ?_; simp [oneA, ren, renL])
      | ok x =>
        rw [hx] at ec
        simp only [madeA, evA, v0, eV] at kc ec ⊢
        (repeat' (first | refine awp_seq ?_ | refine awp_block ?_ | refine awp_skip ?_ | refine awp_exit ?_ | ((first | refine rR (fun K kp hK hkp => ?_) | refine cR rc ?_ | refine cR kc ?_ | refine cR ec ?_ | refine iG ?_); simp (implicitDefEqProofs := false) (maxSteps := 2000000) (disch := omega) only [go_sem]; (repeat' (first | (refine hK _ ?_; clear hK hkp kp K) | (with_reducible refine And.intro ?_ ?_) | omega))) | ((first | refine aG (fun h => ?_) (fun h => ?_) | refine aD (fun h => ?_) (fun h => ?_) | refine aX (fun h => ?_) (fun h => ?_)) <;> simp only [h]) | refine awp_cond_t rfl ?_ | refine awp_cond_f rfl ?_ | ((refine awp_cond rfl (fun h => ?_) (fun h => ?_) <;> try simp only [ifs] at h) <;> (try (exfalso; omega))) | refine awp_ret ?_))
        (refine retA_is (by (simp (implicitDefEqProofs := false) (maxSteps := 2000000) (disch := omega) only [go_sem, Go.Proofs.Tryz.results9]); rfl) ?_; refine eN hE ?_; simp [oneA, ren, renL])
  · have b0 : (rowsM l r != 0) = true := by simpa using h0
    have b1 : (rowsM l r == 0) = false := by simpa using h0
    have hR : evalR l r ops tr = .error (rowsM l r) := by rw [evalR, if_pos h0]
    rw [hR]
    simp only [evA, v0, eV]
    (repeat' (first | refine awp_seq ?_ | refine awp_block ?_ | refine awp_skip ?_ | refine awp_exit ?_ | ((first | refine rR (fun K kp hK hkp => ?_) | refine cR rc ?_ | refine iG ?_); simp (implicitDefEqProofs := false) (maxSteps := 2000000) (disch := omega) only [go_sem, b0, b1]; (repeat' (first | (refine hK _ ?_; clear hK hkp kp K) | (with_reducible refine And.intro ?_ ?_) | omega))) | ((first | refine aG (fun h => ?_) (fun h => ?_) | refine aD (fun h => ?_) (fun h => ?_) | refine aX (fun h => ?_) (fun h => ?_)) <;> simp only [h]) | refine awp_cond_t rfl ?_ | refine awp_cond_f rfl ?_ | ((refine awp_cond rfl (fun h => ?_) (fun h => ?_) <;> try simp only [ifs] at h) <;> (try (exfalso; omega))) | refine awp_ret ?_))
    (refine retA_is (by (simp (implicitDefEqProofs := false) (maxSteps := 2000000) (disch := omega) only [go_sem, Go.Proofs.Tryz.results9]); rfl) ?_; refine eN hE ?_; simp [oneA, ren, renL])
end Go.AM
/- The law ExprEvals. -/
namespace Go.AM
open Go Go.RowKit
open Go.Proofs.YtoecmmpjndcolaaGreatDoor (OP nameM litM exprM exprFrom stepM popsM)
attribute [local irreducible] AWP retA
set_option maxRecDepth 100000 in
theorem lawEvals_con {G : List (Nat × List Value)} (T : Tabs G) (l : List CO) (r : List V) (ops : List OP) (hl : l.length ≤ 1048576) (hr : r.length ≤ 1048576) (ho : ops.length ≤ 1048576) (hs : ∀ c ∈ l, okS c.nm) (hgr : ∀ v ∈ r, gV v) (hv : ∀ o ∈ ops, okO1 o) (hgo : ∀ o ∈ ops, gV ⟨o.vk, o.vn, o.vs⟩) : Con Go.Proofs.Tryz.prog G 3 [.ro true 2 (l.map eC), .ro true 3 (r.map eV), .ro true 5 (ops.map eO)] [] 0 (Is (.r (.bool true)) [] 0) No := by
  refine con_of_awp Go.Proofs.Tryz.func3 rfl (by kernel_rfl) (of_decide_eq_true (by kernel_rfl)) ?_; intro E hG hE; subst hG; simp only [ent]
  obtain ⟨tr, ht⟩ : ∃ tr : RT OP, exprM ops = 0 → tr.wf arO ∧ tr.flat = ops := by
    by_cases he : exprM ops = 0
    · obtain ⟨_, _, tr, h1, h2⟩ := tree_of_expr he; exact ⟨tr, fun _ => ⟨h1, h2⟩⟩
    · exact ⟨.l ⟨0, 0, 0, ⟨#[]⟩, ⟨#[]⟩⟩, fun h => (he h).elim⟩
  have pc := exprEval_con T l r ops tr hl hr ho hs hgr hv hgo ht
  have rc := evalOf_con E.G l r ops tr hl hr ho hs hgr hv hgo ht
  cases hm : evalR l r ops tr with
  | error e =>
    rw [hm] at pc rc; simp only [evA, v0, eV] at pc rc
    (repeat' (first | refine awp_seq ?_ | refine awp_block ?_ | refine awp_skip ?_ | refine awp_exit ?_ | ((first | refine rR (fun K kp hK hkp => ?_) | refine cR (cols_copy _ _ _ hl) ?_ | refine cR (values_copy _ _ _ hr) ?_ | refine cR (ops_copy _ _ _ ho) ?_ | refine cR pc ?_ | refine cR rc ?_ | refine iG ?_); simp (implicitDefEqProofs := false) (maxSteps := 2000000) (disch := omega) only [go_sem]; (repeat' (first | (refine hK _ ?_; clear hK hkp kp K) | (with_reducible refine And.intro ?_ ?_) | omega))) | ((first | refine aG (fun h => ?_) (fun h => ?_) | refine aD (fun h => ?_) (fun h => ?_) | refine aX (fun h => ?_) (fun h => ?_)) <;> simp only [h]) | refine awp_cond_t rfl ?_ | refine awp_cond_f rfl ?_ | ((refine awp_cond rfl (fun h => ?_) (fun h => ?_) <;> try simp only [ifs] at h) <;> (try (exfalso; omega))) | refine awp_ret ?_))
    (refine retA_is (by (simp (implicitDefEqProofs := false) (maxSteps := 2000000) (disch := omega) only [go_sem, Go.Proofs.Tryz.results3]); rfl) ?_; refine eN hE ?_; simp [oneA, ren, renL])
  | ok k =>
    rw [hm] at pc rc; simp only [evA, eV] at pc rc
    (repeat' (first | refine awp_seq ?_ | refine awp_block ?_ | refine awp_skip ?_ | refine awp_exit ?_ | ((first | refine rR (fun K kp hK hkp => ?_) | refine cR (cols_copy _ _ _ hl) ?_ | refine cR (values_copy _ _ _ hr) ?_ | refine cR (ops_copy _ _ _ ho) ?_ | refine cR pc ?_ | refine cR rc ?_ | refine iG ?_); simp (implicitDefEqProofs := false) (maxSteps := 2000000) (disch := omega) only [go_sem]; (repeat' (first | (refine hK _ ?_; clear hK hkp kp K) | (with_reducible refine And.intro ?_ ?_) | omega))) | ((first | refine aG (fun h => ?_) (fun h => ?_) | refine aD (fun h => ?_) (fun h => ?_) | refine aX (fun h => ?_) (fun h => ?_)) <;> simp only [h]) | refine awp_cond_t rfl ?_ | refine awp_cond_f rfl ?_ | ((refine awp_cond rfl (fun h => ?_) (fun h => ?_) <;> try simp only [ifs] at h) <;> (try (exfalso; omega))) | refine awp_ret ?_))
    (refine retA_is (by (simp (implicitDefEqProofs := false) (maxSteps := 2000000) (disch := omega) only [go_sem, Go.Proofs.Tryz.results3]); rfl) ?_; refine eN hE ?_; simp [oneA, ren, renL])
end Go.AM
