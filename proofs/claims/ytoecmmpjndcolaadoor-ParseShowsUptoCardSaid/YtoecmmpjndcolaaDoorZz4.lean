/- Texts of the law ParseChecks, part 4: lemmas; what is proved stands in the last text. -/
import Derived.Test.YtoecmmpjndcolaaDoorZz3
import Derived.Test.YtoecmmpjndcolaaDoorZz2
set_option linter.unusedSimpArgs false
set_option linter.unusedVariables false
/- Statements: what the program checks of them. -/
namespace Go.AM
open Go Go.RowKit
open Go.Proofs.YtoecmmpjndcolaaDoor (OP nameM litM exprM marksS wordsS StrsAt str SlAt)
attribute [local irreducible] AWP retA
def emp (s : ByteArray) : Bool := s.toList == ByteArray.toList ⟨#[]⟩
def hasN (s : ST) : Bool := decide ((s.names.length : Int) > 0)
def pickM (s : ST) : Int :=
  if 6 < s.names.length then 1 else if s.lim < -1 then 3 else if (s.count && hasN s) || (s.down && emp s.ord) then 6
  else if namesM s.names ≠ 0 then namesM s.names else if whereM s.wh ≠ 0 then whereM s.wh else if emp s.ord then 0 else nameM s.ord
/-- What is asked of a statement's texts and lists: what all that come in have. -/
structure okST (s : ST) : Prop where
  tab : okS s.tab
  cols : ∀ c ∈ s.cols, okS c.nm
  row : ∀ v ∈ s.row, okS v.s
  names : ∀ n ∈ s.names, okS n
  wh : ∀ o ∈ s.wh, okO1 o
  ord : okS s.ord
  set : okS s.set
  to : ∀ o ∈ s.to, okO1 o
  lc : s.cols.length ≤ 1048576
  lr : s.row.length ≤ 1048576
  ln : s.names.length ≤ 1048576
  lw : s.wh.length ≤ 1048576
  lt : s.to.length ≤ 1048576

set_option maxRecDepth 100000 in
set_option maxHeartbeats 8000000 in
theorem pick_con {G : List (Nat × List Value)} (T : Tabs G) (s : ST) (o : okST s) : Con Go.Proofs.Tryd.prog G 61 [.agg (eST s)] [] 0 (Is (.r (.int .i64 (pickM s))) [] 0) No := by
  refine con_of_awp Go.Proofs.Tryd.func61 rfl (by kernel_rfl) (of_decide_eq_true (by kernel_rfl)) ?_; intro E hG hE; subst hG; simp only [ent]
  have nc := names_con T true s.names o.ln o.names
  have wc := where_con T true s.wh o.lw o.wh
  have oc := name_con T s.ord o.ord
  by_cases h6 : 6 < s.names.length
  · have d1 : decide ((s.names.length : Int) > 6) = true := decide_eq_true (by omega)
    (repeat' (first | refine awp_seq ?_ | refine awp_block ?_ | refine awp_skip ?_ | refine awp_exit ?_ | ((first | refine awp_r (by kernel_rfl) (fun K kp hK hkp => ?_)); simp (implicitDefEqProofs := false) (maxSteps := 2000000) (disch := omega) only [go_sem, eST, d1]; (repeat' (first | (refine hK _ ?_; clear hK hkp kp K) | (with_reducible refine And.intro ?_ ?_) | omega))) | ((first | refine goG_ask (fun h => ?_) (fun h => ?_) | refine goGD_ask (fun h => ?_) (fun h => ?_) | refine goGX_ask (fun h => ?_) (fun h => ?_)) <;> (simp (implicitDefEqProofs := false) (maxSteps := 2000000) (disch := omega) only [go_sem, eST, d1, h]; (repeat' (first | (refine hK _ ?_; clear hK hkp kp K) | (with_reducible refine And.intro ?_ ?_) | omega)))) | refine awp_cond_t rfl ?_ | refine awp_cond_f rfl ?_ | ((refine awp_cond rfl (fun h => ?_) (fun h => ?_) <;> try simp only [decide_eq_true_eq, decide_eq_false_iff_not, Int.not_lt, Int.not_le, Bool.not_eq_true, Bool.not_eq_false, bne_iff_ne, ne_eq, beq_iff_eq, bne_eq_false_iff_eq, beq_eq_false_iff_ne] at h) <;> (try (exfalso; omega))) | refine awp_ret ?_))
    (refine retA_is (by (simp (implicitDefEqProofs := false) (maxSteps := 2000000) (disch := omega) only [go_sem, Go.Proofs.Tryd.results61, pickM, h6]); rfl) ?_; refine (embV_nil hE (by simp) ?_).s; simp [oneA, ren, renL, pickM, h6])
  have d1 : decide ((s.names.length : Int) > 6) = false := decide_eq_false (by omega)
  by_cases hl : s.lim < -1
  · have d2 : decide (s.lim < -1) = true := decide_eq_true hl
    (repeat' (first | refine awp_seq ?_ | refine awp_block ?_ | refine awp_skip ?_ | refine awp_exit ?_ | ((first | refine awp_r (by kernel_rfl) (fun K kp hK hkp => ?_)); simp (implicitDefEqProofs := false) (maxSteps := 2000000) (disch := omega) only [go_sem, eST, d1, d2]; (repeat' (first | (refine hK _ ?_; clear hK hkp kp K) | (with_reducible refine And.intro ?_ ?_) | omega))) | ((first | refine goG_ask (fun h => ?_) (fun h => ?_) | refine goGD_ask (fun h => ?_) (fun h => ?_) | refine goGX_ask (fun h => ?_) (fun h => ?_)) <;> (simp (implicitDefEqProofs := false) (maxSteps := 2000000) (disch := omega) only [go_sem, eST, d1, d2, h]; (repeat' (first | (refine hK _ ?_; clear hK hkp kp K) | (with_reducible refine And.intro ?_ ?_) | omega)))) | refine awp_cond_t rfl ?_ | refine awp_cond_f rfl ?_ | ((refine awp_cond rfl (fun h => ?_) (fun h => ?_) <;> try simp only [decide_eq_true_eq, decide_eq_false_iff_not, Int.not_lt, Int.not_le, Bool.not_eq_true, Bool.not_eq_false, bne_iff_ne, ne_eq, beq_iff_eq, bne_eq_false_iff_eq, beq_eq_false_iff_ne] at h) <;> (try (exfalso; omega))) | refine awp_ret ?_))
    (refine retA_is (by (simp (implicitDefEqProofs := false) (maxSteps := 2000000) (disch := omega) only [go_sem, Go.Proofs.Tryd.results61, pickM, h6, hl]); rfl) ?_; refine (embV_nil hE (by simp) ?_).s; simp [oneA, ren, renL, pickM, h6, hl])
  have d2 : decide (s.lim < -1) = false := decide_eq_false hl
  cases hc : s.count
  · skip
    cases hd : s.down
    · skip
      by_cases n0 : namesM s.names = 0
      · rw [n0] at nc
        by_cases w0 : whereM s.wh = 0
        · rw [w0] at wc
          cases ho2 : emp s.ord
          · have e2 : (s.ord.toList == ByteArray.toList ⟨#[]⟩) = false := ho2
            (repeat' (first | refine awp_seq ?_ | refine awp_block ?_ | refine awp_skip ?_ | refine awp_exit ?_ | ((first | refine awp_r (by kernel_rfl) (fun K kp hK hkp => ?_) | ((first | apply callR_i (nc) | apply callD_i (nc) | apply callX_i (nc)); (case hb => (simp (implicitDefEqProofs := false) (maxSteps := 2000000) (disch := omega) only [go_sem, eST, d1, d2, hc, hd, e2]; first | done | rfl)); (case hp => (first | (simp [-List.map_drop, -List.map_take, eST, d1, d2, hc, hd, e2]; done) | exact .ro _ _ (pt_map _ _))); (case hq => (first | (simp [-List.map_drop, -List.map_take]; done) | (intro _ h; simp only [List.mem_singleton] at h; subst h; exact pt_map _ _)))) | ((first | apply callR_i (wc) | apply callD_i (wc) | apply callX_i (wc)); (case hb => (simp (implicitDefEqProofs := false) (maxSteps := 2000000) (disch := omega) only [go_sem, eST, d1, d2, hc, hd, e2]; first | done | rfl)); (case hp => (first | (simp [-List.map_drop, -List.map_take, eST, d1, d2, hc, hd, e2]; done) | exact .ro _ _ (pt_map _ _))); (case hq => (first | (simp [-List.map_drop, -List.map_take]; done) | (intro _ h; simp only [List.mem_singleton] at h; subst h; exact pt_map _ _)))) | ((first | apply callR_i (oc) | apply callD_i (oc) | apply callX_i (oc)); (case hb => (simp (implicitDefEqProofs := false) (maxSteps := 2000000) (disch := omega) only [go_sem, eST, d1, d2, hc, hd, e2]; first | done | rfl)); (case hp => (first | (simp [-List.map_drop, -List.map_take, eST, d1, d2, hc, hd, e2]; done) | exact .ro _ _ (pt_map _ _))); (case hq => (first | (simp [-List.map_drop, -List.map_take]; done) | (intro _ h; simp only [List.mem_singleton] at h; subst h; exact pt_map _ _))))); simp (implicitDefEqProofs := false) (maxSteps := 2000000) (disch := omega) only [go_sem, eST, d1, d2, hc, hd, e2]; (repeat' (first | (refine hK _ ?_; clear hK hkp kp K) | (with_reducible refine And.intro ?_ ?_) | omega))) | ((first | refine goG_ask (fun h => ?_) (fun h => ?_) | refine goGD_ask (fun h => ?_) (fun h => ?_) | refine goGX_ask (fun h => ?_) (fun h => ?_)) <;> (simp (implicitDefEqProofs := false) (maxSteps := 2000000) (disch := omega) only [go_sem, eST, d1, d2, hc, hd, e2, h]; (repeat' (first | (refine hK _ ?_; clear hK hkp kp K) | (with_reducible refine And.intro ?_ ?_) | omega)))) | refine awp_cond_t rfl ?_ | refine awp_cond_f rfl ?_ | ((refine awp_cond rfl (fun h => ?_) (fun h => ?_) <;> try simp only [decide_eq_true_eq, decide_eq_false_iff_not, Int.not_lt, Int.not_le, Bool.not_eq_true, Bool.not_eq_false, bne_iff_ne, ne_eq, beq_iff_eq, bne_eq_false_iff_eq, beq_eq_false_iff_ne] at h) <;> (try (exfalso; omega))) | refine awp_ret ?_))
            (refine retA_is (by (simp (implicitDefEqProofs := false) (maxSteps := 2000000) (disch := omega) only [go_sem, Go.Proofs.Tryd.results61, pickM, h6, hl, n0, w0, ho2, hc, hd]); rfl) ?_; refine (embV_nil hE (by simp) ?_).s; simp [oneA, ren, renL, pickM, h6, hl, n0, w0, ho2, hc, hd])
          · have e2 : (s.ord.toList == ByteArray.toList ⟨#[]⟩) = true := ho2
            first
              | (exfalso; simp_all; done)
              | ((repeat' (first | refine awp_seq ?_ | refine awp_block ?_ | refine awp_skip ?_ | refine awp_exit ?_ | ((first | refine awp_r (by kernel_rfl) (fun K kp hK hkp => ?_) | ((first | apply callR_i (nc) | apply callD_i (nc) | apply callX_i (nc)); (case hb => (simp (implicitDefEqProofs := false) (maxSteps := 2000000) (disch := omega) only [go_sem, eST, d1, d2, hc, hd, e2]; first | done | rfl)); (case hp => (first | (simp [-List.map_drop, -List.map_take, eST, d1, d2, hc, hd, e2]; done) | exact .ro _ _ (pt_map _ _))); (case hq => (first | (simp [-List.map_drop, -List.map_take]; done) | (intro _ h; simp only [List.mem_singleton] at h; subst h; exact pt_map _ _)))) | ((first | apply callR_i (wc) | apply callD_i (wc) | apply callX_i (wc)); (case hb => (simp (implicitDefEqProofs := false) (maxSteps := 2000000) (disch := omega) only [go_sem, eST, d1, d2, hc, hd, e2]; first | done | rfl)); (case hp => (first | (simp [-List.map_drop, -List.map_take, eST, d1, d2, hc, hd, e2]; done) | exact .ro _ _ (pt_map _ _))); (case hq => (first | (simp [-List.map_drop, -List.map_take]; done) | (intro _ h; simp only [List.mem_singleton] at h; subst h; exact pt_map _ _)))) | ((first | apply callR_i (oc) | apply callD_i (oc) | apply callX_i (oc)); (case hb => (simp (implicitDefEqProofs := false) (maxSteps := 2000000) (disch := omega) only [go_sem, eST, d1, d2, hc, hd, e2]; first | done | rfl)); (case hp => (first | (simp [-List.map_drop, -List.map_take, eST, d1, d2, hc, hd, e2]; done) | exact .ro _ _ (pt_map _ _))); (case hq => (first | (simp [-List.map_drop, -List.map_take]; done) | (intro _ h; simp only [List.mem_singleton] at h; subst h; exact pt_map _ _))))); simp (implicitDefEqProofs := false) (maxSteps := 2000000) (disch := omega) only [go_sem, eST, d1, d2, hc, hd, e2]; (repeat' (first | (refine hK _ ?_; clear hK hkp kp K) | (with_reducible refine And.intro ?_ ?_) | omega))) | ((first | refine goG_ask (fun h => ?_) (fun h => ?_) | refine goGD_ask (fun h => ?_) (fun h => ?_) | refine goGX_ask (fun h => ?_) (fun h => ?_)) <;> (simp (implicitDefEqProofs := false) (maxSteps := 2000000) (disch := omega) only [go_sem, eST, d1, d2, hc, hd, e2, h]; (repeat' (first | (refine hK _ ?_; clear hK hkp kp K) | (with_reducible refine And.intro ?_ ?_) | omega)))) | refine awp_cond_t rfl ?_ | refine awp_cond_f rfl ?_ | ((refine awp_cond rfl (fun h => ?_) (fun h => ?_) <;> try simp only [decide_eq_true_eq, decide_eq_false_iff_not, Int.not_lt, Int.not_le, Bool.not_eq_true, Bool.not_eq_false, bne_iff_ne, ne_eq, beq_iff_eq, bne_eq_false_iff_eq, beq_eq_false_iff_ne] at h) <;> (try (exfalso; omega))) | refine awp_ret ?_)); (refine retA_is (by (simp (implicitDefEqProofs := false) (maxSteps := 2000000) (disch := omega) only [go_sem, Go.Proofs.Tryd.results61, pickM, h6, hl, n0, w0, ho2, hc, hd]); rfl) ?_; refine (embV_nil hE (by simp) ?_).s; simp [oneA, ren, renL, pickM, h6, hl, n0, w0, ho2, hc, hd]))
        · have b2 : (whereM s.wh != 0) = true := by simpa using w0
          (repeat' (first | refine awp_seq ?_ | refine awp_block ?_ | refine awp_skip ?_ | refine awp_exit ?_ | ((first | refine awp_r (by kernel_rfl) (fun K kp hK hkp => ?_) | ((first | apply callR_i (nc) | apply callD_i (nc) | apply callX_i (nc)); (case hb => (simp (implicitDefEqProofs := false) (maxSteps := 2000000) (disch := omega) only [go_sem, eST, d1, d2, hc, hd, b2]; first | done | rfl)); (case hp => (first | (simp [-List.map_drop, -List.map_take, eST, d1, d2, hc, hd, b2]; done) | exact .ro _ _ (pt_map _ _))); (case hq => (first | (simp [-List.map_drop, -List.map_take]; done) | (intro _ h; simp only [List.mem_singleton] at h; subst h; exact pt_map _ _)))) | ((first | apply callR_i (wc) | apply callD_i (wc) | apply callX_i (wc)); (case hb => (simp (implicitDefEqProofs := false) (maxSteps := 2000000) (disch := omega) only [go_sem, eST, d1, d2, hc, hd, b2]; first | done | rfl)); (case hp => (first | (simp [-List.map_drop, -List.map_take, eST, d1, d2, hc, hd, b2]; done) | exact .ro _ _ (pt_map _ _))); (case hq => (first | (simp [-List.map_drop, -List.map_take]; done) | (intro _ h; simp only [List.mem_singleton] at h; subst h; exact pt_map _ _))))); simp (implicitDefEqProofs := false) (maxSteps := 2000000) (disch := omega) only [go_sem, eST, d1, d2, hc, hd, b2]; (repeat' (first | (refine hK _ ?_; clear hK hkp kp K) | (with_reducible refine And.intro ?_ ?_) | omega))) | ((first | refine goG_ask (fun h => ?_) (fun h => ?_) | refine goGD_ask (fun h => ?_) (fun h => ?_) | refine goGX_ask (fun h => ?_) (fun h => ?_)) <;> (simp (implicitDefEqProofs := false) (maxSteps := 2000000) (disch := omega) only [go_sem, eST, d1, d2, hc, hd, b2, h]; (repeat' (first | (refine hK _ ?_; clear hK hkp kp K) | (with_reducible refine And.intro ?_ ?_) | omega)))) | refine awp_cond_t rfl ?_ | refine awp_cond_f rfl ?_ | ((refine awp_cond rfl (fun h => ?_) (fun h => ?_) <;> try simp only [decide_eq_true_eq, decide_eq_false_iff_not, Int.not_lt, Int.not_le, Bool.not_eq_true, Bool.not_eq_false, bne_iff_ne, ne_eq, beq_iff_eq, bne_eq_false_iff_eq, beq_eq_false_iff_ne] at h) <;> (try (exfalso; omega))) | refine awp_ret ?_))
          (refine retA_is (by (simp (implicitDefEqProofs := false) (maxSteps := 2000000) (disch := omega) only [go_sem, Go.Proofs.Tryd.results61, pickM, h6, hl, n0, w0, hc, hd]); rfl) ?_; refine (embV_nil hE (by simp) ?_).s; simp [oneA, ren, renL, pickM, h6, hl, n0, w0, hc, hd])
      · have b1 : (namesM s.names != 0) = true := by simpa using n0
        (repeat' (first | refine awp_seq ?_ | refine awp_block ?_ | refine awp_skip ?_ | refine awp_exit ?_ | ((first | refine awp_r (by kernel_rfl) (fun K kp hK hkp => ?_) | ((first | apply callR_i (nc) | apply callD_i (nc) | apply callX_i (nc)); (case hb => (simp (implicitDefEqProofs := false) (maxSteps := 2000000) (disch := omega) only [go_sem, eST, d1, d2, hc, hd, b1]; first | done | rfl)); (case hp => (first | (simp [-List.map_drop, -List.map_take, eST, d1, d2, hc, hd, b1]; done) | exact .ro _ _ (pt_map _ _))); (case hq => (first | (simp [-List.map_drop, -List.map_take]; done) | (intro _ h; simp only [List.mem_singleton] at h; subst h; exact pt_map _ _))))); simp (implicitDefEqProofs := false) (maxSteps := 2000000) (disch := omega) only [go_sem, eST, d1, d2, hc, hd, b1]; (repeat' (first | (refine hK _ ?_; clear hK hkp kp K) | (with_reducible refine And.intro ?_ ?_) | omega))) | ((first | refine goG_ask (fun h => ?_) (fun h => ?_) | refine goGD_ask (fun h => ?_) (fun h => ?_) | refine goGX_ask (fun h => ?_) (fun h => ?_)) <;> (simp (implicitDefEqProofs := false) (maxSteps := 2000000) (disch := omega) only [go_sem, eST, d1, d2, hc, hd, b1, h]; (repeat' (first | (refine hK _ ?_; clear hK hkp kp K) | (with_reducible refine And.intro ?_ ?_) | omega)))) | refine awp_cond_t rfl ?_ | refine awp_cond_f rfl ?_ | ((refine awp_cond rfl (fun h => ?_) (fun h => ?_) <;> try simp only [decide_eq_true_eq, decide_eq_false_iff_not, Int.not_lt, Int.not_le, Bool.not_eq_true, Bool.not_eq_false, bne_iff_ne, ne_eq, beq_iff_eq, bne_eq_false_iff_eq, beq_eq_false_iff_ne] at h) <;> (try (exfalso; omega))) | refine awp_ret ?_))
        (refine retA_is (by (simp (implicitDefEqProofs := false) (maxSteps := 2000000) (disch := omega) only [go_sem, Go.Proofs.Tryd.results61, pickM, h6, hl, n0, hc, hd]); rfl) ?_; refine (embV_nil hE (by simp) ?_).s; simp [oneA, ren, renL, pickM, h6, hl, n0, hc, hd])
    cases ho : emp s.ord
    · have eo : (s.ord.toList == ByteArray.toList ⟨#[]⟩) = false := ho
      by_cases n0 : namesM s.names = 0
      · rw [n0] at nc
        by_cases w0 : whereM s.wh = 0
        · rw [w0] at wc
          cases ho2 : emp s.ord
          · have e2 : (s.ord.toList == ByteArray.toList ⟨#[]⟩) = false := ho2
            (repeat' (first | refine awp_seq ?_ | refine awp_block ?_ | refine awp_skip ?_ | refine awp_exit ?_ | ((first | refine awp_r (by kernel_rfl) (fun K kp hK hkp => ?_) | ((first | apply callR_i (nc) | apply callD_i (nc) | apply callX_i (nc)); (case hb => (simp (implicitDefEqProofs := false) (maxSteps := 2000000) (disch := omega) only [go_sem, eST, d1, d2, hc, hd, eo, e2]; first | done | rfl)); (case hp => (first | (simp [-List.map_drop, -List.map_take, eST, d1, d2, hc, hd, eo, e2]; done) | exact .ro _ _ (pt_map _ _))); (case hq => (first | (simp [-List.map_drop, -List.map_take]; done) | (intro _ h; simp only [List.mem_singleton] at h; subst h; exact pt_map _ _)))) | ((first | apply callR_i (wc) | apply callD_i (wc) | apply callX_i (wc)); (case hb => (simp (implicitDefEqProofs := false) (maxSteps := 2000000) (disch := omega) only [go_sem, eST, d1, d2, hc, hd, eo, e2]; first | done | rfl)); (case hp => (first | (simp [-List.map_drop, -List.map_take, eST, d1, d2, hc, hd, eo, e2]; done) | exact .ro _ _ (pt_map _ _))); (case hq => (first | (simp [-List.map_drop, -List.map_take]; done) | (intro _ h; simp only [List.mem_singleton] at h; subst h; exact pt_map _ _)))) | ((first | apply callR_i (oc) | apply callD_i (oc) | apply callX_i (oc)); (case hb => (simp (implicitDefEqProofs := false) (maxSteps := 2000000) (disch := omega) only [go_sem, eST, d1, d2, hc, hd, eo, e2]; first | done | rfl)); (case hp => (first | (simp [-List.map_drop, -List.map_take, eST, d1, d2, hc, hd, eo, e2]; done) | exact .ro _ _ (pt_map _ _))); (case hq => (first | (simp [-List.map_drop, -List.map_take]; done) | (intro _ h; simp only [List.mem_singleton] at h; subst h; exact pt_map _ _))))); simp (implicitDefEqProofs := false) (maxSteps := 2000000) (disch := omega) only [go_sem, eST, d1, d2, hc, hd, eo, e2]; (repeat' (first | (refine hK _ ?_; clear hK hkp kp K) | (with_reducible refine And.intro ?_ ?_) | omega))) | ((first | refine goG_ask (fun h => ?_) (fun h => ?_) | refine goGD_ask (fun h => ?_) (fun h => ?_) | refine goGX_ask (fun h => ?_) (fun h => ?_)) <;> (simp (implicitDefEqProofs := false) (maxSteps := 2000000) (disch := omega) only [go_sem, eST, d1, d2, hc, hd, eo, e2, h]; (repeat' (first | (refine hK _ ?_; clear hK hkp kp K) | (with_reducible refine And.intro ?_ ?_) | omega)))) | refine awp_cond_t rfl ?_ | refine awp_cond_f rfl ?_ | ((refine awp_cond rfl (fun h => ?_) (fun h => ?_) <;> try simp only [decide_eq_true_eq, decide_eq_false_iff_not, Int.not_lt, Int.not_le, Bool.not_eq_true, Bool.not_eq_false, bne_iff_ne, ne_eq, beq_iff_eq, bne_eq_false_iff_eq, beq_eq_false_iff_ne] at h) <;> (try (exfalso; omega))) | refine awp_ret ?_))
            (refine retA_is (by (simp (implicitDefEqProofs := false) (maxSteps := 2000000) (disch := omega) only [go_sem, Go.Proofs.Tryd.results61, pickM, h6, hl, n0, w0, ho2, hc, hd, ho]); rfl) ?_; refine (embV_nil hE (by simp) ?_).s; simp [oneA, ren, renL, pickM, h6, hl, n0, w0, ho2, hc, hd, ho])
          · have e2 : (s.ord.toList == ByteArray.toList ⟨#[]⟩) = true := ho2
            first
              | (exfalso; simp_all; done)
              | ((repeat' (first | refine awp_seq ?_ | refine awp_block ?_ | refine awp_skip ?_ | refine awp_exit ?_ | ((first | refine awp_r (by kernel_rfl) (fun K kp hK hkp => ?_) | ((first | apply callR_i (nc) | apply callD_i (nc) | apply callX_i (nc)); (case hb => (simp (implicitDefEqProofs := false) (maxSteps := 2000000) (disch := omega) only [go_sem, eST, d1, d2, hc, hd, eo, e2]; first | done | rfl)); (case hp => (first | (simp [-List.map_drop, -List.map_take, eST, d1, d2, hc, hd, eo, e2]; done) | exact .ro _ _ (pt_map _ _))); (case hq => (first | (simp [-List.map_drop, -List.map_take]; done) | (intro _ h; simp only [List.mem_singleton] at h; subst h; exact pt_map _ _)))) | ((first | apply callR_i (wc) | apply callD_i (wc) | apply callX_i (wc)); (case hb => (simp (implicitDefEqProofs := false) (maxSteps := 2000000) (disch := omega) only [go_sem, eST, d1, d2, hc, hd, eo, e2]; first | done | rfl)); (case hp => (first | (simp [-List.map_drop, -List.map_take, eST, d1, d2, hc, hd, eo, e2]; done) | exact .ro _ _ (pt_map _ _))); (case hq => (first | (simp [-List.map_drop, -List.map_take]; done) | (intro _ h; simp only [List.mem_singleton] at h; subst h; exact pt_map _ _)))) | ((first | apply callR_i (oc) | apply callD_i (oc) | apply callX_i (oc)); (case hb => (simp (implicitDefEqProofs := false) (maxSteps := 2000000) (disch := omega) only [go_sem, eST, d1, d2, hc, hd, eo, e2]; first | done | rfl)); (case hp => (first | (simp [-List.map_drop, -List.map_take, eST, d1, d2, hc, hd, eo, e2]; done) | exact .ro _ _ (pt_map _ _))); (case hq => (first | (simp [-List.map_drop, -List.map_take]; done) | (intro _ h; simp only [List.mem_singleton] at h; subst h; exact pt_map _ _))))); simp (implicitDefEqProofs := false) (maxSteps := 2000000) (disch := omega) only [go_sem, eST, d1, d2, hc, hd, eo, e2]; (repeat' (first | (refine hK _ ?_; clear hK hkp kp K) | (with_reducible refine And.intro ?_ ?_) | omega))) | ((first | refine goG_ask (fun h => ?_) (fun h => ?_) | refine goGD_ask (fun h => ?_) (fun h => ?_) | refine goGX_ask (fun h => ?_) (fun h => ?_)) <;> (simp (implicitDefEqProofs := false) (maxSteps := 2000000) (disch := omega) only [go_sem, eST, d1, d2, hc, hd, eo, e2, h]; (repeat' (first | (refine hK _ ?_; clear hK hkp kp K) | (with_reducible refine And.intro ?_ ?_) | omega)))) | refine awp_cond_t rfl ?_ | refine awp_cond_f rfl ?_ | ((refine awp_cond rfl (fun h => ?_) (fun h => ?_) <;> try simp only [decide_eq_true_eq, decide_eq_false_iff_not, Int.not_lt, Int.not_le, Bool.not_eq_true, Bool.not_eq_false, bne_iff_ne, ne_eq, beq_iff_eq, bne_eq_false_iff_eq, beq_eq_false_iff_ne] at h) <;> (try (exfalso; omega))) | refine awp_ret ?_)); (refine retA_is (by (simp (implicitDefEqProofs := false) (maxSteps := 2000000) (disch := omega) only [go_sem, Go.Proofs.Tryd.results61, pickM, h6, hl, n0, w0, ho2, hc, hd, ho]); rfl) ?_; refine (embV_nil hE (by simp) ?_).s; simp [oneA, ren, renL, pickM, h6, hl, n0, w0, ho2, hc, hd, ho]))
        · have b2 : (whereM s.wh != 0) = true := by simpa using w0
          (repeat' (first | refine awp_seq ?_ | refine awp_block ?_ | refine awp_skip ?_ | refine awp_exit ?_ | ((first | refine awp_r (by kernel_rfl) (fun K kp hK hkp => ?_) | ((first | apply callR_i (nc) | apply callD_i (nc) | apply callX_i (nc)); (case hb => (simp (implicitDefEqProofs := false) (maxSteps := 2000000) (disch := omega) only [go_sem, eST, d1, d2, hc, hd, eo, b2]; first | done | rfl)); (case hp => (first | (simp [-List.map_drop, -List.map_take, eST, d1, d2, hc, hd, eo, b2]; done) | exact .ro _ _ (pt_map _ _))); (case hq => (first | (simp [-List.map_drop, -List.map_take]; done) | (intro _ h; simp only [List.mem_singleton] at h; subst h; exact pt_map _ _)))) | ((first | apply callR_i (wc) | apply callD_i (wc) | apply callX_i (wc)); (case hb => (simp (implicitDefEqProofs := false) (maxSteps := 2000000) (disch := omega) only [go_sem, eST, d1, d2, hc, hd, eo, b2]; first | done | rfl)); (case hp => (first | (simp [-List.map_drop, -List.map_take, eST, d1, d2, hc, hd, eo, b2]; done) | exact .ro _ _ (pt_map _ _))); (case hq => (first | (simp [-List.map_drop, -List.map_take]; done) | (intro _ h; simp only [List.mem_singleton] at h; subst h; exact pt_map _ _))))); simp (implicitDefEqProofs := false) (maxSteps := 2000000) (disch := omega) only [go_sem, eST, d1, d2, hc, hd, eo, b2]; (repeat' (first | (refine hK _ ?_; clear hK hkp kp K) | (with_reducible refine And.intro ?_ ?_) | omega))) | ((first | refine goG_ask (fun h => ?_) (fun h => ?_) | refine goGD_ask (fun h => ?_) (fun h => ?_) | refine goGX_ask (fun h => ?_) (fun h => ?_)) <;> (simp (implicitDefEqProofs := false) (maxSteps := 2000000) (disch := omega) only [go_sem, eST, d1, d2, hc, hd, eo, b2, h]; (repeat' (first | (refine hK _ ?_; clear hK hkp kp K) | (with_reducible refine And.intro ?_ ?_) | omega)))) | refine awp_cond_t rfl ?_ | refine awp_cond_f rfl ?_ | ((refine awp_cond rfl (fun h => ?_) (fun h => ?_) <;> try simp only [decide_eq_true_eq, decide_eq_false_iff_not, Int.not_lt, Int.not_le, Bool.not_eq_true, Bool.not_eq_false, bne_iff_ne, ne_eq, beq_iff_eq, bne_eq_false_iff_eq, beq_eq_false_iff_ne] at h) <;> (try (exfalso; omega))) | refine awp_ret ?_))
          (refine retA_is (by (simp (implicitDefEqProofs := false) (maxSteps := 2000000) (disch := omega) only [go_sem, Go.Proofs.Tryd.results61, pickM, h6, hl, n0, w0, hc, hd, ho]); rfl) ?_; refine (embV_nil hE (by simp) ?_).s; simp [oneA, ren, renL, pickM, h6, hl, n0, w0, hc, hd, ho])
      · have b1 : (namesM s.names != 0) = true := by simpa using n0
        (repeat' (first | refine awp_seq ?_ | refine awp_block ?_ | refine awp_skip ?_ | refine awp_exit ?_ | ((first | refine awp_r (by kernel_rfl) (fun K kp hK hkp => ?_) | ((first | apply callR_i (nc) | apply callD_i (nc) | apply callX_i (nc)); (case hb => (simp (implicitDefEqProofs := false) (maxSteps := 2000000) (disch := omega) only [go_sem, eST, d1, d2, hc, hd, eo, b1]; first | done | rfl)); (case hp => (first | (simp [-List.map_drop, -List.map_take, eST, d1, d2, hc, hd, eo, b1]; done) | exact .ro _ _ (pt_map _ _))); (case hq => (first | (simp [-List.map_drop, -List.map_take]; done) | (intro _ h; simp only [List.mem_singleton] at h; subst h; exact pt_map _ _))))); simp (implicitDefEqProofs := false) (maxSteps := 2000000) (disch := omega) only [go_sem, eST, d1, d2, hc, hd, eo, b1]; (repeat' (first | (refine hK _ ?_; clear hK hkp kp K) | (with_reducible refine And.intro ?_ ?_) | omega))) | ((first | refine goG_ask (fun h => ?_) (fun h => ?_) | refine goGD_ask (fun h => ?_) (fun h => ?_) | refine goGX_ask (fun h => ?_) (fun h => ?_)) <;> (simp (implicitDefEqProofs := false) (maxSteps := 2000000) (disch := omega) only [go_sem, eST, d1, d2, hc, hd, eo, b1, h]; (repeat' (first | (refine hK _ ?_; clear hK hkp kp K) | (with_reducible refine And.intro ?_ ?_) | omega)))) | refine awp_cond_t rfl ?_ | refine awp_cond_f rfl ?_ | ((refine awp_cond rfl (fun h => ?_) (fun h => ?_) <;> try simp only [decide_eq_true_eq, decide_eq_false_iff_not, Int.not_lt, Int.not_le, Bool.not_eq_true, Bool.not_eq_false, bne_iff_ne, ne_eq, beq_iff_eq, bne_eq_false_iff_eq, beq_eq_false_iff_ne] at h) <;> (try (exfalso; omega))) | refine awp_ret ?_))
        (refine retA_is (by (simp (implicitDefEqProofs := false) (maxSteps := 2000000) (disch := omega) only [go_sem, Go.Proofs.Tryd.results61, pickM, h6, hl, n0, hc, hd, ho]); rfl) ?_; refine (embV_nil hE (by simp) ?_).s; simp [oneA, ren, renL, pickM, h6, hl, n0, hc, hd, ho])
    · have eo : (s.ord.toList == ByteArray.toList ⟨#[]⟩) = true := ho
      (repeat' (first | refine awp_seq ?_ | refine awp_block ?_ | refine awp_skip ?_ | refine awp_exit ?_ | ((first | refine awp_r (by kernel_rfl) (fun K kp hK hkp => ?_)); simp (implicitDefEqProofs := false) (maxSteps := 2000000) (disch := omega) only [go_sem, eST, d1, d2, hc, hd, eo]; (repeat' (first | (refine hK _ ?_; clear hK hkp kp K) | (with_reducible refine And.intro ?_ ?_) | omega))) | ((first | refine goG_ask (fun h => ?_) (fun h => ?_) | refine goGD_ask (fun h => ?_) (fun h => ?_) | refine goGX_ask (fun h => ?_) (fun h => ?_)) <;> (simp (implicitDefEqProofs := false) (maxSteps := 2000000) (disch := omega) only [go_sem, eST, d1, d2, hc, hd, eo, h]; (repeat' (first | (refine hK _ ?_; clear hK hkp kp K) | (with_reducible refine And.intro ?_ ?_) | omega)))) | refine awp_cond_t rfl ?_ | refine awp_cond_f rfl ?_ | ((refine awp_cond rfl (fun h => ?_) (fun h => ?_) <;> try simp only [decide_eq_true_eq, decide_eq_false_iff_not, Int.not_lt, Int.not_le, Bool.not_eq_true, Bool.not_eq_false, bne_iff_ne, ne_eq, beq_iff_eq, bne_eq_false_iff_eq, beq_eq_false_iff_ne] at h) <;> (try (exfalso; omega))) | refine awp_ret ?_))
      (refine retA_is (by (simp (implicitDefEqProofs := false) (maxSteps := 2000000) (disch := omega) only [go_sem, Go.Proofs.Tryd.results61, pickM, h6, hl, hc, hd, ho]); rfl) ?_; refine (embV_nil hE (by simp) ?_).s; simp [oneA, ren, renL, pickM, h6, hl, hc, hd, ho])
  cases hn : hasN s
  · have en : decide ((s.names.length : Int) > 0) = false := hn
    cases hd : s.down
    · skip
      by_cases n0 : namesM s.names = 0
      · rw [n0] at nc
        by_cases w0 : whereM s.wh = 0
        · rw [w0] at wc
          cases ho2 : emp s.ord
          · have e2 : (s.ord.toList == ByteArray.toList ⟨#[]⟩) = false := ho2
            (repeat' (first | refine awp_seq ?_ | refine awp_block ?_ | refine awp_skip ?_ | refine awp_exit ?_ | ((first | refine awp_r (by kernel_rfl) (fun K kp hK hkp => ?_) | ((first | apply callR_i (nc) | apply callD_i (nc) | apply callX_i (nc)); (case hb => (simp (implicitDefEqProofs := false) (maxSteps := 2000000) (disch := omega) only [go_sem, eST, d1, d2, hc, en, hd, e2]; first | done | rfl)); (case hp => (first | (simp [-List.map_drop, -List.map_take, eST, d1, d2, hc, en, hd, e2]; done) | exact .ro _ _ (pt_map _ _))); (case hq => (first | (simp [-List.map_drop, -List.map_take]; done) | (intro _ h; simp only [List.mem_singleton] at h; subst h; exact pt_map _ _)))) | ((first | apply callR_i (wc) | apply callD_i (wc) | apply callX_i (wc)); (case hb => (simp (implicitDefEqProofs := false) (maxSteps := 2000000) (disch := omega) only [go_sem, eST, d1, d2, hc, en, hd, e2]; first | done | rfl)); (case hp => (first | (simp [-List.map_drop, -List.map_take, eST, d1, d2, hc, en, hd, e2]; done) | exact .ro _ _ (pt_map _ _))); (case hq => (first | (simp [-List.map_drop, -List.map_take]; done) | (intro _ h; simp only [List.mem_singleton] at h; subst h; exact pt_map _ _)))) | ((first | apply callR_i (oc) | apply callD_i (oc) | apply callX_i (oc)); (case hb => (simp (implicitDefEqProofs := false) (maxSteps := 2000000) (disch := omega) only [go_sem, eST, d1, d2, hc, en, hd, e2]; first | done | rfl)); (case hp => (first | (simp [-List.map_drop, -List.map_take, eST, d1, d2, hc, en, hd, e2]; done) | exact .ro _ _ (pt_map _ _))); (case hq => (first | (simp [-List.map_drop, -List.map_take]; done) | (intro _ h; simp only [List.mem_singleton] at h; subst h; exact pt_map _ _))))); simp (implicitDefEqProofs := false) (maxSteps := 2000000) (disch := omega) only [go_sem, eST, d1, d2, hc, en, hd, e2]; (repeat' (first | (refine hK _ ?_; clear hK hkp kp K) | (with_reducible refine And.intro ?_ ?_) | omega))) | ((first | refine goG_ask (fun h => ?_) (fun h => ?_) | refine goGD_ask (fun h => ?_) (fun h => ?_) | refine goGX_ask (fun h => ?_) (fun h => ?_)) <;> (simp (implicitDefEqProofs := false) (maxSteps := 2000000) (disch := omega) only [go_sem, eST, d1, d2, hc, en, hd, e2, h]; (repeat' (first | (refine hK _ ?_; clear hK hkp kp K) | (with_reducible refine And.intro ?_ ?_) | omega)))) | refine awp_cond_t rfl ?_ | refine awp_cond_f rfl ?_ | ((refine awp_cond rfl (fun h => ?_) (fun h => ?_) <;> try simp only [decide_eq_true_eq, decide_eq_false_iff_not, Int.not_lt, Int.not_le, Bool.not_eq_true, Bool.not_eq_false, bne_iff_ne, ne_eq, beq_iff_eq, bne_eq_false_iff_eq, beq_eq_false_iff_ne] at h) <;> (try (exfalso; omega))) | refine awp_ret ?_))
            (refine retA_is (by (simp (implicitDefEqProofs := false) (maxSteps := 2000000) (disch := omega) only [go_sem, Go.Proofs.Tryd.results61, pickM, h6, hl, n0, w0, ho2, hc, hn, hd]); rfl) ?_; refine (embV_nil hE (by simp) ?_).s; simp [oneA, ren, renL, pickM, h6, hl, n0, w0, ho2, hc, hn, hd])
          · have e2 : (s.ord.toList == ByteArray.toList ⟨#[]⟩) = true := ho2
            first
              | (exfalso; simp_all; done)
              | ((repeat' (first | refine awp_seq ?_ | refine awp_block ?_ | refine awp_skip ?_ | refine awp_exit ?_ | ((first | refine awp_r (by kernel_rfl) (fun K kp hK hkp => ?_) | ((first | apply callR_i (nc) | apply callD_i (nc) | apply callX_i (nc)); (case hb => (simp (implicitDefEqProofs := false) (maxSteps := 2000000) (disch := omega) only [go_sem, eST, d1, d2, hc, en, hd, e2]; first | done | rfl)); (case hp => (first | (simp [-List.map_drop, -List.map_take, eST, d1, d2, hc, en, hd, e2]; done) | exact .ro _ _ (pt_map _ _))); (case hq => (first | (simp [-List.map_drop, -List.map_take]; done) | (intro _ h; simp only [List.mem_singleton] at h; subst h; exact pt_map _ _)))) | ((first | apply callR_i (wc) | apply callD_i (wc) | apply callX_i (wc)); (case hb => (simp (implicitDefEqProofs := false) (maxSteps := 2000000) (disch := omega) only [go_sem, eST, d1, d2, hc, en, hd, e2]; first | done | rfl)); (case hp => (first | (simp [-List.map_drop, -List.map_take, eST, d1, d2, hc, en, hd, e2]; done) | exact .ro _ _ (pt_map _ _))); (case hq => (first | (simp [-List.map_drop, -List.map_take]; done) | (intro _ h; simp only [List.mem_singleton] at h; subst h; exact pt_map _ _)))) | ((first | apply callR_i (oc) | apply callD_i (oc) | apply callX_i (oc)); (case hb => (simp (implicitDefEqProofs := false) (maxSteps := 2000000) (disch := omega) only [go_sem, eST, d1, d2, hc, en, hd, e2]; first | done | rfl)); (case hp => (first | (simp [-List.map_drop, -List.map_take, eST, d1, d2, hc, en, hd, e2]; done) | exact .ro _ _ (pt_map _ _))); (case hq => (first | (simp [-List.map_drop, -List.map_take]; done) | (intro _ h; simp only [List.mem_singleton] at h; subst h; exact pt_map _ _))))); simp (implicitDefEqProofs := false) (maxSteps := 2000000) (disch := omega) only [go_sem, eST, d1, d2, hc, en, hd, e2]; (repeat' (first | (refine hK _ ?_; clear hK hkp kp K) | (with_reducible refine And.intro ?_ ?_) | omega))) | ((first | refine goG_ask (fun h => ?_) (fun h => ?_) | refine goGD_ask (fun h => ?_) (fun h => ?_) | refine goGX_ask (fun h => ?_) (fun h => ?_)) <;> (simp (implicitDefEqProofs := false) (maxSteps := 2000000) (disch := omega) only [go_sem, eST, d1, d2, hc, en, hd, e2, h]; (repeat' (first | (refine hK _ ?_; clear hK hkp kp K) | (with_reducible refine And.intro ?_ ?_) | omega)))) | refine awp_cond_t rfl ?_ | refine awp_cond_f rfl ?_ | ((refine awp_cond rfl (fun h => ?_) (fun h => ?_) <;> try simp only [decide_eq_true_eq, decide_eq_false_iff_not, Int.not_lt, Int.not_le, Bool.not_eq_true, Bool.not_eq_false, bne_iff_ne, ne_eq, beq_iff_eq, bne_eq_false_iff_eq, beq_eq_false_iff_ne] at h) <;> (try (exfalso; omega))) | refine awp_ret ?_)); (refine retA_is (by (simp (implicitDefEqProofs := false) (maxSteps := 2000000) (disch := omega) only [go_sem, Go.Proofs.Tryd.results61, pickM, h6, hl, n0, w0, ho2, hc, hn, hd]); rfl) ?_; refine (embV_nil hE (by simp) ?_).s; simp [oneA, ren, renL, pickM, h6, hl, n0, w0, ho2, hc, hn, hd]))
        · have b2 : (whereM s.wh != 0) = true := by simpa using w0
          (repeat' (first | refine awp_seq ?_ | refine awp_block ?_ | refine awp_skip ?_ | refine awp_exit ?_ | ((first | refine awp_r (by kernel_rfl) (fun K kp hK hkp => ?_) | ((first | apply callR_i (nc) | apply callD_i (nc) | apply callX_i (nc)); (case hb => (simp (implicitDefEqProofs := false) (maxSteps := 2000000) (disch := omega) only [go_sem, eST, d1, d2, hc, en, hd, b2]; first | done | rfl)); (case hp => (first | (simp [-List.map_drop, -List.map_take, eST, d1, d2, hc, en, hd, b2]; done) | exact .ro _ _ (pt_map _ _))); (case hq => (first | (simp [-List.map_drop, -List.map_take]; done) | (intro _ h; simp only [List.mem_singleton] at h; subst h; exact pt_map _ _)))) | ((first | apply callR_i (wc) | apply callD_i (wc) | apply callX_i (wc)); (case hb => (simp (implicitDefEqProofs := false) (maxSteps := 2000000) (disch := omega) only [go_sem, eST, d1, d2, hc, en, hd, b2]; first | done | rfl)); (case hp => (first | (simp [-List.map_drop, -List.map_take, eST, d1, d2, hc, en, hd, b2]; done) | exact .ro _ _ (pt_map _ _))); (case hq => (first | (simp [-List.map_drop, -List.map_take]; done) | (intro _ h; simp only [List.mem_singleton] at h; subst h; exact pt_map _ _))))); simp (implicitDefEqProofs := false) (maxSteps := 2000000) (disch := omega) only [go_sem, eST, d1, d2, hc, en, hd, b2]; (repeat' (first | (refine hK _ ?_; clear hK hkp kp K) | (with_reducible refine And.intro ?_ ?_) | omega))) | ((first | refine goG_ask (fun h => ?_) (fun h => ?_) | refine goGD_ask (fun h => ?_) (fun h => ?_) | refine goGX_ask (fun h => ?_) (fun h => ?_)) <;> (simp (implicitDefEqProofs := false) (maxSteps := 2000000) (disch := omega) only [go_sem, eST, d1, d2, hc, en, hd, b2, h]; (repeat' (first | (refine hK _ ?_; clear hK hkp kp K) | (with_reducible refine And.intro ?_ ?_) | omega)))) | refine awp_cond_t rfl ?_ | refine awp_cond_f rfl ?_ | ((refine awp_cond rfl (fun h => ?_) (fun h => ?_) <;> try simp only [decide_eq_true_eq, decide_eq_false_iff_not, Int.not_lt, Int.not_le, Bool.not_eq_true, Bool.not_eq_false, bne_iff_ne, ne_eq, beq_iff_eq, bne_eq_false_iff_eq, beq_eq_false_iff_ne] at h) <;> (try (exfalso; omega))) | refine awp_ret ?_))
          (refine retA_is (by (simp (implicitDefEqProofs := false) (maxSteps := 2000000) (disch := omega) only [go_sem, Go.Proofs.Tryd.results61, pickM, h6, hl, n0, w0, hc, hn, hd]); rfl) ?_; refine (embV_nil hE (by simp) ?_).s; simp [oneA, ren, renL, pickM, h6, hl, n0, w0, hc, hn, hd])
      · have b1 : (namesM s.names != 0) = true := by simpa using n0
        (repeat' (first | refine awp_seq ?_ | refine awp_block ?_ | refine awp_skip ?_ | refine awp_exit ?_ | ((first | refine awp_r (by kernel_rfl) (fun K kp hK hkp => ?_) | ((first | apply callR_i (nc) | apply callD_i (nc) | apply callX_i (nc)); (case hb => (simp (implicitDefEqProofs := false) (maxSteps := 2000000) (disch := omega) only [go_sem, eST, d1, d2, hc, en, hd, b1]; first | done | rfl)); (case hp => (first | (simp [-List.map_drop, -List.map_take, eST, d1, d2, hc, en, hd, b1]; done) | exact .ro _ _ (pt_map _ _))); (case hq => (first | (simp [-List.map_drop, -List.map_take]; done) | (intro _ h; simp only [List.mem_singleton] at h; subst h; exact pt_map _ _))))); simp (implicitDefEqProofs := false) (maxSteps := 2000000) (disch := omega) only [go_sem, eST, d1, d2, hc, en, hd, b1]; (repeat' (first | (refine hK _ ?_; clear hK hkp kp K) | (with_reducible refine And.intro ?_ ?_) | omega))) | ((first | refine goG_ask (fun h => ?_) (fun h => ?_) | refine goGD_ask (fun h => ?_) (fun h => ?_) | refine goGX_ask (fun h => ?_) (fun h => ?_)) <;> (simp (implicitDefEqProofs := false) (maxSteps := 2000000) (disch := omega) only [go_sem, eST, d1, d2, hc, en, hd, b1, h]; (repeat' (first | (refine hK _ ?_; clear hK hkp kp K) | (with_reducible refine And.intro ?_ ?_) | omega)))) | refine awp_cond_t rfl ?_ | refine awp_cond_f rfl ?_ | ((refine awp_cond rfl (fun h => ?_) (fun h => ?_) <;> try simp only [decide_eq_true_eq, decide_eq_false_iff_not, Int.not_lt, Int.not_le, Bool.not_eq_true, Bool.not_eq_false, bne_iff_ne, ne_eq, beq_iff_eq, bne_eq_false_iff_eq, beq_eq_false_iff_ne] at h) <;> (try (exfalso; omega))) | refine awp_ret ?_))
        (refine retA_is (by (simp (implicitDefEqProofs := false) (maxSteps := 2000000) (disch := omega) only [go_sem, Go.Proofs.Tryd.results61, pickM, h6, hl, n0, hc, hn, hd]); rfl) ?_; refine (embV_nil hE (by simp) ?_).s; simp [oneA, ren, renL, pickM, h6, hl, n0, hc, hn, hd])
    cases ho : emp s.ord
    · have eo : (s.ord.toList == ByteArray.toList ⟨#[]⟩) = false := ho
      by_cases n0 : namesM s.names = 0
      · rw [n0] at nc
        by_cases w0 : whereM s.wh = 0
        · rw [w0] at wc
          cases ho2 : emp s.ord
          · have e2 : (s.ord.toList == ByteArray.toList ⟨#[]⟩) = false := ho2
            (repeat' (first | refine awp_seq ?_ | refine awp_block ?_ | refine awp_skip ?_ | refine awp_exit ?_ | ((first | refine awp_r (by kernel_rfl) (fun K kp hK hkp => ?_) | ((first | apply callR_i (nc) | apply callD_i (nc) | apply callX_i (nc)); (case hb => (simp (implicitDefEqProofs := false) (maxSteps := 2000000) (disch := omega) only [go_sem, eST, d1, d2, hc, en, hd, eo, e2]; first | done | rfl)); (case hp => (first | (simp [-List.map_drop, -List.map_take, eST, d1, d2, hc, en, hd, eo, e2]; done) | exact .ro _ _ (pt_map _ _))); (case hq => (first | (simp [-List.map_drop, -List.map_take]; done) | (intro _ h; simp only [List.mem_singleton] at h; subst h; exact pt_map _ _)))) | ((first | apply callR_i (wc) | apply callD_i (wc) | apply callX_i (wc)); (case hb => (simp (implicitDefEqProofs := false) (maxSteps := 2000000) (disch := omega) only [go_sem, eST, d1, d2, hc, en, hd, eo, e2]; first | done | rfl)); (case hp => (first | (simp [-List.map_drop, -List.map_take, eST, d1, d2, hc, en, hd, eo, e2]; done) | exact .ro _ _ (pt_map _ _))); (case hq => (first | (simp [-List.map_drop, -List.map_take]; done) | (intro _ h; simp only [List.mem_singleton] at h; subst h; exact pt_map _ _)))) | ((first | apply callR_i (oc) | apply callD_i (oc) | apply callX_i (oc)); (case hb => (simp (implicitDefEqProofs := false) (maxSteps := 2000000) (disch := omega) only [go_sem, eST, d1, d2, hc, en, hd, eo, e2]; first | done | rfl)); (case hp => (first | (simp [-List.map_drop, -List.map_take, eST, d1, d2, hc, en, hd, eo, e2]; done) | exact .ro _ _ (pt_map _ _))); (case hq => (first | (simp [-List.map_drop, -List.map_take]; done) | (intro _ h; simp only [List.mem_singleton] at h; subst h; exact pt_map _ _))))); simp (implicitDefEqProofs := false) (maxSteps := 2000000) (disch := omega) only [go_sem, eST, d1, d2, hc, en, hd, eo, e2]; (repeat' (first | (refine hK _ ?_; clear hK hkp kp K) | (with_reducible refine And.intro ?_ ?_) | omega))) | ((first | refine goG_ask (fun h => ?_) (fun h => ?_) | refine goGD_ask (fun h => ?_) (fun h => ?_) | refine goGX_ask (fun h => ?_) (fun h => ?_)) <;> (simp (implicitDefEqProofs := false) (maxSteps := 2000000) (disch := omega) only [go_sem, eST, d1, d2, hc, en, hd, eo, e2, h]; (repeat' (first | (refine hK _ ?_; clear hK hkp kp K) | (with_reducible refine And.intro ?_ ?_) | omega)))) | refine awp_cond_t rfl ?_ | refine awp_cond_f rfl ?_ | ((refine awp_cond rfl (fun h => ?_) (fun h => ?_) <;> try simp only [decide_eq_true_eq, decide_eq_false_iff_not, Int.not_lt, Int.not_le, Bool.not_eq_true, Bool.not_eq_false, bne_iff_ne, ne_eq, beq_iff_eq, bne_eq_false_iff_eq, beq_eq_false_iff_ne] at h) <;> (try (exfalso; omega))) | refine awp_ret ?_))
            (refine retA_is (by (simp (implicitDefEqProofs := false) (maxSteps := 2000000) (disch := omega) only [go_sem, Go.Proofs.Tryd.results61, pickM, h6, hl, n0, w0, ho2, hc, hn, hd, ho]); rfl) ?_; refine (embV_nil hE (by simp) ?_).s; simp [oneA, ren, renL, pickM, h6, hl, n0, w0, ho2, hc, hn, hd, ho])
          · have e2 : (s.ord.toList == ByteArray.toList ⟨#[]⟩) = true := ho2
            first
              | (exfalso; simp_all; done)
              | ((repeat' (first | refine awp_seq ?_ | refine awp_block ?_ | refine awp_skip ?_ | refine awp_exit ?_ | ((first | refine awp_r (by kernel_rfl) (fun K kp hK hkp => ?_) | ((first | apply callR_i (nc) | apply callD_i (nc) | apply callX_i (nc)); (case hb => (simp (implicitDefEqProofs := false) (maxSteps := 2000000) (disch := omega) only [go_sem, eST, d1, d2, hc, en, hd, eo, e2]; first | done | rfl)); (case hp => (first | (simp [-List.map_drop, -List.map_take, eST, d1, d2, hc, en, hd, eo, e2]; done) | exact .ro _ _ (pt_map _ _))); (case hq => (first | (simp [-List.map_drop, -List.map_take]; done) | (intro _ h; simp only [List.mem_singleton] at h; subst h; exact pt_map _ _)))) | ((first | apply callR_i (wc) | apply callD_i (wc) | apply callX_i (wc)); (case hb => (simp (implicitDefEqProofs := false) (maxSteps := 2000000) (disch := omega) only [go_sem, eST, d1, d2, hc, en, hd, eo, e2]; first | done | rfl)); (case hp => (first | (simp [-List.map_drop, -List.map_take, eST, d1, d2, hc, en, hd, eo, e2]; done) | exact .ro _ _ (pt_map _ _))); (case hq => (first | (simp [-List.map_drop, -List.map_take]; done) | (intro _ h; simp only [List.mem_singleton] at h; subst h; exact pt_map _ _)))) | ((first | apply callR_i (oc) | apply callD_i (oc) | apply callX_i (oc)); (case hb => (simp (implicitDefEqProofs := false) (maxSteps := 2000000) (disch := omega) only [go_sem, eST, d1, d2, hc, en, hd, eo, e2]; first | done | rfl)); (case hp => (first | (simp [-List.map_drop, -List.map_take, eST, d1, d2, hc, en, hd, eo, e2]; done) | exact .ro _ _ (pt_map _ _))); (case hq => (first | (simp [-List.map_drop, -List.map_take]; done) | (intro _ h; simp only [List.mem_singleton] at h; subst h; exact pt_map _ _))))); simp (implicitDefEqProofs := false) (maxSteps := 2000000) (disch := omega) only [go_sem, eST, d1, d2, hc, en, hd, eo, e2]; (repeat' (first | (refine hK _ ?_; clear hK hkp kp K) | (with_reducible refine And.intro ?_ ?_) | omega))) | ((first | refine goG_ask (fun h => ?_) (fun h => ?_) | refine goGD_ask (fun h => ?_) (fun h => ?_) | refine goGX_ask (fun h => ?_) (fun h => ?_)) <;> (simp (implicitDefEqProofs := false) (maxSteps := 2000000) (disch := omega) only [go_sem, eST, d1, d2, hc, en, hd, eo, e2, h]; (repeat' (first | (refine hK _ ?_; clear hK hkp kp K) | (with_reducible refine And.intro ?_ ?_) | omega)))) | refine awp_cond_t rfl ?_ | refine awp_cond_f rfl ?_ | ((refine awp_cond rfl (fun h => ?_) (fun h => ?_) <;> try simp only [decide_eq_true_eq, decide_eq_false_iff_not, Int.not_lt, Int.not_le, Bool.not_eq_true, Bool.not_eq_false, bne_iff_ne, ne_eq, beq_iff_eq, bne_eq_false_iff_eq, beq_eq_false_iff_ne] at h) <;> (try (exfalso; omega))) | refine awp_ret ?_)); (refine retA_is (by (simp (implicitDefEqProofs := false) (maxSteps := 2000000) (disch := omega) only [go_sem, Go.Proofs.Tryd.results61, pickM, h6, hl, n0, w0, ho2, hc, hn, hd, ho]); rfl) ?_; refine (embV_nil hE (by simp) ?_).s; simp [oneA, ren, renL, pickM, h6, hl, n0, w0, ho2, hc, hn, hd, ho]))
        · have b2 : (whereM s.wh != 0) = true := by simpa using w0
          (repeat' (first | refine awp_seq ?_ | refine awp_block ?_ | refine awp_skip ?_ | refine awp_exit ?_ | ((first | refine awp_r (by kernel_rfl) (fun K kp hK hkp => ?_) | ((first | apply callR_i (nc) | apply callD_i (nc) | apply callX_i (nc)); (case hb => (simp (implicitDefEqProofs := false) (maxSteps := 2000000) (disch := omega) only [go_sem, eST, d1, d2, hc, en, hd, eo, b2]; first | done | rfl)); (case hp => (first | (simp [-List.map_drop, -List.map_take, eST, d1, d2, hc, en, hd, eo, b2]; done) | exact .ro _ _ (pt_map _ _))); (case hq => (first | (simp [-List.map_drop, -List.map_take]; done) | (intro _ h; simp only [List.mem_singleton] at h; subst h; exact pt_map _ _)))) | ((first | apply callR_i (wc) | apply callD_i (wc) | apply callX_i (wc)); (case hb => (simp (implicitDefEqProofs := false) (maxSteps := 2000000) (disch := omega) only [go_sem, eST, d1, d2, hc, en, hd, eo, b2]; first | done | rfl)); (case hp => (first | (simp [-List.map_drop, -List.map_take, eST, d1, d2, hc, en, hd, eo, b2]; done) | exact .ro _ _ (pt_map _ _))); (case hq => (first | (simp [-List.map_drop, -List.map_take]; done) | (intro _ h; simp only [List.mem_singleton] at h; subst h; exact pt_map _ _))))); simp (implicitDefEqProofs := false) (maxSteps := 2000000) (disch := omega) only [go_sem, eST, d1, d2, hc, en, hd, eo, b2]; (repeat' (first | (refine hK _ ?_; clear hK hkp kp K) | (with_reducible refine And.intro ?_ ?_) | omega))) | ((first | refine goG_ask (fun h => ?_) (fun h => ?_) | refine goGD_ask (fun h => ?_) (fun h => ?_) | refine goGX_ask (fun h => ?_) (fun h => ?_)) <;> (simp (implicitDefEqProofs := false) (maxSteps := 2000000) (disch := omega) only [go_sem, eST, d1, d2, hc, en, hd, eo, b2, h]; (repeat' (first | (refine hK _ ?_; clear hK hkp kp K) | (with_reducible refine And.intro ?_ ?_) | omega)))) | refine awp_cond_t rfl ?_ | refine awp_cond_f rfl ?_ | ((refine awp_cond rfl (fun h => ?_) (fun h => ?_) <;> try simp only [decide_eq_true_eq, decide_eq_false_iff_not, Int.not_lt, Int.not_le, Bool.not_eq_true, Bool.not_eq_false, bne_iff_ne, ne_eq, beq_iff_eq, bne_eq_false_iff_eq, beq_eq_false_iff_ne] at h) <;> (try (exfalso; omega))) | refine awp_ret ?_))
          (refine retA_is (by (simp (implicitDefEqProofs := false) (maxSteps := 2000000) (disch := omega) only [go_sem, Go.Proofs.Tryd.results61, pickM, h6, hl, n0, w0, hc, hn, hd, ho]); rfl) ?_; refine (embV_nil hE (by simp) ?_).s; simp [oneA, ren, renL, pickM, h6, hl, n0, w0, hc, hn, hd, ho])
      · have b1 : (namesM s.names != 0) = true := by simpa using n0
        (repeat' (first | refine awp_seq ?_ | refine awp_block ?_ | refine awp_skip ?_ | refine awp_exit ?_ | ((first | refine awp_r (by kernel_rfl) (fun K kp hK hkp => ?_) | ((first | apply callR_i (nc) | apply callD_i (nc) | apply callX_i (nc)); (case hb => (simp (implicitDefEqProofs := false) (maxSteps := 2000000) (disch := omega) only [go_sem, eST, d1, d2, hc, en, hd, eo, b1]; first | done | rfl)); (case hp => (first | (simp [-List.map_drop, -List.map_take, eST, d1, d2, hc, en, hd, eo, b1]; done) | exact .ro _ _ (pt_map _ _))); (case hq => (first | (simp [-List.map_drop, -List.map_take]; done) | (intro _ h; simp only [List.mem_singleton] at h; subst h; exact pt_map _ _))))); simp (implicitDefEqProofs := false) (maxSteps := 2000000) (disch := omega) only [go_sem, eST, d1, d2, hc, en, hd, eo, b1]; (repeat' (first | (refine hK _ ?_; clear hK hkp kp K) | (with_reducible refine And.intro ?_ ?_) | omega))) | ((first | refine goG_ask (fun h => ?_) (fun h => ?_) | refine goGD_ask (fun h => ?_) (fun h => ?_) | refine goGX_ask (fun h => ?_) (fun h => ?_)) <;> (simp (implicitDefEqProofs := false) (maxSteps := 2000000) (disch := omega) only [go_sem, eST, d1, d2, hc, en, hd, eo, b1, h]; (repeat' (first | (refine hK _ ?_; clear hK hkp kp K) | (with_reducible refine And.intro ?_ ?_) | omega)))) | refine awp_cond_t rfl ?_ | refine awp_cond_f rfl ?_ | ((refine awp_cond rfl (fun h => ?_) (fun h => ?_) <;> try simp only [decide_eq_true_eq, decide_eq_false_iff_not, Int.not_lt, Int.not_le, Bool.not_eq_true, Bool.not_eq_false, bne_iff_ne, ne_eq, beq_iff_eq, bne_eq_false_iff_eq, beq_eq_false_iff_ne] at h) <;> (try (exfalso; omega))) | refine awp_ret ?_))
        (refine retA_is (by (simp (implicitDefEqProofs := false) (maxSteps := 2000000) (disch := omega) only [go_sem, Go.Proofs.Tryd.results61, pickM, h6, hl, n0, hc, hn, hd, ho]); rfl) ?_; refine (embV_nil hE (by simp) ?_).s; simp [oneA, ren, renL, pickM, h6, hl, n0, hc, hn, hd, ho])
    · have eo : (s.ord.toList == ByteArray.toList ⟨#[]⟩) = true := ho
      (repeat' (first | refine awp_seq ?_ | refine awp_block ?_ | refine awp_skip ?_ | refine awp_exit ?_ | ((first | refine awp_r (by kernel_rfl) (fun K kp hK hkp => ?_)); simp (implicitDefEqProofs := false) (maxSteps := 2000000) (disch := omega) only [go_sem, eST, d1, d2, hc, en, hd, eo]; (repeat' (first | (refine hK _ ?_; clear hK hkp kp K) | (with_reducible refine And.intro ?_ ?_) | omega))) | ((first | refine goG_ask (fun h => ?_) (fun h => ?_) | refine goGD_ask (fun h => ?_) (fun h => ?_) | refine goGX_ask (fun h => ?_) (fun h => ?_)) <;> (simp (implicitDefEqProofs := false) (maxSteps := 2000000) (disch := omega) only [go_sem, eST, d1, d2, hc, en, hd, eo, h]; (repeat' (first | (refine hK _ ?_; clear hK hkp kp K) | (with_reducible refine And.intro ?_ ?_) | omega)))) | refine awp_cond_t rfl ?_ | refine awp_cond_f rfl ?_ | ((refine awp_cond rfl (fun h => ?_) (fun h => ?_) <;> try simp only [decide_eq_true_eq, decide_eq_false_iff_not, Int.not_lt, Int.not_le, Bool.not_eq_true, Bool.not_eq_false, bne_iff_ne, ne_eq, beq_iff_eq, bne_eq_false_iff_eq, beq_eq_false_iff_ne] at h) <;> (try (exfalso; omega))) | refine awp_ret ?_))
      (refine retA_is (by (simp (implicitDefEqProofs := false) (maxSteps := 2000000) (disch := omega) only [go_sem, Go.Proofs.Tryd.results61, pickM, h6, hl, hc, hn, hd, ho]); rfl) ?_; refine (embV_nil hE (by simp) ?_).s; simp [oneA, ren, renL, pickM, h6, hl, hc, hn, hd, ho])
  · have en : decide ((s.names.length : Int) > 0) = true := hn
    (repeat' (first | refine awp_seq ?_ | refine awp_block ?_ | refine awp_skip ?_ | refine awp_exit ?_ | ((first | refine awp_r (by kernel_rfl) (fun K kp hK hkp => ?_)); simp (implicitDefEqProofs := false) (maxSteps := 2000000) (disch := omega) only [go_sem, eST, d1, d2, hc, en]; (repeat' (first | (refine hK _ ?_; clear hK hkp kp K) | (with_reducible refine And.intro ?_ ?_) | omega))) | ((first | refine goG_ask (fun h => ?_) (fun h => ?_) | refine goGD_ask (fun h => ?_) (fun h => ?_) | refine goGX_ask (fun h => ?_) (fun h => ?_)) <;> (simp (implicitDefEqProofs := false) (maxSteps := 2000000) (disch := omega) only [go_sem, eST, d1, d2, hc, en, h]; (repeat' (first | (refine hK _ ?_; clear hK hkp kp K) | (with_reducible refine And.intro ?_ ?_) | omega)))) | refine awp_cond_t rfl ?_ | refine awp_cond_f rfl ?_ | ((refine awp_cond rfl (fun h => ?_) (fun h => ?_) <;> try simp only [decide_eq_true_eq, decide_eq_false_iff_not, Int.not_lt, Int.not_le, Bool.not_eq_true, Bool.not_eq_false, bne_iff_ne, ne_eq, beq_iff_eq, bne_eq_false_iff_eq, beq_eq_false_iff_ne] at h) <;> (try (exfalso; omega))) | refine awp_ret ?_))
    (refine retA_is (by (simp (implicitDefEqProofs := false) (maxSteps := 2000000) (disch := omega) only [go_sem, Go.Proofs.Tryd.results61, pickM, h6, hl, hc, hn]); rfl) ?_; refine (embV_nil hE (by simp) ?_).s; simp [oneA, ren, renL, pickM, h6, hl, hc, hn])
end Go.AM
/- Statements: parse.check. -/
namespace Go.AM
open Go Go.RowKit
open Go.Proofs.YtoecmmpjndcolaaDoor (OP nameM litM exprM marksS wordsS StrsAt str SlAt)
attribute [local irreducible] AWP retA
/-- What is wrong with the parts that a kind has. -/
def partsM (s : ST) : Int :=
  if s.k = 1 then colsM s.cols else if s.k = 3 then rowM s.row else if s.k = 4 then pickM s
  else if s.k = 5 then (if nameM s.set ≠ 0 then nameM s.set else if exprM s.to ≠ 0 then exprM s.to else whereM s.wh)
  else if s.k = 6 then whereM s.wh else 0
def b0 : ByteArray := ⟨#[]⟩
/-- What a kind has. -/
def hasM (s : ST) : ST :=
  if s.k = 1 then ⟨s.k, s.tab, s.cols, [], [], false, [], b0, false, -1, b0, []⟩
  else if s.k = 2 then ⟨s.k, s.tab, [], [], [], false, [], b0, false, -1, b0, []⟩
  else if s.k = 3 then ⟨s.k, s.tab, [], s.row, [], false, [], b0, false, -1, b0, []⟩
  else if s.k = 4 then ⟨s.k, s.tab, [], [], s.names, s.count, s.wh, s.ord, s.down, s.lim, b0, []⟩
  else if s.k = 5 then ⟨s.k, s.tab, [], [], [], false, s.wh, b0, false, -1, s.set, s.to⟩
  else if s.k = 6 then ⟨s.k, s.tab, [], [], [], false, s.wh, b0, false, -1, b0, []⟩
  else ⟨s.k, b0, [], [], [], false, [], b0, false, -1, b0, []⟩
def checkM (s : ST) : Int := if s.k < 7 ∧ nameM s.tab ≠ 0 then nameM s.tab else if partsM s ≠ 0 then partsM s else if bareB s (hasM s) = true then 0 else 6
theorem checkM_name {s : ST} (h : s.k < 7) (hn : nameM s.tab ≠ 0) : checkM s = nameM s.tab := by rw [checkM, if_pos ⟨h, hn⟩]
theorem checkM_parts {s : ST} (h : ¬ (s.k < 7 ∧ nameM s.tab ≠ 0)) (hn : partsM s ≠ 0) : checkM s = partsM s := by rw [checkM, if_neg h, if_pos hn]
theorem checkM_ok {s : ST} (h : ¬ (s.k < 7 ∧ nameM s.tab ≠ 0)) (hn : partsM s = 0) (hb : bareB s (hasM s) = true) : checkM s = 0 := by rw [checkM, if_neg h, if_neg (by simp [hn]), if_pos hb]
theorem checkM_form {s : ST} (h : ¬ (s.k < 7 ∧ nameM s.tab ≠ 0)) (hn : partsM s = 0) (hb : bareB s (hasM s) = false) : checkM s = 6 := by rw [checkM, if_neg h, if_neg (by simp [hn]), if_neg (by simp [hb])]
set_option maxRecDepth 100000 in
set_option maxHeartbeats 8000000 in
theorem check1_con {G : List (Nat × List Value)} (T : Tabs G) (s : ST) (o : okST s) (hk : s.k = 1) : Con Go.Proofs.Tryd.prog G 34 [.agg (eST s)] [] 0 (Is (.r (.int .i64 (checkM s))) [] 0) No := by
  refine con_of_awp Go.Proofs.Tryd.func34 rfl (by kernel_rfl) (of_decide_eq_true (by kernel_rfl)) ?_; intro E hG hE; subst hG; simp only [ent]
  have tc := name_con T s.tab o.tab
  by_cases hn : nameM s.tab = 0
  · rw [hn] at tc
    have hh : ¬ (s.k < 7 ∧ nameM s.tab ≠ 0) := fun h => h.2 hn
    have p0 := cols_con T true s.cols o.lc o.cols
    by_cases z0 : colsM s.cols = 0
    · rw [z0] at p0
      have hp : partsM s = 0 := by simp [partsM, hk, z0]
      have hS : hasM s = ⟨1, s.tab, s.cols, [], [], false, [], b0, false, -1, b0, []⟩ := by simp [hasM, hk]
      have bc := bare_con E.G s (hasM s)
      cases hb : bareB s (hasM s)
      · rw [hb, hS] at bc
        simp only [eST, hk, List.map_nil] at bc
        have bc := bc.weak (xs := [.agg [.r (.int .i64 1), .r (.string s.tab), .ro true 2 (s.cols.map eC), .ro true 3 (s.row.map eV), .ro true 1 (s.names.map eStr), .r (.bool s.count), .ro true 5 (s.wh.map eO), .r (.string s.ord), .r (.bool s.down), .r (.int .i64 s.lim), .r (.string s.set), .ro true 5 (s.to.map eO)], .agg [.r (.int .i64 1), .r (.string s.tab), .ro true 2 (s.cols.map eC), .r (.slice none 0 0), .r (.slice none 0 0), .r (.bool false), .r (.slice none 0 0), .r (.string b0), .r (.bool false), .r (.int .i64 (-1)), .r (.string b0), .r (.slice none 0 0)]]) (by simp [wkL, wk])
        (repeat' (first | refine awp_seq ?_ | refine awp_block ?_ | refine awp_skip ?_ | refine awp_exit ?_ | ((first | refine awp_r (by kernel_rfl) (fun K kp hK hkp => ?_) | refine awp_dx (id := 16) mixed [1] 24 [0, 1, 2, 3, 4, 5, 6, 7, 8, 9, 10, 11, 12, 13, 14, 15, 16, 17, 18, 19, 20, 21, 22, 23] (by kernel_rfl) (by kernel_rfl) (by simp only [go_sem]; rfl) (by simp only [go_sem]; rfl) (by simp only [go_sem]; rfl) (by rfl) (fun K kp hK hkp => ?_) | refine awp_dx (id := 19) mixed [1] 12 [0, 1, 2, 3, 4, 5, 6, 7, 8, 9, 10, 11] (by kernel_rfl) (by kernel_rfl) (by simp only [go_sem]; rfl) (by simp only [go_sem]; rfl) (by simp only [go_sem]; rfl) (by rfl) (fun K kp hK hkp => ?_) | ((first | apply callR_i (tc) | apply callD_i (tc) | apply callX_i (tc)); (case hb => (simp (implicitDefEqProofs := false) (maxSteps := 2000000) (disch := omega) only [go_sem, eST, hk]; first | done | rfl)); (case hp => (first | (simp [-List.map_drop, -List.map_take, eST, hk]; done) | exact .ro _ _ (pt_map _ _))); (case hq => (first | (simp [-List.map_drop, -List.map_take]; done) | (intro _ h; simp only [List.mem_singleton] at h; subst h; exact pt_map _ _)))) | ((first | apply callR_i (p0) | apply callD_i (p0) | apply callX_i (p0)); (case hb => (simp (implicitDefEqProofs := false) (maxSteps := 2000000) (disch := omega) only [go_sem, eST, hk]; first | done | rfl)); (case hp => (first | (simp [-List.map_drop, -List.map_take, eST, hk]; done) | exact .ro _ _ (pt_map _ _))); (case hq => (first | (simp [-List.map_drop, -List.map_take]; done) | (intro _ h; simp only [List.mem_singleton] at h; subst h; exact pt_map _ _)))) | ((first | apply callR_i (bc) | apply callD_i (bc) | apply callX_i (bc)); (case hb => (simp (implicitDefEqProofs := false) (maxSteps := 2000000) (disch := omega) only [go_sem, eST, hk]; first | done | rfl)); (case hp => (first | (simp [-List.map_drop, -List.map_take, eST, hk]; done) | exact .ro _ _ (pt_map _ _))); (case hq => (first | (simp [-List.map_drop, -List.map_take]; done) | (intro _ h; simp only [List.mem_singleton] at h; subst h; exact pt_map _ _))))); simp (implicitDefEqProofs := false) (maxSteps := 2000000) (disch := omega) only [go_sem, eST, hk]; (repeat' (first | (refine hK _ ?_; clear hK hkp kp K) | (with_reducible refine And.intro ?_ ?_) | omega))) | ((first | refine goG_ask (fun h => ?_) (fun h => ?_) | refine goGD_ask (fun h => ?_) (fun h => ?_) | refine goGX_ask (fun h => ?_) (fun h => ?_)) <;> (simp (implicitDefEqProofs := false) (maxSteps := 2000000) (disch := omega) only [go_sem, eST, hk, h]; (repeat' (first | (refine hK _ ?_; clear hK hkp kp K) | (with_reducible refine And.intro ?_ ?_) | omega)))) | refine awp_cond_t rfl ?_ | refine awp_cond_f rfl ?_ | ((refine awp_cond rfl (fun h => ?_) (fun h => ?_) <;> try simp only [decide_eq_true_eq, decide_eq_false_iff_not, Int.not_lt, Int.not_le, Bool.not_eq_true, Bool.not_eq_false, bne_iff_ne, ne_eq, beq_iff_eq, bne_eq_false_iff_eq, beq_eq_false_iff_ne] at h) <;> (try (exfalso; omega))) | refine awp_ret ?_))
        (refine retA_is (by (simp (implicitDefEqProofs := false) (maxSteps := 2000000) (disch := omega) only [go_sem, Go.Proofs.Tryd.results34, checkM_form hh hp hb]); rfl) ?_; refine (embV_nil hE (by simp) ?_).s; simp [oneA, ren, renL, checkM_form hh hp hb])
      · rw [hb, hS] at bc
        simp only [eST, hk, List.map_nil] at bc
        have bc := bc.weak (xs := [.agg [.r (.int .i64 1), .r (.string s.tab), .ro true 2 (s.cols.map eC), .ro true 3 (s.row.map eV), .ro true 1 (s.names.map eStr), .r (.bool s.count), .ro true 5 (s.wh.map eO), .r (.string s.ord), .r (.bool s.down), .r (.int .i64 s.lim), .r (.string s.set), .ro true 5 (s.to.map eO)], .agg [.r (.int .i64 1), .r (.string s.tab), .ro true 2 (s.cols.map eC), .r (.slice none 0 0), .r (.slice none 0 0), .r (.bool false), .r (.slice none 0 0), .r (.string b0), .r (.bool false), .r (.int .i64 (-1)), .r (.string b0), .r (.slice none 0 0)]]) (by simp [wkL, wk])
        (repeat' (first | refine awp_seq ?_ | refine awp_block ?_ | refine awp_skip ?_ | refine awp_exit ?_ | ((first | refine awp_r (by kernel_rfl) (fun K kp hK hkp => ?_) | refine awp_dx (id := 16) mixed [1] 24 [0, 1, 2, 3, 4, 5, 6, 7, 8, 9, 10, 11, 12, 13, 14, 15, 16, 17, 18, 19, 20, 21, 22, 23] (by kernel_rfl) (by kernel_rfl) (by simp only [go_sem]; rfl) (by simp only [go_sem]; rfl) (by simp only [go_sem]; rfl) (by rfl) (fun K kp hK hkp => ?_) | refine awp_dx (id := 19) mixed [1] 12 [0, 1, 2, 3, 4, 5, 6, 7, 8, 9, 10, 11] (by kernel_rfl) (by kernel_rfl) (by simp only [go_sem]; rfl) (by simp only [go_sem]; rfl) (by simp only [go_sem]; rfl) (by rfl) (fun K kp hK hkp => ?_) | ((first | apply callR_i (tc) | apply callD_i (tc) | apply callX_i (tc)); (case hb => (simp (implicitDefEqProofs := false) (maxSteps := 2000000) (disch := omega) only [go_sem, eST, hk]; first | done | rfl)); (case hp => (first | (simp [-List.map_drop, -List.map_take, eST, hk]; done) | exact .ro _ _ (pt_map _ _))); (case hq => (first | (simp [-List.map_drop, -List.map_take]; done) | (intro _ h; simp only [List.mem_singleton] at h; subst h; exact pt_map _ _)))) | ((first | apply callR_i (p0) | apply callD_i (p0) | apply callX_i (p0)); (case hb => (simp (implicitDefEqProofs := false) (maxSteps := 2000000) (disch := omega) only [go_sem, eST, hk]; first | done | rfl)); (case hp => (first | (simp [-List.map_drop, -List.map_take, eST, hk]; done) | exact .ro _ _ (pt_map _ _))); (case hq => (first | (simp [-List.map_drop, -List.map_take]; done) | (intro _ h; simp only [List.mem_singleton] at h; subst h; exact pt_map _ _)))) | ((first | apply callR_i (bc) | apply callD_i (bc) | apply callX_i (bc)); (case hb => (simp (implicitDefEqProofs := false) (maxSteps := 2000000) (disch := omega) only [go_sem, eST, hk]; first | done | rfl)); (case hp => (first | (simp [-List.map_drop, -List.map_take, eST, hk]; done) | exact .ro _ _ (pt_map _ _))); (case hq => (first | (simp [-List.map_drop, -List.map_take]; done) | (intro _ h; simp only [List.mem_singleton] at h; subst h; exact pt_map _ _))))); simp (implicitDefEqProofs := false) (maxSteps := 2000000) (disch := omega) only [go_sem, eST, hk]; (repeat' (first | (refine hK _ ?_; clear hK hkp kp K) | (with_reducible refine And.intro ?_ ?_) | omega))) | ((first | refine goG_ask (fun h => ?_) (fun h => ?_) | refine goGD_ask (fun h => ?_) (fun h => ?_) | refine goGX_ask (fun h => ?_) (fun h => ?_)) <;> (simp (implicitDefEqProofs := false) (maxSteps := 2000000) (disch := omega) only [go_sem, eST, hk, h]; (repeat' (first | (refine hK _ ?_; clear hK hkp kp K) | (with_reducible refine And.intro ?_ ?_) | omega)))) | refine awp_cond_t rfl ?_ | refine awp_cond_f rfl ?_ | ((refine awp_cond rfl (fun h => ?_) (fun h => ?_) <;> try simp only [decide_eq_true_eq, decide_eq_false_iff_not, Int.not_lt, Int.not_le, Bool.not_eq_true, Bool.not_eq_false, bne_iff_ne, ne_eq, beq_iff_eq, bne_eq_false_iff_eq, beq_eq_false_iff_ne] at h) <;> (try (exfalso; omega))) | refine awp_ret ?_))
        (refine retA_is (by (simp (implicitDefEqProofs := false) (maxSteps := 2000000) (disch := omega) only [go_sem, Go.Proofs.Tryd.results34, checkM_ok hh hp hb]); rfl) ?_; refine (embV_nil hE (by simp) ?_).s; simp [oneA, ren, renL, checkM_ok hh hp hb])
    · have y0 : (colsM s.cols == 0) = false := by simpa using z0
      have hp : partsM s = colsM s.cols := by simp [partsM, hk, z0]
      (repeat' (first | refine awp_seq ?_ | refine awp_block ?_ | refine awp_skip ?_ | refine awp_exit ?_ | ((first | refine awp_r (by kernel_rfl) (fun K kp hK hkp => ?_) | refine awp_dx (id := 16) mixed [1] 24 [0, 1, 2, 3, 4, 5, 6, 7, 8, 9, 10, 11, 12, 13, 14, 15, 16, 17, 18, 19, 20, 21, 22, 23] (by kernel_rfl) (by kernel_rfl) (by simp only [go_sem]; rfl) (by simp only [go_sem]; rfl) (by simp only [go_sem]; rfl) (by rfl) (fun K kp hK hkp => ?_) | refine awp_dx (id := 19) mixed [1] 12 [0, 1, 2, 3, 4, 5, 6, 7, 8, 9, 10, 11] (by kernel_rfl) (by kernel_rfl) (by simp only [go_sem]; rfl) (by simp only [go_sem]; rfl) (by simp only [go_sem]; rfl) (by rfl) (fun K kp hK hkp => ?_) | ((first | apply callR_i (tc) | apply callD_i (tc) | apply callX_i (tc)); (case hb => (simp (implicitDefEqProofs := false) (maxSteps := 2000000) (disch := omega) only [go_sem, eST, hk, y0]; first | done | rfl)); (case hp => (first | (simp [-List.map_drop, -List.map_take, eST, hk, y0]; done) | exact .ro _ _ (pt_map _ _))); (case hq => (first | (simp [-List.map_drop, -List.map_take]; done) | (intro _ h; simp only [List.mem_singleton] at h; subst h; exact pt_map _ _)))) | ((first | apply callR_i (p0) | apply callD_i (p0) | apply callX_i (p0)); (case hb => (simp (implicitDefEqProofs := false) (maxSteps := 2000000) (disch := omega) only [go_sem, eST, hk, y0]; first | done | rfl)); (case hp => (first | (simp [-List.map_drop, -List.map_take, eST, hk, y0]; done) | exact .ro _ _ (pt_map _ _))); (case hq => (first | (simp [-List.map_drop, -List.map_take]; done) | (intro _ h; simp only [List.mem_singleton] at h; subst h; exact pt_map _ _))))); simp (implicitDefEqProofs := false) (maxSteps := 2000000) (disch := omega) only [go_sem, eST, hk, y0]; (repeat' (first | (refine hK _ ?_; clear hK hkp kp K) | (with_reducible refine And.intro ?_ ?_) | omega))) | ((first | refine goG_ask (fun h => ?_) (fun h => ?_) | refine goGD_ask (fun h => ?_) (fun h => ?_) | refine goGX_ask (fun h => ?_) (fun h => ?_)) <;> (simp (implicitDefEqProofs := false) (maxSteps := 2000000) (disch := omega) only [go_sem, eST, hk, y0, h]; (repeat' (first | (refine hK _ ?_; clear hK hkp kp K) | (with_reducible refine And.intro ?_ ?_) | omega)))) | refine awp_cond_t rfl ?_ | refine awp_cond_f rfl ?_ | ((refine awp_cond rfl (fun h => ?_) (fun h => ?_) <;> try simp only [decide_eq_true_eq, decide_eq_false_iff_not, Int.not_lt, Int.not_le, Bool.not_eq_true, Bool.not_eq_false, bne_iff_ne, ne_eq, beq_iff_eq, bne_eq_false_iff_eq, beq_eq_false_iff_ne] at h) <;> (try (exfalso; omega))) | refine awp_ret ?_))
      (refine retA_is (by (simp (implicitDefEqProofs := false) (maxSteps := 2000000) (disch := omega) only [go_sem, Go.Proofs.Tryd.results34, checkM_parts hh (hp ▸ z0), hp]); rfl) ?_; refine (embV_nil hE (by simp) ?_).s; simp [oneA, ren, renL, checkM_parts hh (hp ▸ z0), hp])
  · have bn : (nameM s.tab != 0) = true := by simpa using hn
    (repeat' (first | refine awp_seq ?_ | refine awp_block ?_ | refine awp_skip ?_ | refine awp_exit ?_ | ((first | refine awp_r (by kernel_rfl) (fun K kp hK hkp => ?_) | refine awp_dx (id := 16) mixed [] 24 [0, 1, 2, 3, 4, 5, 6, 7, 8, 9, 10, 11, 12, 13, 14, 15, 16, 17, 18, 19, 20, 21, 22, 23] (by kernel_rfl) (by kernel_rfl) (by simp only [go_sem]; rfl) (by simp only [go_sem]; rfl) (by simp only [go_sem]; rfl) (by rfl) (fun K kp hK hkp => ?_) | refine awp_dx (id := 19) mixed [] 12 [0, 1, 2, 3, 4, 5, 6, 7, 8, 9, 10, 11] (by kernel_rfl) (by kernel_rfl) (by simp only [go_sem]; rfl) (by simp only [go_sem]; rfl) (by simp only [go_sem]; rfl) (by rfl) (fun K kp hK hkp => ?_) | ((first | apply callR_i (tc) | apply callD_i (tc) | apply callX_i (tc)); (case hb => (simp (implicitDefEqProofs := false) (maxSteps := 2000000) (disch := omega) only [go_sem, eST, hk, bn]; first | done | rfl)); (case hp => (first | (simp [-List.map_drop, -List.map_take, eST, hk, bn]; done) | exact .ro _ _ (pt_map _ _))); (case hq => (first | (simp [-List.map_drop, -List.map_take]; done) | (intro _ h; simp only [List.mem_singleton] at h; subst h; exact pt_map _ _))))); simp (implicitDefEqProofs := false) (maxSteps := 2000000) (disch := omega) only [go_sem, eST, hk, bn]; (repeat' (first | (refine hK _ ?_; clear hK hkp kp K) | (with_reducible refine And.intro ?_ ?_) | omega))) | ((first | refine goG_ask (fun h => ?_) (fun h => ?_) | refine goGD_ask (fun h => ?_) (fun h => ?_) | refine goGX_ask (fun h => ?_) (fun h => ?_)) <;> (simp (implicitDefEqProofs := false) (maxSteps := 2000000) (disch := omega) only [go_sem, eST, hk, bn, h]; (repeat' (first | (refine hK _ ?_; clear hK hkp kp K) | (with_reducible refine And.intro ?_ ?_) | omega)))) | refine awp_cond_t rfl ?_ | refine awp_cond_f rfl ?_ | ((refine awp_cond rfl (fun h => ?_) (fun h => ?_) <;> try simp only [decide_eq_true_eq, decide_eq_false_iff_not, Int.not_lt, Int.not_le, Bool.not_eq_true, Bool.not_eq_false, bne_iff_ne, ne_eq, beq_iff_eq, bne_eq_false_iff_eq, beq_eq_false_iff_ne] at h) <;> (try (exfalso; omega))) | refine awp_ret ?_))
    (refine retA_is (by (simp (implicitDefEqProofs := false) (maxSteps := 2000000) (disch := omega) only [go_sem, Go.Proofs.Tryd.results34, checkM_name (show s.k < 7 by omega) hn]); rfl) ?_; refine (embV_nil hE (by simp) ?_).s; simp [oneA, ren, renL, checkM_name (show s.k < 7 by omega) hn])
set_option maxRecDepth 100000 in
set_option maxHeartbeats 8000000 in
theorem check2_con {G : List (Nat × List Value)} (T : Tabs G) (s : ST) (o : okST s) (hk : s.k = 2) : Con Go.Proofs.Tryd.prog G 34 [.agg (eST s)] [] 0 (Is (.r (.int .i64 (checkM s))) [] 0) No := by
  refine con_of_awp Go.Proofs.Tryd.func34 rfl (by kernel_rfl) (of_decide_eq_true (by kernel_rfl)) ?_; intro E hG hE; subst hG; simp only [ent]
  have tc := name_con T s.tab o.tab
  by_cases hn : nameM s.tab = 0
  · rw [hn] at tc
    have hh : ¬ (s.k < 7 ∧ nameM s.tab ≠ 0) := fun h => h.2 hn
    have hp : partsM s = 0 := by simp [partsM, hk]
    have hS : hasM s = ⟨2, s.tab, [], [], [], false, [], b0, false, -1, b0, []⟩ := by simp [hasM, hk]
    have bc := bare_con E.G s (hasM s)
    cases hb : bareB s (hasM s)
    · rw [hb, hS] at bc
      simp only [eST, hk, List.map_nil] at bc
      have bc := bc.weak (xs := [.agg [.r (.int .i64 2), .r (.string s.tab), .ro true 2 (s.cols.map eC), .ro true 3 (s.row.map eV), .ro true 1 (s.names.map eStr), .r (.bool s.count), .ro true 5 (s.wh.map eO), .r (.string s.ord), .r (.bool s.down), .r (.int .i64 s.lim), .r (.string s.set), .ro true 5 (s.to.map eO)], .agg [.r (.int .i64 2), .r (.string s.tab), .r (.slice none 0 0), .r (.slice none 0 0), .r (.slice none 0 0), .r (.bool false), .r (.slice none 0 0), .r (.string b0), .r (.bool false), .r (.int .i64 (-1)), .r (.string b0), .r (.slice none 0 0)]]) (by simp [wkL, wk])
      (repeat' (first | refine awp_seq ?_ | refine awp_block ?_ | refine awp_skip ?_ | refine awp_exit ?_ | ((first | refine awp_r (by kernel_rfl) (fun K kp hK hkp => ?_) | refine awp_dx (id := 16) mixed [1] 24 [0, 1, 2, 3, 4, 5, 6, 7, 8, 9, 10, 11, 12, 13, 14, 15, 16, 17, 18, 19, 20, 21, 22, 23] (by kernel_rfl) (by kernel_rfl) (by simp only [go_sem]; rfl) (by simp only [go_sem]; rfl) (by simp only [go_sem]; rfl) (by rfl) (fun K kp hK hkp => ?_) | refine awp_dx (id := 19) mixed [1] 12 [0, 1, 2, 3, 4, 5, 6, 7, 8, 9, 10, 11] (by kernel_rfl) (by kernel_rfl) (by simp only [go_sem]; rfl) (by simp only [go_sem]; rfl) (by simp only [go_sem]; rfl) (by rfl) (fun K kp hK hkp => ?_) | ((first | apply callR_i (tc) | apply callD_i (tc) | apply callX_i (tc)); (case hb => (simp (implicitDefEqProofs := false) (maxSteps := 2000000) (disch := omega) only [go_sem, eST, hk]; first | done | rfl)); (case hp => (first | (simp [-List.map_drop, -List.map_take, eST, hk]; done) | exact .ro _ _ (pt_map _ _))); (case hq => (first | (simp [-List.map_drop, -List.map_take]; done) | (intro _ h; simp only [List.mem_singleton] at h; subst h; exact pt_map _ _)))) | ((first | apply callR_i (bc) | apply callD_i (bc) | apply callX_i (bc)); (case hb => (simp (implicitDefEqProofs := false) (maxSteps := 2000000) (disch := omega) only [go_sem, eST, hk]; first | done | rfl)); (case hp => (first | (simp [-List.map_drop, -List.map_take, eST, hk]; done) | exact .ro _ _ (pt_map _ _))); (case hq => (first | (simp [-List.map_drop, -List.map_take]; done) | (intro _ h; simp only [List.mem_singleton] at h; subst h; exact pt_map _ _))))); simp (implicitDefEqProofs := false) (maxSteps := 2000000) (disch := omega) only [go_sem, eST, hk]; (repeat' (first | (refine hK _ ?_; clear hK hkp kp K) | (with_reducible refine And.intro ?_ ?_) | omega))) | ((first | refine goG_ask (fun h => ?_) (fun h => ?_) | refine goGD_ask (fun h => ?_) (fun h => ?_) | refine goGX_ask (fun h => ?_) (fun h => ?_)) <;> (simp (implicitDefEqProofs := false) (maxSteps := 2000000) (disch := omega) only [go_sem, eST, hk, h]; (repeat' (first | (refine hK _ ?_; clear hK hkp kp K) | (with_reducible refine And.intro ?_ ?_) | omega)))) | refine awp_cond_t rfl ?_ | refine awp_cond_f rfl ?_ | ((refine awp_cond rfl (fun h => ?_) (fun h => ?_) <;> try simp only [decide_eq_true_eq, decide_eq_false_iff_not, Int.not_lt, Int.not_le, Bool.not_eq_true, Bool.not_eq_false, bne_iff_ne, ne_eq, beq_iff_eq, bne_eq_false_iff_eq, beq_eq_false_iff_ne] at h) <;> (try (exfalso; omega))) | refine awp_ret ?_))
      (refine retA_is (by (simp (implicitDefEqProofs := false) (maxSteps := 2000000) (disch := omega) only [go_sem, Go.Proofs.Tryd.results34, checkM_form hh hp hb]); rfl) ?_; refine (embV_nil hE (by simp) ?_).s; simp [oneA, ren, renL, checkM_form hh hp hb])
    · rw [hb, hS] at bc
      simp only [eST, hk, List.map_nil] at bc
      have bc := bc.weak (xs := [.agg [.r (.int .i64 2), .r (.string s.tab), .ro true 2 (s.cols.map eC), .ro true 3 (s.row.map eV), .ro true 1 (s.names.map eStr), .r (.bool s.count), .ro true 5 (s.wh.map eO), .r (.string s.ord), .r (.bool s.down), .r (.int .i64 s.lim), .r (.string s.set), .ro true 5 (s.to.map eO)], .agg [.r (.int .i64 2), .r (.string s.tab), .r (.slice none 0 0), .r (.slice none 0 0), .r (.slice none 0 0), .r (.bool false), .r (.slice none 0 0), .r (.string b0), .r (.bool false), .r (.int .i64 (-1)), .r (.string b0), .r (.slice none 0 0)]]) (by simp [wkL, wk])
      (repeat' (first | refine awp_seq ?_ | refine awp_block ?_ | refine awp_skip ?_ | refine awp_exit ?_ | ((first | refine awp_r (by kernel_rfl) (fun K kp hK hkp => ?_) | refine awp_dx (id := 16) mixed [1] 24 [0, 1, 2, 3, 4, 5, 6, 7, 8, 9, 10, 11, 12, 13, 14, 15, 16, 17, 18, 19, 20, 21, 22, 23] (by kernel_rfl) (by kernel_rfl) (by simp only [go_sem]; rfl) (by simp only [go_sem]; rfl) (by simp only [go_sem]; rfl) (by rfl) (fun K kp hK hkp => ?_) | refine awp_dx (id := 19) mixed [1] 12 [0, 1, 2, 3, 4, 5, 6, 7, 8, 9, 10, 11] (by kernel_rfl) (by kernel_rfl) (by simp only [go_sem]; rfl) (by simp only [go_sem]; rfl) (by simp only [go_sem]; rfl) (by rfl) (fun K kp hK hkp => ?_) | ((first | apply callR_i (tc) | apply callD_i (tc) | apply callX_i (tc)); (case hb => (simp (implicitDefEqProofs := false) (maxSteps := 2000000) (disch := omega) only [go_sem, eST, hk]; first | done | rfl)); (case hp => (first | (simp [-List.map_drop, -List.map_take, eST, hk]; done) | exact .ro _ _ (pt_map _ _))); (case hq => (first | (simp [-List.map_drop, -List.map_take]; done) | (intro _ h; simp only [List.mem_singleton] at h; subst h; exact pt_map _ _)))) | ((first | apply callR_i (bc) | apply callD_i (bc) | apply callX_i (bc)); (case hb => (simp (implicitDefEqProofs := false) (maxSteps := 2000000) (disch := omega) only [go_sem, eST, hk]; first | done | rfl)); (case hp => (first | (simp [-List.map_drop, -List.map_take, eST, hk]; done) | exact .ro _ _ (pt_map _ _))); (case hq => (first | (simp [-List.map_drop, -List.map_take]; done) | (intro _ h; simp only [List.mem_singleton] at h; subst h; exact pt_map _ _))))); simp (implicitDefEqProofs := false) (maxSteps := 2000000) (disch := omega) only [go_sem, eST, hk]; (repeat' (first | (refine hK _ ?_; clear hK hkp kp K) | (with_reducible refine And.intro ?_ ?_) | omega))) | ((first | refine goG_ask (fun h => ?_) (fun h => ?_) | refine goGD_ask (fun h => ?_) (fun h => ?_) | refine goGX_ask (fun h => ?_) (fun h => ?_)) <;> (simp (implicitDefEqProofs := false) (maxSteps := 2000000) (disch := omega) only [go_sem, eST, hk, h]; (repeat' (first | (refine hK _ ?_; clear hK hkp kp K) | (with_reducible refine And.intro ?_ ?_) | omega)))) | refine awp_cond_t rfl ?_ | refine awp_cond_f rfl ?_ | ((refine awp_cond rfl (fun h => ?_) (fun h => ?_) <;> try simp only [decide_eq_true_eq, decide_eq_false_iff_not, Int.not_lt, Int.not_le, Bool.not_eq_true, Bool.not_eq_false, bne_iff_ne, ne_eq, beq_iff_eq, bne_eq_false_iff_eq, beq_eq_false_iff_ne] at h) <;> (try (exfalso; omega))) | refine awp_ret ?_))
      (refine retA_is (by (simp (implicitDefEqProofs := false) (maxSteps := 2000000) (disch := omega) only [go_sem, Go.Proofs.Tryd.results34, checkM_ok hh hp hb]); rfl) ?_; refine (embV_nil hE (by simp) ?_).s; simp [oneA, ren, renL, checkM_ok hh hp hb])
  · have bn : (nameM s.tab != 0) = true := by simpa using hn
    (repeat' (first | refine awp_seq ?_ | refine awp_block ?_ | refine awp_skip ?_ | refine awp_exit ?_ | ((first | refine awp_r (by kernel_rfl) (fun K kp hK hkp => ?_) | refine awp_dx (id := 16) mixed [] 24 [0, 1, 2, 3, 4, 5, 6, 7, 8, 9, 10, 11, 12, 13, 14, 15, 16, 17, 18, 19, 20, 21, 22, 23] (by kernel_rfl) (by kernel_rfl) (by simp only [go_sem]; rfl) (by simp only [go_sem]; rfl) (by simp only [go_sem]; rfl) (by rfl) (fun K kp hK hkp => ?_) | refine awp_dx (id := 19) mixed [] 12 [0, 1, 2, 3, 4, 5, 6, 7, 8, 9, 10, 11] (by kernel_rfl) (by kernel_rfl) (by simp only [go_sem]; rfl) (by simp only [go_sem]; rfl) (by simp only [go_sem]; rfl) (by rfl) (fun K kp hK hkp => ?_) | ((first | apply callR_i (tc) | apply callD_i (tc) | apply callX_i (tc)); (case hb => (simp (implicitDefEqProofs := false) (maxSteps := 2000000) (disch := omega) only [go_sem, eST, hk, bn]; first | done | rfl)); (case hp => (first | (simp [-List.map_drop, -List.map_take, eST, hk, bn]; done) | exact .ro _ _ (pt_map _ _))); (case hq => (first | (simp [-List.map_drop, -List.map_take]; done) | (intro _ h; simp only [List.mem_singleton] at h; subst h; exact pt_map _ _))))); simp (implicitDefEqProofs := false) (maxSteps := 2000000) (disch := omega) only [go_sem, eST, hk, bn]; (repeat' (first | (refine hK _ ?_; clear hK hkp kp K) | (with_reducible refine And.intro ?_ ?_) | omega))) | ((first | refine goG_ask (fun h => ?_) (fun h => ?_) | refine goGD_ask (fun h => ?_) (fun h => ?_) | refine goGX_ask (fun h => ?_) (fun h => ?_)) <;> (simp (implicitDefEqProofs := false) (maxSteps := 2000000) (disch := omega) only [go_sem, eST, hk, bn, h]; (repeat' (first | (refine hK _ ?_; clear hK hkp kp K) | (with_reducible refine And.intro ?_ ?_) | omega)))) | refine awp_cond_t rfl ?_ | refine awp_cond_f rfl ?_ | ((refine awp_cond rfl (fun h => ?_) (fun h => ?_) <;> try simp only [decide_eq_true_eq, decide_eq_false_iff_not, Int.not_lt, Int.not_le, Bool.not_eq_true, Bool.not_eq_false, bne_iff_ne, ne_eq, beq_iff_eq, bne_eq_false_iff_eq, beq_eq_false_iff_ne] at h) <;> (try (exfalso; omega))) | refine awp_ret ?_))
    (refine retA_is (by (simp (implicitDefEqProofs := false) (maxSteps := 2000000) (disch := omega) only [go_sem, Go.Proofs.Tryd.results34, checkM_name (show s.k < 7 by omega) hn]); rfl) ?_; refine (embV_nil hE (by simp) ?_).s; simp [oneA, ren, renL, checkM_name (show s.k < 7 by omega) hn])
set_option maxRecDepth 100000 in
set_option maxHeartbeats 8000000 in
theorem check3_con {G : List (Nat × List Value)} (T : Tabs G) (s : ST) (o : okST s) (hk : s.k = 3) : Con Go.Proofs.Tryd.prog G 34 [.agg (eST s)] [] 0 (Is (.r (.int .i64 (checkM s))) [] 0) No := by
  refine con_of_awp Go.Proofs.Tryd.func34 rfl (by kernel_rfl) (of_decide_eq_true (by kernel_rfl)) ?_; intro E hG hE; subst hG; simp only [ent]
  have tc := name_con T s.tab o.tab
  by_cases hn : nameM s.tab = 0
  · rw [hn] at tc
    have hh : ¬ (s.k < 7 ∧ nameM s.tab ≠ 0) := fun h => h.2 hn
    have p0 := row_con E.G true s.row o.lr o.row
    by_cases z0 : rowM s.row = 0
    · rw [z0] at p0
      have hp : partsM s = 0 := by simp [partsM, hk, z0]
      have hS : hasM s = ⟨3, s.tab, [], s.row, [], false, [], b0, false, -1, b0, []⟩ := by simp [hasM, hk]
      have bc := bare_con E.G s (hasM s)
      cases hb : bareB s (hasM s)
      · rw [hb, hS] at bc
        simp only [eST, hk, List.map_nil] at bc
        have bc := bc.weak (xs := [.agg [.r (.int .i64 3), .r (.string s.tab), .ro true 2 (s.cols.map eC), .ro true 3 (s.row.map eV), .ro true 1 (s.names.map eStr), .r (.bool s.count), .ro true 5 (s.wh.map eO), .r (.string s.ord), .r (.bool s.down), .r (.int .i64 s.lim), .r (.string s.set), .ro true 5 (s.to.map eO)], .agg [.r (.int .i64 3), .r (.string s.tab), .r (.slice none 0 0), .ro true 3 (s.row.map eV), .r (.slice none 0 0), .r (.bool false), .r (.slice none 0 0), .r (.string b0), .r (.bool false), .r (.int .i64 (-1)), .r (.string b0), .r (.slice none 0 0)]]) (by simp [wkL, wk])
        (repeat' (first | refine awp_seq ?_ | refine awp_block ?_ | refine awp_skip ?_ | refine awp_exit ?_ | ((first | refine awp_r (by kernel_rfl) (fun K kp hK hkp => ?_) | refine awp_dx (id := 16) mixed [1] 24 [0, 1, 2, 3, 4, 5, 6, 7, 8, 9, 10, 11, 12, 13, 14, 15, 16, 17, 18, 19, 20, 21, 22, 23] (by kernel_rfl) (by kernel_rfl) (by simp only [go_sem]; rfl) (by simp only [go_sem]; rfl) (by simp only [go_sem]; rfl) (by rfl) (fun K kp hK hkp => ?_) | refine awp_dx (id := 19) mixed [1] 12 [0, 1, 2, 3, 4, 5, 6, 7, 8, 9, 10, 11] (by kernel_rfl) (by kernel_rfl) (by simp only [go_sem]; rfl) (by simp only [go_sem]; rfl) (by simp only [go_sem]; rfl) (by rfl) (fun K kp hK hkp => ?_) | ((first | apply callR_i (tc) | apply callD_i (tc) | apply callX_i (tc)); (case hb => (simp (implicitDefEqProofs := false) (maxSteps := 2000000) (disch := omega) only [go_sem, eST, hk]; first | done | rfl)); (case hp => (first | (simp [-List.map_drop, -List.map_take, eST, hk]; done) | exact .ro _ _ (pt_map _ _))); (case hq => (first | (simp [-List.map_drop, -List.map_take]; done) | (intro _ h; simp only [List.mem_singleton] at h; subst h; exact pt_map _ _)))) | ((first | apply callR_i (p0) | apply callD_i (p0) | apply callX_i (p0)); (case hb => (simp (implicitDefEqProofs := false) (maxSteps := 2000000) (disch := omega) only [go_sem, eST, hk]; first | done | rfl)); (case hp => (first | (simp [-List.map_drop, -List.map_take, eST, hk]; done) | exact .ro _ _ (pt_map _ _))); (case hq => (first | (simp [-List.map_drop, -List.map_take]; done) | (intro _ h; simp only [List.mem_singleton] at h; subst h; exact pt_map _ _)))) | ((first | apply callR_i (bc) | apply callD_i (bc) | apply callX_i (bc)); (case hb => (simp (implicitDefEqProofs := false) (maxSteps := 2000000) (disch := omega) only [go_sem, eST, hk]; first | done | rfl)); (case hp => (first | (simp [-List.map_drop, -List.map_take, eST, hk]; done) | exact .ro _ _ (pt_map _ _))); (case hq => (first | (simp [-List.map_drop, -List.map_take]; done) | (intro _ h; simp only [List.mem_singleton] at h; subst h; exact pt_map _ _))))); simp (implicitDefEqProofs := false) (maxSteps := 2000000) (disch := omega) only [go_sem, eST, hk]; (repeat' (first | (refine hK _ ?_; clear hK hkp kp K) | (with_reducible refine And.intro ?_ ?_) | omega))) | ((first | refine goG_ask (fun h => ?_) (fun h => ?_) | refine goGD_ask (fun h => ?_) (fun h => ?_) | refine goGX_ask (fun h => ?_) (fun h => ?_)) <;> (simp (implicitDefEqProofs := false) (maxSteps := 2000000) (disch := omega) only [go_sem, eST, hk, h]; (repeat' (first | (refine hK _ ?_; clear hK hkp kp K) | (with_reducible refine And.intro ?_ ?_) | omega)))) | refine awp_cond_t rfl ?_ | refine awp_cond_f rfl ?_ | ((refine awp_cond rfl (fun h => ?_) (fun h => ?_) <;> try simp only [decide_eq_true_eq, decide_eq_false_iff_not, Int.not_lt, Int.not_le, Bool.not_eq_true, Bool.not_eq_false, bne_iff_ne, ne_eq, beq_iff_eq, bne_eq_false_iff_eq, beq_eq_false_iff_ne] at h) <;> (try (exfalso; omega))) | refine awp_ret ?_))
        (refine retA_is (by (simp (implicitDefEqProofs := false) (maxSteps := 2000000) (disch := omega) only [go_sem, Go.Proofs.Tryd.results34, checkM_form hh hp hb]); rfl) ?_; refine (embV_nil hE (by simp) ?_).s; simp [oneA, ren, renL, checkM_form hh hp hb])
      · rw [hb, hS] at bc
        simp only [eST, hk, List.map_nil] at bc
        have bc := bc.weak (xs := [.agg [.r (.int .i64 3), .r (.string s.tab), .ro true 2 (s.cols.map eC), .ro true 3 (s.row.map eV), .ro true 1 (s.names.map eStr), .r (.bool s.count), .ro true 5 (s.wh.map eO), .r (.string s.ord), .r (.bool s.down), .r (.int .i64 s.lim), .r (.string s.set), .ro true 5 (s.to.map eO)], .agg [.r (.int .i64 3), .r (.string s.tab), .r (.slice none 0 0), .ro true 3 (s.row.map eV), .r (.slice none 0 0), .r (.bool false), .r (.slice none 0 0), .r (.string b0), .r (.bool false), .r (.int .i64 (-1)), .r (.string b0), .r (.slice none 0 0)]]) (by simp [wkL, wk])
        (repeat' (first | refine awp_seq ?_ | refine awp_block ?_ | refine awp_skip ?_ | refine awp_exit ?_ | ((first | refine awp_r (by kernel_rfl) (fun K kp hK hkp => ?_) | refine awp_dx (id := 16) mixed [1] 24 [0, 1, 2, 3, 4, 5, 6, 7, 8, 9, 10, 11, 12, 13, 14, 15, 16, 17, 18, 19, 20, 21, 22, 23] (by kernel_rfl) (by kernel_rfl) (by simp only [go_sem]; rfl) (by simp only [go_sem]; rfl) (by simp only [go_sem]; rfl) (by rfl) (fun K kp hK hkp => ?_) | refine awp_dx (id := 19) mixed [1] 12 [0, 1, 2, 3, 4, 5, 6, 7, 8, 9, 10, 11] (by kernel_rfl) (by kernel_rfl) (by simp only [go_sem]; rfl) (by simp only [go_sem]; rfl) (by simp only [go_sem]; rfl) (by rfl) (fun K kp hK hkp => ?_) | ((first | apply callR_i (tc) | apply callD_i (tc) | apply callX_i (tc)); (case hb => (simp (implicitDefEqProofs := false) (maxSteps := 2000000) (disch := omega) only [go_sem, eST, hk]; first | done | rfl)); (case hp => (first | (simp [-List.map_drop, -List.map_take, eST, hk]; done) | exact .ro _ _ (pt_map _ _))); (case hq => (first | (simp [-List.map_drop, -List.map_take]; done) | (intro _ h; simp only [List.mem_singleton] at h; subst h; exact pt_map _ _)))) | ((first | apply callR_i (p0) | apply callD_i (p0) | apply callX_i (p0)); (case hb => (simp (implicitDefEqProofs := false) (maxSteps := 2000000) (disch := omega) only [go_sem, eST, hk]; first | done | rfl)); (case hp => (first | (simp [-List.map_drop, -List.map_take, eST, hk]; done) | exact .ro _ _ (pt_map _ _))); (case hq => (first | (simp [-List.map_drop, -List.map_take]; done) | (intro _ h; simp only [List.mem_singleton] at h; subst h; exact pt_map _ _)))) | ((first | apply callR_i (bc) | apply callD_i (bc) | apply callX_i (bc)); (case hb => (simp (implicitDefEqProofs := false) (maxSteps := 2000000) (disch := omega) only [go_sem, eST, hk]; first | done | rfl)); (case hp => (first | (simp [-List.map_drop, -List.map_take, eST, hk]; done) | exact .ro _ _ (pt_map _ _))); (case hq => (first | (simp [-List.map_drop, -List.map_take]; done) | (intro _ h; simp only [List.mem_singleton] at h; subst h; exact pt_map _ _))))); simp (implicitDefEqProofs := false) (maxSteps := 2000000) (disch := omega) only [go_sem, eST, hk]; (repeat' (first | (refine hK _ ?_; clear hK hkp kp K) | (with_reducible refine And.intro ?_ ?_) | omega))) | ((first | refine goG_ask (fun h => ?_) (fun h => ?_) | refine goGD_ask (fun h => ?_) (fun h => ?_) | refine goGX_ask (fun h => ?_) (fun h => ?_)) <;> (simp (implicitDefEqProofs := false) (maxSteps := 2000000) (disch := omega) only [go_sem, eST, hk, h]; (repeat' (first | (refine hK _ ?_; clear hK hkp kp K) | (with_reducible refine And.intro ?_ ?_) | omega)))) | refine awp_cond_t rfl ?_ | refine awp_cond_f rfl ?_ | ((refine awp_cond rfl (fun h => ?_) (fun h => ?_) <;> try simp only [decide_eq_true_eq, decide_eq_false_iff_not, Int.not_lt, Int.not_le, Bool.not_eq_true, Bool.not_eq_false, bne_iff_ne, ne_eq, beq_iff_eq, bne_eq_false_iff_eq, beq_eq_false_iff_ne] at h) <;> (try (exfalso; omega))) | refine awp_ret ?_))
        (refine retA_is (by (simp (implicitDefEqProofs := false) (maxSteps := 2000000) (disch := omega) only [go_sem, Go.Proofs.Tryd.results34, checkM_ok hh hp hb]); rfl) ?_; refine (embV_nil hE (by simp) ?_).s; simp [oneA, ren, renL, checkM_ok hh hp hb])
    · have y0 : (rowM s.row == 0) = false := by simpa using z0
      have hp : partsM s = rowM s.row := by simp [partsM, hk, z0]
      (repeat' (first | refine awp_seq ?_ | refine awp_block ?_ | refine awp_skip ?_ | refine awp_exit ?_ | ((first | refine awp_r (by kernel_rfl) (fun K kp hK hkp => ?_) | refine awp_dx (id := 16) mixed [1] 24 [0, 1, 2, 3, 4, 5, 6, 7, 8, 9, 10, 11, 12, 13, 14, 15, 16, 17, 18, 19, 20, 21, 22, 23] (by kernel_rfl) (by kernel_rfl) (by simp only [go_sem]; rfl) (by simp only [go_sem]; rfl) (by simp only [go_sem]; rfl) (by rfl) (fun K kp hK hkp => ?_) | refine awp_dx (id := 19) mixed [1] 12 [0, 1, 2, 3, 4, 5, 6, 7, 8, 9, 10, 11] (by kernel_rfl) (by kernel_rfl) (by simp only [go_sem]; rfl) (by simp only [go_sem]; rfl) (by simp only [go_sem]; rfl) (by rfl) (fun K kp hK hkp => ?_) | ((first | apply callR_i (tc) | apply callD_i (tc) | apply callX_i (tc)); (case hb => (simp (implicitDefEqProofs := false) (maxSteps := 2000000) (disch := omega) only [go_sem, eST, hk, y0]; first | done | rfl)); (case hp => (first | (simp [-List.map_drop, -List.map_take, eST, hk, y0]; done) | exact .ro _ _ (pt_map _ _))); (case hq => (first | (simp [-List.map_drop, -List.map_take]; done) | (intro _ h; simp only [List.mem_singleton] at h; subst h; exact pt_map _ _)))) | ((first | apply callR_i (p0) | apply callD_i (p0) | apply callX_i (p0)); (case hb => (simp (implicitDefEqProofs := false) (maxSteps := 2000000) (disch := omega) only [go_sem, eST, hk, y0]; first | done | rfl)); (case hp => (first | (simp [-List.map_drop, -List.map_take, eST, hk, y0]; done) | exact .ro _ _ (pt_map _ _))); (case hq => (first | (simp [-List.map_drop, -List.map_take]; done) | (intro _ h; simp only [List.mem_singleton] at h; subst h; exact pt_map _ _))))); simp (implicitDefEqProofs := false) (maxSteps := 2000000) (disch := omega) only [go_sem, eST, hk, y0]; (repeat' (first | (refine hK _ ?_; clear hK hkp kp K) | (with_reducible refine And.intro ?_ ?_) | omega))) | ((first | refine goG_ask (fun h => ?_) (fun h => ?_) | refine goGD_ask (fun h => ?_) (fun h => ?_) | refine goGX_ask (fun h => ?_) (fun h => ?_)) <;> (simp (implicitDefEqProofs := false) (maxSteps := 2000000) (disch := omega) only [go_sem, eST, hk, y0, h]; (repeat' (first | (refine hK _ ?_; clear hK hkp kp K) | (with_reducible refine And.intro ?_ ?_) | omega)))) | refine awp_cond_t rfl ?_ | refine awp_cond_f rfl ?_ | ((refine awp_cond rfl (fun h => ?_) (fun h => ?_) <;> try simp only [decide_eq_true_eq, decide_eq_false_iff_not, Int.not_lt, Int.not_le, Bool.not_eq_true, Bool.not_eq_false, bne_iff_ne, ne_eq, beq_iff_eq, bne_eq_false_iff_eq, beq_eq_false_iff_ne] at h) <;> (try (exfalso; omega))) | refine awp_ret ?_))
      (refine retA_is (by (simp (implicitDefEqProofs := false) (maxSteps := 2000000) (disch := omega) only [go_sem, Go.Proofs.Tryd.results34, checkM_parts hh (hp ▸ z0), hp]); rfl) ?_; refine (embV_nil hE (by simp) ?_).s; simp [oneA, ren, renL, checkM_parts hh (hp ▸ z0), hp])
  · have bn : (nameM s.tab != 0) = true := by simpa using hn
    (repeat' (first | refine awp_seq ?_ | refine awp_block ?_ | refine awp_skip ?_ | refine awp_exit ?_ | ((first | refine awp_r (by kernel_rfl) (fun K kp hK hkp => ?_) | refine awp_dx (id := 16) mixed [] 24 [0, 1, 2, 3, 4, 5, 6, 7, 8, 9, 10, 11, 12, 13, 14, 15, 16, 17, 18, 19, 20, 21, 22, 23] (by kernel_rfl) (by kernel_rfl) (by simp only [go_sem]; rfl) (by simp only [go_sem]; rfl) (by simp only [go_sem]; rfl) (by rfl) (fun K kp hK hkp => ?_) | refine awp_dx (id := 19) mixed [] 12 [0, 1, 2, 3, 4, 5, 6, 7, 8, 9, 10, 11] (by kernel_rfl) (by kernel_rfl) (by simp only [go_sem]; rfl) (by simp only [go_sem]; rfl) (by simp only [go_sem]; rfl) (by rfl) (fun K kp hK hkp => ?_) | ((first | apply callR_i (tc) | apply callD_i (tc) | apply callX_i (tc)); (case hb => (simp (implicitDefEqProofs := false) (maxSteps := 2000000) (disch := omega) only [go_sem, eST, hk, bn]; first | done | rfl)); (case hp => (first | (simp [-List.map_drop, -List.map_take, eST, hk, bn]; done) | exact .ro _ _ (pt_map _ _))); (case hq => (first | (simp [-List.map_drop, -List.map_take]; done) | (intro _ h; simp only [List.mem_singleton] at h; subst h; exact pt_map _ _))))); simp (implicitDefEqProofs := false) (maxSteps := 2000000) (disch := omega) only [go_sem, eST, hk, bn]; (repeat' (first | (refine hK _ ?_; clear hK hkp kp K) | (with_reducible refine And.intro ?_ ?_) | omega))) | ((first | refine goG_ask (fun h => ?_) (fun h => ?_) | refine goGD_ask (fun h => ?_) (fun h => ?_) | refine goGX_ask (fun h => ?_) (fun h => ?_)) <;> (simp (implicitDefEqProofs := false) (maxSteps := 2000000) (disch := omega) only [go_sem, eST, hk, bn, h]; (repeat' (first | (refine hK _ ?_; clear hK hkp kp K) | (with_reducible refine And.intro ?_ ?_) | omega)))) | refine awp_cond_t rfl ?_ | refine awp_cond_f rfl ?_ | ((refine awp_cond rfl (fun h => ?_) (fun h => ?_) <;> try simp only [decide_eq_true_eq, decide_eq_false_iff_not, Int.not_lt, Int.not_le, Bool.not_eq_true, Bool.not_eq_false, bne_iff_ne, ne_eq, beq_iff_eq, bne_eq_false_iff_eq, beq_eq_false_iff_ne] at h) <;> (try (exfalso; omega))) | refine awp_ret ?_))
    (refine retA_is (by (simp (implicitDefEqProofs := false) (maxSteps := 2000000) (disch := omega) only [go_sem, Go.Proofs.Tryd.results34, checkM_name (show s.k < 7 by omega) hn]); rfl) ?_; refine (embV_nil hE (by simp) ?_).s; simp [oneA, ren, renL, checkM_name (show s.k < 7 by omega) hn])
set_option maxRecDepth 100000 in
set_option maxHeartbeats 8000000 in
theorem check4_con {G : List (Nat × List Value)} (T : Tabs G) (s : ST) (o : okST s) (hk : s.k = 4) : Con Go.Proofs.Tryd.prog G 34 [.agg (eST s)] [] 0 (Is (.r (.int .i64 (checkM s))) [] 0) No := by
  refine con_of_awp Go.Proofs.Tryd.func34 rfl (by kernel_rfl) (of_decide_eq_true (by kernel_rfl)) ?_; intro E hG hE; subst hG; simp only [ent]
  have tc := name_con T s.tab o.tab
  by_cases hn : nameM s.tab = 0
  · rw [hn] at tc
    have hh : ¬ (s.k < 7 ∧ nameM s.tab ≠ 0) := fun h => h.2 hn
    have p0 := pick_con T s o
    simp only [eST, hk] at p0
    by_cases z0 : pickM s = 0
    · rw [z0] at p0
      have hp : partsM s = 0 := by simp [partsM, hk, z0]
      have hS : hasM s = ⟨4, s.tab, [], [], s.names, s.count, s.wh, s.ord, s.down, s.lim, b0, []⟩ := by simp [hasM, hk]
      have bc := bare_con E.G s (hasM s)
      cases hb : bareB s (hasM s)
      · rw [hb, hS] at bc
        simp only [eST, hk, List.map_nil] at bc
        have bc := bc.weak (xs := [.agg [.r (.int .i64 4), .r (.string s.tab), .ro true 2 (s.cols.map eC), .ro true 3 (s.row.map eV), .ro true 1 (s.names.map eStr), .r (.bool s.count), .ro true 5 (s.wh.map eO), .r (.string s.ord), .r (.bool s.down), .r (.int .i64 s.lim), .r (.string s.set), .ro true 5 (s.to.map eO)], .agg [.r (.int .i64 4), .r (.string s.tab), .r (.slice none 0 0), .r (.slice none 0 0), .ro true 1 (s.names.map eStr), .r (.bool s.count), .ro true 5 (s.wh.map eO), .r (.string s.ord), .r (.bool s.down), .r (.int .i64 s.lim), .r (.string b0), .r (.slice none 0 0)]]) (by simp [wkL, wk])
        (repeat' (first | refine awp_seq ?_ | refine awp_block ?_ | refine awp_skip ?_ | refine awp_exit ?_ | ((first | refine awp_r (by kernel_rfl) (fun K kp hK hkp => ?_) | refine awp_dx (id := 16) mixed [1] 24 [0, 1, 2, 3, 4, 5, 6, 7, 8, 9, 10, 11, 12, 13, 14, 15, 16, 17, 18, 19, 20, 21, 22, 23] (by kernel_rfl) (by kernel_rfl) (by simp only [go_sem]; rfl) (by simp only [go_sem]; rfl) (by simp only [go_sem]; rfl) (by rfl) (fun K kp hK hkp => ?_) | refine awp_dx (id := 19) mixed [1] 12 [0, 1, 2, 3, 4, 5, 6, 7, 8, 9, 10, 11] (by kernel_rfl) (by kernel_rfl) (by simp only [go_sem]; rfl) (by simp only [go_sem]; rfl) (by simp only [go_sem]; rfl) (by rfl) (fun K kp hK hkp => ?_) | ((first | apply callR_i (tc) | apply callD_i (tc) | apply callX_i (tc)); (case hb => (simp (implicitDefEqProofs := false) (maxSteps := 2000000) (disch := omega) only [go_sem, eST, hk]; first | done | rfl)); (case hp => (first | (simp [-List.map_drop, -List.map_take, eST, hk]; done) | exact .ro _ _ (pt_map _ _))); (case hq => (first | (simp [-List.map_drop, -List.map_take]; done) | (intro _ h; simp only [List.mem_singleton] at h; subst h; exact pt_map _ _)))) | ((first | apply callR_i (p0) | apply callD_i (p0) | apply callX_i (p0)); (case hb => (simp (implicitDefEqProofs := false) (maxSteps := 2000000) (disch := omega) only [go_sem, eST, hk]; first | done | rfl)); (case hp => (first | (simp [-List.map_drop, -List.map_take, eST, hk]; done) | exact .ro _ _ (pt_map _ _))); (case hq => (first | (simp [-List.map_drop, -List.map_take]; done) | (intro _ h; simp only [List.mem_singleton] at h; subst h; exact pt_map _ _)))) | ((first | apply callR_i (bc) | apply callD_i (bc) | apply callX_i (bc)); (case hb => (simp (implicitDefEqProofs := false) (maxSteps := 2000000) (disch := omega) only [go_sem, eST, hk]; first | done | rfl)); (case hp => (first | (simp [-List.map_drop, -List.map_take, eST, hk]; done) | exact .ro _ _ (pt_map _ _))); (case hq => (first | (simp [-List.map_drop, -List.map_take]; done) | (intro _ h; simp only [List.mem_singleton] at h; subst h; exact pt_map _ _))))); simp (implicitDefEqProofs := false) (maxSteps := 2000000) (disch := omega) only [go_sem, eST, hk]; (repeat' (first | (refine hK _ ?_; clear hK hkp kp K) | (with_reducible refine And.intro ?_ ?_) | omega))) | ((first | refine goG_ask (fun h => ?_) (fun h => ?_) | refine goGD_ask (fun h => ?_) (fun h => ?_) | refine goGX_ask (fun h => ?_) (fun h => ?_)) <;> (simp (implicitDefEqProofs := false) (maxSteps := 2000000) (disch := omega) only [go_sem, eST, hk, h]; (repeat' (first | (refine hK _ ?_; clear hK hkp kp K) | (with_reducible refine And.intro ?_ ?_) | omega)))) | refine awp_cond_t rfl ?_ | refine awp_cond_f rfl ?_ | ((refine awp_cond rfl (fun h => ?_) (fun h => ?_) <;> try simp only [decide_eq_true_eq, decide_eq_false_iff_not, Int.not_lt, Int.not_le, Bool.not_eq_true, Bool.not_eq_false, bne_iff_ne, ne_eq, beq_iff_eq, bne_eq_false_iff_eq, beq_eq_false_iff_ne] at h) <;> (try (exfalso; omega))) | refine awp_ret ?_))
        (refine retA_is (by (simp (implicitDefEqProofs := false) (maxSteps := 2000000) (disch := omega) only [go_sem, Go.Proofs.Tryd.results34, checkM_form hh hp hb]); rfl) ?_; refine (embV_nil hE (by simp) ?_).s; simp [oneA, ren, renL, checkM_form hh hp hb])
      · rw [hb, hS] at bc
        simp only [eST, hk, List.map_nil] at bc
        have bc := bc.weak (xs := [.agg [.r (.int .i64 4), .r (.string s.tab), .ro true 2 (s.cols.map eC), .ro true 3 (s.row.map eV), .ro true 1 (s.names.map eStr), .r (.bool s.count), .ro true 5 (s.wh.map eO), .r (.string s.ord), .r (.bool s.down), .r (.int .i64 s.lim), .r (.string s.set), .ro true 5 (s.to.map eO)], .agg [.r (.int .i64 4), .r (.string s.tab), .r (.slice none 0 0), .r (.slice none 0 0), .ro true 1 (s.names.map eStr), .r (.bool s.count), .ro true 5 (s.wh.map eO), .r (.string s.ord), .r (.bool s.down), .r (.int .i64 s.lim), .r (.string b0), .r (.slice none 0 0)]]) (by simp [wkL, wk])
        (repeat' (first | refine awp_seq ?_ | refine awp_block ?_ | refine awp_skip ?_ | refine awp_exit ?_ | ((first | refine awp_r (by kernel_rfl) (fun K kp hK hkp => ?_) | refine awp_dx (id := 16) mixed [1] 24 [0, 1, 2, 3, 4, 5, 6, 7, 8, 9, 10, 11, 12, 13, 14, 15, 16, 17, 18, 19, 20, 21, 22, 23] (by kernel_rfl) (by kernel_rfl) (by simp only [go_sem]; rfl) (by simp only [go_sem]; rfl) (by simp only [go_sem]; rfl) (by rfl) (fun K kp hK hkp => ?_) | refine awp_dx (id := 19) mixed [1] 12 [0, 1, 2, 3, 4, 5, 6, 7, 8, 9, 10, 11] (by kernel_rfl) (by kernel_rfl) (by simp only [go_sem]; rfl) (by simp only [go_sem]; rfl) (by simp only [go_sem]; rfl) (by rfl) (fun K kp hK hkp => ?_) | ((first | apply callR_i (tc) | apply callD_i (tc) | apply callX_i (tc)); (case hb => (simp (implicitDefEqProofs := false) (maxSteps := 2000000) (disch := omega) only [go_sem, eST, hk]; first | done | rfl)); (case hp => (first | (simp [-List.map_drop, -List.map_take, eST, hk]; done) | exact .ro _ _ (pt_map _ _))); (case hq => (first | (simp [-List.map_drop, -List.map_take]; done) | (intro _ h; simp only [List.mem_singleton] at h; subst h; exact pt_map _ _)))) | ((first | apply callR_i (p0) | apply callD_i (p0) | apply callX_i (p0)); (case hb => (simp (implicitDefEqProofs := false) (maxSteps := 2000000) (disch := omega) only [go_sem, eST, hk]; first | done | rfl)); (case hp => (first | (simp [-List.map_drop, -List.map_take, eST, hk]; done) | exact .ro _ _ (pt_map _ _))); (case hq => (first | (simp [-List.map_drop, -List.map_take]; done) | (intro _ h; simp only [List.mem_singleton] at h; subst h; exact pt_map _ _)))) | ((first | apply callR_i (bc) | apply callD_i (bc) | apply callX_i (bc)); (case hb => (simp (implicitDefEqProofs := false) (maxSteps := 2000000) (disch := omega) only [go_sem, eST, hk]; first | done | rfl)); (case hp => (first | (simp [-List.map_drop, -List.map_take, eST, hk]; done) | exact .ro _ _ (pt_map _ _))); (case hq => (first | (simp [-List.map_drop, -List.map_take]; done) | (intro _ h; simp only [List.mem_singleton] at h; subst h; exact pt_map _ _))))); simp (implicitDefEqProofs := false) (maxSteps := 2000000) (disch := omega) only [go_sem, eST, hk]; (repeat' (first | (refine hK _ ?_; clear hK hkp kp K) | (with_reducible refine And.intro ?_ ?_) | omega))) | ((first | refine goG_ask (fun h => ?_) (fun h => ?_) | refine goGD_ask (fun h => ?_) (fun h => ?_) | refine goGX_ask (fun h => ?_) (fun h => ?_)) <;> (simp (implicitDefEqProofs := false) (maxSteps := 2000000) (disch := omega) only [go_sem, eST, hk, h]; (repeat' (first | (refine hK _ ?_; clear hK hkp kp K) | (with_reducible refine And.intro ?_ ?_) | omega)))) | refine awp_cond_t rfl ?_ | refine awp_cond_f rfl ?_ | ((refine awp_cond rfl (fun h => ?_) (fun h => ?_) <;> try simp only [decide_eq_true_eq, decide_eq_false_iff_not, Int.not_lt, Int.not_le, Bool.not_eq_true, Bool.not_eq_false, bne_iff_ne, ne_eq, beq_iff_eq, bne_eq_false_iff_eq, beq_eq_false_iff_ne] at h) <;> (try (exfalso; omega))) | refine awp_ret ?_))
        (refine retA_is (by (simp (implicitDefEqProofs := false) (maxSteps := 2000000) (disch := omega) only [go_sem, Go.Proofs.Tryd.results34, checkM_ok hh hp hb]); rfl) ?_; refine (embV_nil hE (by simp) ?_).s; simp [oneA, ren, renL, checkM_ok hh hp hb])
    · have y0 : (pickM s == 0) = false := by simpa using z0
      have hp : partsM s = pickM s := by simp [partsM, hk, z0]
      (repeat' (first | refine awp_seq ?_ | refine awp_block ?_ | refine awp_skip ?_ | refine awp_exit ?_ | ((first | refine awp_r (by kernel_rfl) (fun K kp hK hkp => ?_) | refine awp_dx (id := 16) mixed [1] 24 [0, 1, 2, 3, 4, 5, 6, 7, 8, 9, 10, 11, 12, 13, 14, 15, 16, 17, 18, 19, 20, 21, 22, 23] (by kernel_rfl) (by kernel_rfl) (by simp only [go_sem]; rfl) (by simp only [go_sem]; rfl) (by simp only [go_sem]; rfl) (by rfl) (fun K kp hK hkp => ?_) | refine awp_dx (id := 19) mixed [1] 12 [0, 1, 2, 3, 4, 5, 6, 7, 8, 9, 10, 11] (by kernel_rfl) (by kernel_rfl) (by simp only [go_sem]; rfl) (by simp only [go_sem]; rfl) (by simp only [go_sem]; rfl) (by rfl) (fun K kp hK hkp => ?_) | ((first | apply callR_i (tc) | apply callD_i (tc) | apply callX_i (tc)); (case hb => (simp (implicitDefEqProofs := false) (maxSteps := 2000000) (disch := omega) only [go_sem, eST, hk, y0]; first | done | rfl)); (case hp => (first | (simp [-List.map_drop, -List.map_take, eST, hk, y0]; done) | exact .ro _ _ (pt_map _ _))); (case hq => (first | (simp [-List.map_drop, -List.map_take]; done) | (intro _ h; simp only [List.mem_singleton] at h; subst h; exact pt_map _ _)))) | ((first | apply callR_i (p0) | apply callD_i (p0) | apply callX_i (p0)); (case hb => (simp (implicitDefEqProofs := false) (maxSteps := 2000000) (disch := omega) only [go_sem, eST, hk, y0]; first | done | rfl)); (case hp => (first | (simp [-List.map_drop, -List.map_take, eST, hk, y0]; done) | exact .ro _ _ (pt_map _ _))); (case hq => (first | (simp [-List.map_drop, -List.map_take]; done) | (intro _ h; simp only [List.mem_singleton] at h; subst h; exact pt_map _ _))))); simp (implicitDefEqProofs := false) (maxSteps := 2000000) (disch := omega) only [go_sem, eST, hk, y0]; (repeat' (first | (refine hK _ ?_; clear hK hkp kp K) | (with_reducible refine And.intro ?_ ?_) | omega))) | ((first | refine goG_ask (fun h => ?_) (fun h => ?_) | refine goGD_ask (fun h => ?_) (fun h => ?_) | refine goGX_ask (fun h => ?_) (fun h => ?_)) <;> (simp (implicitDefEqProofs := false) (maxSteps := 2000000) (disch := omega) only [go_sem, eST, hk, y0, h]; (repeat' (first | (refine hK _ ?_; clear hK hkp kp K) | (with_reducible refine And.intro ?_ ?_) | omega)))) | refine awp_cond_t rfl ?_ | refine awp_cond_f rfl ?_ | ((refine awp_cond rfl (fun h => ?_) (fun h => ?_) <;> try simp only [decide_eq_true_eq, decide_eq_false_iff_not, Int.not_lt, Int.not_le, Bool.not_eq_true, Bool.not_eq_false, bne_iff_ne, ne_eq, beq_iff_eq, bne_eq_false_iff_eq, beq_eq_false_iff_ne] at h) <;> (try (exfalso; omega))) | refine awp_ret ?_))
      (refine retA_is (by (simp (implicitDefEqProofs := false) (maxSteps := 2000000) (disch := omega) only [go_sem, Go.Proofs.Tryd.results34, checkM_parts hh (hp ▸ z0), hp]); rfl) ?_; refine (embV_nil hE (by simp) ?_).s; simp [oneA, ren, renL, checkM_parts hh (hp ▸ z0), hp])
  · have bn : (nameM s.tab != 0) = true := by simpa using hn
    (repeat' (first | refine awp_seq ?_ | refine awp_block ?_ | refine awp_skip ?_ | refine awp_exit ?_ | ((first | refine awp_r (by kernel_rfl) (fun K kp hK hkp => ?_) | refine awp_dx (id := 16) mixed [] 24 [0, 1, 2, 3, 4, 5, 6, 7, 8, 9, 10, 11, 12, 13, 14, 15, 16, 17, 18, 19, 20, 21, 22, 23] (by kernel_rfl) (by kernel_rfl) (by simp only [go_sem]; rfl) (by simp only [go_sem]; rfl) (by simp only [go_sem]; rfl) (by rfl) (fun K kp hK hkp => ?_) | refine awp_dx (id := 19) mixed [] 12 [0, 1, 2, 3, 4, 5, 6, 7, 8, 9, 10, 11] (by kernel_rfl) (by kernel_rfl) (by simp only [go_sem]; rfl) (by simp only [go_sem]; rfl) (by simp only [go_sem]; rfl) (by rfl) (fun K kp hK hkp => ?_) | ((first | apply callR_i (tc) | apply callD_i (tc) | apply callX_i (tc)); (case hb => (simp (implicitDefEqProofs := false) (maxSteps := 2000000) (disch := omega) only [go_sem, eST, hk, bn]; first | done | rfl)); (case hp => (first | (simp [-List.map_drop, -List.map_take, eST, hk, bn]; done) | exact .ro _ _ (pt_map _ _))); (case hq => (first | (simp [-List.map_drop, -List.map_take]; done) | (intro _ h; simp only [List.mem_singleton] at h; subst h; exact pt_map _ _))))); simp (implicitDefEqProofs := false) (maxSteps := 2000000) (disch := omega) only [go_sem, eST, hk, bn]; (repeat' (first | (refine hK _ ?_; clear hK hkp kp K) | (with_reducible refine And.intro ?_ ?_) | omega))) | ((first | refine goG_ask (fun h => ?_) (fun h => ?_) | refine goGD_ask (fun h => ?_) (fun h => ?_) | refine goGX_ask (fun h => ?_) (fun h => ?_)) <;> (simp (implicitDefEqProofs := false) (maxSteps := 2000000) (disch := omega) only [go_sem, eST, hk, bn, h]; (repeat' (first | (refine hK _ ?_; clear hK hkp kp K) | (with_reducible refine And.intro ?_ ?_) | omega)))) | refine awp_cond_t rfl ?_ | refine awp_cond_f rfl ?_ | ((refine awp_cond rfl (fun h => ?_) (fun h => ?_) <;> try simp only [decide_eq_true_eq, decide_eq_false_iff_not, Int.not_lt, Int.not_le, Bool.not_eq_true, Bool.not_eq_false, bne_iff_ne, ne_eq, beq_iff_eq, bne_eq_false_iff_eq, beq_eq_false_iff_ne] at h) <;> (try (exfalso; omega))) | refine awp_ret ?_))
    (refine retA_is (by (simp (implicitDefEqProofs := false) (maxSteps := 2000000) (disch := omega) only [go_sem, Go.Proofs.Tryd.results34, checkM_name (show s.k < 7 by omega) hn]); rfl) ?_; refine (embV_nil hE (by simp) ?_).s; simp [oneA, ren, renL, checkM_name (show s.k < 7 by omega) hn])
set_option maxRecDepth 100000 in
set_option maxHeartbeats 8000000 in
theorem check5_con {G : List (Nat × List Value)} (T : Tabs G) (s : ST) (o : okST s) (hk : s.k = 5) : Con Go.Proofs.Tryd.prog G 34 [.agg (eST s)] [] 0 (Is (.r (.int .i64 (checkM s))) [] 0) No := by
  refine con_of_awp Go.Proofs.Tryd.func34 rfl (by kernel_rfl) (of_decide_eq_true (by kernel_rfl)) ?_; intro E hG hE; subst hG; simp only [ent]
  have tc := name_con T s.tab o.tab
  by_cases hn : nameM s.tab = 0
  · rw [hn] at tc
    have hh : ¬ (s.k < 7 ∧ nameM s.tab ≠ 0) := fun h => h.2 hn
    have p0 := name_con T s.set o.set
    by_cases z0 : nameM s.set = 0
    · rw [z0] at p0
      have p1 := expression_con T true s.to o.lt o.to
      by_cases z1 : exprM s.to = 0
      · rw [z1] at p1
        have p2 := where_con T true s.wh o.lw o.wh
        by_cases z2 : whereM s.wh = 0
        · rw [z2] at p2
          have hp : partsM s = 0 := by simp [partsM, hk, z0, z1, z2]
          have hS : hasM s = ⟨5, s.tab, [], [], [], false, s.wh, b0, false, -1, s.set, s.to⟩ := by simp [hasM, hk]
          have bc := bare_con E.G s (hasM s)
          cases hb : bareB s (hasM s)
          · rw [hb, hS] at bc
            simp only [eST, hk, List.map_nil] at bc
            have bc := bc.weak (xs := [.agg [.r (.int .i64 5), .r (.string s.tab), .ro true 2 (s.cols.map eC), .ro true 3 (s.row.map eV), .ro true 1 (s.names.map eStr), .r (.bool s.count), .ro true 5 (s.wh.map eO), .r (.string s.ord), .r (.bool s.down), .r (.int .i64 s.lim), .r (.string s.set), .ro true 5 (s.to.map eO)], .agg [.r (.int .i64 5), .r (.string s.tab), .r (.slice none 0 0), .r (.slice none 0 0), .r (.slice none 0 0), .r (.bool false), .ro true 5 (s.wh.map eO), .r (.string b0), .r (.bool false), .r (.int .i64 (-1)), .r (.string s.set), .ro true 5 (s.to.map eO)]]) (by simp [wkL, wk])
            (repeat' (first | refine awp_seq ?_ | refine awp_block ?_ | refine awp_skip ?_ | refine awp_exit ?_ | ((first | refine awp_r (by kernel_rfl) (fun K kp hK hkp => ?_) | refine awp_dx (id := 16) mixed [1] 24 [0, 1, 2, 3, 4, 5, 6, 7, 8, 9, 10, 11, 12, 13, 14, 15, 16, 17, 18, 19, 20, 21, 22, 23] (by kernel_rfl) (by kernel_rfl) (by simp only [go_sem]; rfl) (by simp only [go_sem]; rfl) (by simp only [go_sem]; rfl) (by rfl) (fun K kp hK hkp => ?_) | refine awp_dx (id := 19) mixed [1] 12 [0, 1, 2, 3, 4, 5, 6, 7, 8, 9, 10, 11] (by kernel_rfl) (by kernel_rfl) (by simp only [go_sem]; rfl) (by simp only [go_sem]; rfl) (by simp only [go_sem]; rfl) (by rfl) (fun K kp hK hkp => ?_) | ((first | apply callR_i (tc) | apply callD_i (tc) | apply callX_i (tc)); (case hb => (simp (implicitDefEqProofs := false) (maxSteps := 2000000) (disch := omega) only [go_sem, eST, hk]; first | done | rfl)); (case hp => (first | (simp [-List.map_drop, -List.map_take, eST, hk]; done) | exact .ro _ _ (pt_map _ _))); (case hq => (first | (simp [-List.map_drop, -List.map_take]; done) | (intro _ h; simp only [List.mem_singleton] at h; subst h; exact pt_map _ _)))) | ((first | apply callR_i (p0) | apply callD_i (p0) | apply callX_i (p0)); (case hb => (simp (implicitDefEqProofs := false) (maxSteps := 2000000) (disch := omega) only [go_sem, eST, hk]; first | done | rfl)); (case hp => (first | (simp [-List.map_drop, -List.map_take, eST, hk]; done) | exact .ro _ _ (pt_map _ _))); (case hq => (first | (simp [-List.map_drop, -List.map_take]; done) | (intro _ h; simp only [List.mem_singleton] at h; subst h; exact pt_map _ _)))) | ((first | apply callR_i (p1) | apply callD_i (p1) | apply callX_i (p1)); (case hb => (simp (implicitDefEqProofs := false) (maxSteps := 2000000) (disch := omega) only [go_sem, eST, hk]; first | done | rfl)); (case hp => (first | (simp [-List.map_drop, -List.map_take, eST, hk]; done) | exact .ro _ _ (pt_map _ _))); (case hq => (first | (simp [-List.map_drop, -List.map_take]; done) | (intro _ h; simp only [List.mem_singleton] at h; subst h; exact pt_map _ _)))) | ((first | apply callR_i (p2) | apply callD_i (p2) | apply callX_i (p2)); (case hb => (simp (implicitDefEqProofs := false) (maxSteps := 2000000) (disch := omega) only [go_sem, eST, hk]; first | done | rfl)); (case hp => (first | (simp [-List.map_drop, -List.map_take, eST, hk]; done) | exact .ro _ _ (pt_map _ _))); (case hq => (first | (simp [-List.map_drop, -List.map_take]; done) | (intro _ h; simp only [List.mem_singleton] at h; subst h; exact pt_map _ _)))) | ((first | apply callR_i (bc) | apply callD_i (bc) | apply callX_i (bc)); (case hb => (simp (implicitDefEqProofs := false) (maxSteps := 2000000) (disch := omega) only [go_sem, eST, hk]; first | done | rfl)); (case hp => (first | (simp [-List.map_drop, -List.map_take, eST, hk]; done) | exact .ro _ _ (pt_map _ _))); (case hq => (first | (simp [-List.map_drop, -List.map_take]; done) | (intro _ h; simp only [List.mem_singleton] at h; subst h; exact pt_map _ _))))); simp (implicitDefEqProofs := false) (maxSteps := 2000000) (disch := omega) only [go_sem, eST, hk]; (repeat' (first | (refine hK _ ?_; clear hK hkp kp K) | (with_reducible refine And.intro ?_ ?_) | omega))) | ((first | refine goG_ask (fun h => ?_) (fun h => ?_) | refine goGD_ask (fun h => ?_) (fun h => ?_) | refine goGX_ask (fun h => ?_) (fun h => ?_)) <;> (simp (implicitDefEqProofs := false) (maxSteps := 2000000) (disch := omega) only [go_sem, eST, hk, h]; (repeat' (first | (refine hK _ ?_; clear hK hkp kp K) | (with_reducible refine And.intro ?_ ?_) | omega)))) | refine awp_cond_t rfl ?_ | refine awp_cond_f rfl ?_ | ((refine awp_cond rfl (fun h => ?_) (fun h => ?_) <;> try simp only [decide_eq_true_eq, decide_eq_false_iff_not, Int.not_lt, Int.not_le, Bool.not_eq_true, Bool.not_eq_false, bne_iff_ne, ne_eq, beq_iff_eq, bne_eq_false_iff_eq, beq_eq_false_iff_ne] at h) <;> (try (exfalso; omega))) | refine awp_ret ?_))
            (refine retA_is (by (simp (implicitDefEqProofs := false) (maxSteps := 2000000) (disch := omega) only [go_sem, Go.Proofs.Tryd.results34, checkM_form hh hp hb]); rfl) ?_; refine (embV_nil hE (by simp) ?_).s; simp [oneA, ren, renL, checkM_form hh hp hb])
          · rw [hb, hS] at bc
            simp only [eST, hk, List.map_nil] at bc
            have bc := bc.weak (xs := [.agg [.r (.int .i64 5), .r (.string s.tab), .ro true 2 (s.cols.map eC), .ro true 3 (s.row.map eV), .ro true 1 (s.names.map eStr), .r (.bool s.count), .ro true 5 (s.wh.map eO), .r (.string s.ord), .r (.bool s.down), .r (.int .i64 s.lim), .r (.string s.set), .ro true 5 (s.to.map eO)], .agg [.r (.int .i64 5), .r (.string s.tab), .r (.slice none 0 0), .r (.slice none 0 0), .r (.slice none 0 0), .r (.bool false), .ro true 5 (s.wh.map eO), .r (.string b0), .r (.bool false), .r (.int .i64 (-1)), .r (.string s.set), .ro true 5 (s.to.map eO)]]) (by simp [wkL, wk])
            (repeat' (first | refine awp_seq ?_ | refine awp_block ?_ | refine awp_skip ?_ | refine awp_exit ?_ | ((first | refine awp_r (by kernel_rfl) (fun K kp hK hkp => ?_) | refine awp_dx (id := 16) mixed [1] 24 [0, 1, 2, 3, 4, 5, 6, 7, 8, 9, 10, 11, 12, 13, 14, 15, 16, 17, 18, 19, 20, 21, 22, 23] (by kernel_rfl) (by kernel_rfl) (by simp only [go_sem]; rfl) (by simp only [go_sem]; rfl) (by simp only [go_sem]; rfl) (by rfl) (fun K kp hK hkp => ?_) | refine awp_dx (id := 19) mixed [1] 12 [0, 1, 2, 3, 4, 5, 6, 7, 8, 9, 10, 11] (by kernel_rfl) (by kernel_rfl) (by simp only [go_sem]; rfl) (by simp only [go_sem]; rfl) (by simp only [go_sem]; rfl) (by rfl) (fun K kp hK hkp => ?_) | ((first | apply callR_i (tc) | apply callD_i (tc) | apply callX_i (tc)); (case hb => (simp (implicitDefEqProofs := false) (maxSteps := 2000000) (disch := omega) only [go_sem, eST, hk]; first | done | rfl)); (case hp => (first | (simp [-List.map_drop, -List.map_take, eST, hk]; done) | exact .ro _ _ (pt_map _ _))); (case hq => (first | (simp [-List.map_drop, -List.map_take]; done) | (intro _ h; simp only [List.mem_singleton] at h; subst h; exact pt_map _ _)))) | ((first | apply callR_i (p0) | apply callD_i (p0) | apply callX_i (p0)); (case hb => (simp (implicitDefEqProofs := false) (maxSteps := 2000000) (disch := omega) only [go_sem, eST, hk]; first | done | rfl)); (case hp => (first | (simp [-List.map_drop, -List.map_take, eST, hk]; done) | exact .ro _ _ (pt_map _ _))); (case hq => (first | (simp [-List.map_drop, -List.map_take]; done) | (intro _ h; simp only [List.mem_singleton] at h; subst h; exact pt_map _ _)))) | ((first | apply callR_i (p1) | apply callD_i (p1) | apply callX_i (p1)); (case hb => (simp (implicitDefEqProofs := false) (maxSteps := 2000000) (disch := omega) only [go_sem, eST, hk]; first | done | rfl)); (case hp => (first | (simp [-List.map_drop, -List.map_take, eST, hk]; done) | exact .ro _ _ (pt_map _ _))); (case hq => (first | (simp [-List.map_drop, -List.map_take]; done) | (intro _ h; simp only [List.mem_singleton] at h; subst h; exact pt_map _ _)))) | ((first | apply callR_i (p2) | apply callD_i (p2) | apply callX_i (p2)); (case hb => (simp (implicitDefEqProofs := false) (maxSteps := 2000000) (disch := omega) only [go_sem, eST, hk]; first | done | rfl)); (case hp => (first | (simp [-List.map_drop, -List.map_take, eST, hk]; done) | exact .ro _ _ (pt_map _ _))); (case hq => (first | (simp [-List.map_drop, -List.map_take]; done) | (intro _ h; simp only [List.mem_singleton] at h; subst h; exact pt_map _ _)))) | ((first | apply callR_i (bc) | apply callD_i (bc) | apply callX_i (bc)); (case hb => (simp (implicitDefEqProofs := false) (maxSteps := 2000000) (disch := omega) only [go_sem, eST, hk]; first | done | rfl)); (case hp => (first | (simp [-List.map_drop, -List.map_take, eST, hk]; done) | exact .ro _ _ (pt_map _ _))); (case hq => (first | (simp [-List.map_drop, -List.map_take]; done) | (intro _ h; simp only [List.mem_singleton] at h; subst h; exact pt_map _ _))))); simp (implicitDefEqProofs := false) (maxSteps := 2000000) (disch := omega) only [go_sem, eST, hk]; (repeat' (first | (refine hK _ ?_; clear hK hkp kp K) | (with_reducible refine And.intro ?_ ?_) | omega))) | ((first | refine goG_ask (fun h => ?_) (fun h => ?_) | refine goGD_ask (fun h => ?_) (fun h => ?_) | refine goGX_ask (fun h => ?_) (fun h => ?_)) <;> (simp (implicitDefEqProofs := false) (maxSteps := 2000000) (disch := omega) only [go_sem, eST, hk, h]; (repeat' (first | (refine hK _ ?_; clear hK hkp kp K) | (with_reducible refine And.intro ?_ ?_) | omega)))) | refine awp_cond_t rfl ?_ | refine awp_cond_f rfl ?_ | ((refine awp_cond rfl (fun h => ?_) (fun h => ?_) <;> try simp only [decide_eq_true_eq, decide_eq_false_iff_not, Int.not_lt, Int.not_le, Bool.not_eq_true, Bool.not_eq_false, bne_iff_ne, ne_eq, beq_iff_eq, bne_eq_false_iff_eq, beq_eq_false_iff_ne] at h) <;> (try (exfalso; omega))) | refine awp_ret ?_))
            (refine retA_is (by (simp (implicitDefEqProofs := false) (maxSteps := 2000000) (disch := omega) only [go_sem, Go.Proofs.Tryd.results34, checkM_ok hh hp hb]); rfl) ?_; refine (embV_nil hE (by simp) ?_).s; simp [oneA, ren, renL, checkM_ok hh hp hb])
        · have y2 : (whereM s.wh == 0) = false := by simpa using z2
          have hp : partsM s = whereM s.wh := by simp [partsM, hk, z0, z1, z2]
          (repeat' (first | refine awp_seq ?_ | refine awp_block ?_ | refine awp_skip ?_ | refine awp_exit ?_ | ((first | refine awp_r (by kernel_rfl) (fun K kp hK hkp => ?_) | refine awp_dx (id := 16) mixed [1] 24 [0, 1, 2, 3, 4, 5, 6, 7, 8, 9, 10, 11, 12, 13, 14, 15, 16, 17, 18, 19, 20, 21, 22, 23] (by kernel_rfl) (by kernel_rfl) (by simp only [go_sem]; rfl) (by simp only [go_sem]; rfl) (by simp only [go_sem]; rfl) (by rfl) (fun K kp hK hkp => ?_) | refine awp_dx (id := 19) mixed [1] 12 [0, 1, 2, 3, 4, 5, 6, 7, 8, 9, 10, 11] (by kernel_rfl) (by kernel_rfl) (by simp only [go_sem]; rfl) (by simp only [go_sem]; rfl) (by simp only [go_sem]; rfl) (by rfl) (fun K kp hK hkp => ?_) | ((first | apply callR_i (tc) | apply callD_i (tc) | apply callX_i (tc)); (case hb => (simp (implicitDefEqProofs := false) (maxSteps := 2000000) (disch := omega) only [go_sem, eST, hk, y2]; first | done | rfl)); (case hp => (first | (simp [-List.map_drop, -List.map_take, eST, hk, y2]; done) | exact .ro _ _ (pt_map _ _))); (case hq => (first | (simp [-List.map_drop, -List.map_take]; done) | (intro _ h; simp only [List.mem_singleton] at h; subst h; exact pt_map _ _)))) | ((first | apply callR_i (p0) | apply callD_i (p0) | apply callX_i (p0)); (case hb => (simp (implicitDefEqProofs := false) (maxSteps := 2000000) (disch := omega) only [go_sem, eST, hk, y2]; first | done | rfl)); (case hp => (first | (simp [-List.map_drop, -List.map_take, eST, hk, y2]; done) | exact .ro _ _ (pt_map _ _))); (case hq => (first | (simp [-List.map_drop, -List.map_take]; done) | (intro _ h; simp only [List.mem_singleton] at h; subst h; exact pt_map _ _)))) | ((first | apply callR_i (p1) | apply callD_i (p1) | apply callX_i (p1)); (case hb => (simp (implicitDefEqProofs := false) (maxSteps := 2000000) (disch := omega) only [go_sem, eST, hk, y2]; first | done | rfl)); (case hp => (first | (simp [-List.map_drop, -List.map_take, eST, hk, y2]; done) | exact .ro _ _ (pt_map _ _))); (case hq => (first | (simp [-List.map_drop, -List.map_take]; done) | (intro _ h; simp only [List.mem_singleton] at h; subst h; exact pt_map _ _)))) | ((first | apply callR_i (p2) | apply callD_i (p2) | apply callX_i (p2)); (case hb => (simp (implicitDefEqProofs := false) (maxSteps := 2000000) (disch := omega) only [go_sem, eST, hk, y2]; first | done | rfl)); (case hp => (first | (simp [-List.map_drop, -List.map_take, eST, hk, y2]; done) | exact .ro _ _ (pt_map _ _))); (case hq => (first | (simp [-List.map_drop, -List.map_take]; done) | (intro _ h; simp only [List.mem_singleton] at h; subst h; exact pt_map _ _))))); simp (implicitDefEqProofs := false) (maxSteps := 2000000) (disch := omega) only [go_sem, eST, hk, y2]; (repeat' (first | (refine hK _ ?_; clear hK hkp kp K) | (with_reducible refine And.intro ?_ ?_) | omega))) | ((first | refine goG_ask (fun h => ?_) (fun h => ?_) | refine goGD_ask (fun h => ?_) (fun h => ?_) | refine goGX_ask (fun h => ?_) (fun h => ?_)) <;> (simp (implicitDefEqProofs := false) (maxSteps := 2000000) (disch := omega) only [go_sem, eST, hk, y2, h]; (repeat' (first | (refine hK _ ?_; clear hK hkp kp K) | (with_reducible refine And.intro ?_ ?_) | omega)))) | refine awp_cond_t rfl ?_ | refine awp_cond_f rfl ?_ | ((refine awp_cond rfl (fun h => ?_) (fun h => ?_) <;> try simp only [decide_eq_true_eq, decide_eq_false_iff_not, Int.not_lt, Int.not_le, Bool.not_eq_true, Bool.not_eq_false, bne_iff_ne, ne_eq, beq_iff_eq, bne_eq_false_iff_eq, beq_eq_false_iff_ne] at h) <;> (try (exfalso; omega))) | refine awp_ret ?_))
          (refine retA_is (by (simp (implicitDefEqProofs := false) (maxSteps := 2000000) (disch := omega) only [go_sem, Go.Proofs.Tryd.results34, checkM_parts hh (hp ▸ z2), hp]); rfl) ?_; refine (embV_nil hE (by simp) ?_).s; simp [oneA, ren, renL, checkM_parts hh (hp ▸ z2), hp])
      · have y1 : (exprM s.to == 0) = false := by simpa using z1
        have hp : partsM s = exprM s.to := by simp [partsM, hk, z0, z1]
        (repeat' (first | refine awp_seq ?_ | refine awp_block ?_ | refine awp_skip ?_ | refine awp_exit ?_ | ((first | refine awp_r (by kernel_rfl) (fun K kp hK hkp => ?_) | refine awp_dx (id := 16) mixed [1] 24 [0, 1, 2, 3, 4, 5, 6, 7, 8, 9, 10, 11, 12, 13, 14, 15, 16, 17, 18, 19, 20, 21, 22, 23] (by kernel_rfl) (by kernel_rfl) (by simp only [go_sem]; rfl) (by simp only [go_sem]; rfl) (by simp only [go_sem]; rfl) (by rfl) (fun K kp hK hkp => ?_) | refine awp_dx (id := 19) mixed [1] 12 [0, 1, 2, 3, 4, 5, 6, 7, 8, 9, 10, 11] (by kernel_rfl) (by kernel_rfl) (by simp only [go_sem]; rfl) (by simp only [go_sem]; rfl) (by simp only [go_sem]; rfl) (by rfl) (fun K kp hK hkp => ?_) | ((first | apply callR_i (tc) | apply callD_i (tc) | apply callX_i (tc)); (case hb => (simp (implicitDefEqProofs := false) (maxSteps := 2000000) (disch := omega) only [go_sem, eST, hk, y1]; first | done | rfl)); (case hp => (first | (simp [-List.map_drop, -List.map_take, eST, hk, y1]; done) | exact .ro _ _ (pt_map _ _))); (case hq => (first | (simp [-List.map_drop, -List.map_take]; done) | (intro _ h; simp only [List.mem_singleton] at h; subst h; exact pt_map _ _)))) | ((first | apply callR_i (p0) | apply callD_i (p0) | apply callX_i (p0)); (case hb => (simp (implicitDefEqProofs := false) (maxSteps := 2000000) (disch := omega) only [go_sem, eST, hk, y1]; first | done | rfl)); (case hp => (first | (simp [-List.map_drop, -List.map_take, eST, hk, y1]; done) | exact .ro _ _ (pt_map _ _))); (case hq => (first | (simp [-List.map_drop, -List.map_take]; done) | (intro _ h; simp only [List.mem_singleton] at h; subst h; exact pt_map _ _)))) | ((first | apply callR_i (p1) | apply callD_i (p1) | apply callX_i (p1)); (case hb => (simp (implicitDefEqProofs := false) (maxSteps := 2000000) (disch := omega) only [go_sem, eST, hk, y1]; first | done | rfl)); (case hp => (first | (simp [-List.map_drop, -List.map_take, eST, hk, y1]; done) | exact .ro _ _ (pt_map _ _))); (case hq => (first | (simp [-List.map_drop, -List.map_take]; done) | (intro _ h; simp only [List.mem_singleton] at h; subst h; exact pt_map _ _))))); simp (implicitDefEqProofs := false) (maxSteps := 2000000) (disch := omega) only [go_sem, eST, hk, y1]; (repeat' (first | (refine hK _ ?_; clear hK hkp kp K) | (with_reducible refine And.intro ?_ ?_) | omega))) | ((first | refine goG_ask (fun h => ?_) (fun h => ?_) | refine goGD_ask (fun h => ?_) (fun h => ?_) | refine goGX_ask (fun h => ?_) (fun h => ?_)) <;> (simp (implicitDefEqProofs := false) (maxSteps := 2000000) (disch := omega) only [go_sem, eST, hk, y1, h]; (repeat' (first | (refine hK _ ?_; clear hK hkp kp K) | (with_reducible refine And.intro ?_ ?_) | omega)))) | refine awp_cond_t rfl ?_ | refine awp_cond_f rfl ?_ | ((refine awp_cond rfl (fun h => ?_) (fun h => ?_) <;> try simp only [decide_eq_true_eq, decide_eq_false_iff_not, Int.not_lt, Int.not_le, Bool.not_eq_true, Bool.not_eq_false, bne_iff_ne, ne_eq, beq_iff_eq, bne_eq_false_iff_eq, beq_eq_false_iff_ne] at h) <;> (try (exfalso; omega))) | refine awp_ret ?_))
        (refine retA_is (by (simp (implicitDefEqProofs := false) (maxSteps := 2000000) (disch := omega) only [go_sem, Go.Proofs.Tryd.results34, checkM_parts hh (hp ▸ z1), hp]); rfl) ?_; refine (embV_nil hE (by simp) ?_).s; simp [oneA, ren, renL, checkM_parts hh (hp ▸ z1), hp])
    · have y0 : (nameM s.set == 0) = false := by simpa using z0
      have hp : partsM s = nameM s.set := by simp [partsM, hk, z0]
      (repeat' (first | refine awp_seq ?_ | refine awp_block ?_ | refine awp_skip ?_ | refine awp_exit ?_ | ((first | refine awp_r (by kernel_rfl) (fun K kp hK hkp => ?_) | refine awp_dx (id := 16) mixed [1] 24 [0, 1, 2, 3, 4, 5, 6, 7, 8, 9, 10, 11, 12, 13, 14, 15, 16, 17, 18, 19, 20, 21, 22, 23] (by kernel_rfl) (by kernel_rfl) (by simp only [go_sem]; rfl) (by simp only [go_sem]; rfl) (by simp only [go_sem]; rfl) (by rfl) (fun K kp hK hkp => ?_) | refine awp_dx (id := 19) mixed [1] 12 [0, 1, 2, 3, 4, 5, 6, 7, 8, 9, 10, 11] (by kernel_rfl) (by kernel_rfl) (by simp only [go_sem]; rfl) (by simp only [go_sem]; rfl) (by simp only [go_sem]; rfl) (by rfl) (fun K kp hK hkp => ?_) | ((first | apply callR_i (tc) | apply callD_i (tc) | apply callX_i (tc)); (case hb => (simp (implicitDefEqProofs := false) (maxSteps := 2000000) (disch := omega) only [go_sem, eST, hk, y0]; first | done | rfl)); (case hp => (first | (simp [-List.map_drop, -List.map_take, eST, hk, y0]; done) | exact .ro _ _ (pt_map _ _))); (case hq => (first | (simp [-List.map_drop, -List.map_take]; done) | (intro _ h; simp only [List.mem_singleton] at h; subst h; exact pt_map _ _)))) | ((first | apply callR_i (p0) | apply callD_i (p0) | apply callX_i (p0)); (case hb => (simp (implicitDefEqProofs := false) (maxSteps := 2000000) (disch := omega) only [go_sem, eST, hk, y0]; first | done | rfl)); (case hp => (first | (simp [-List.map_drop, -List.map_take, eST, hk, y0]; done) | exact .ro _ _ (pt_map _ _))); (case hq => (first | (simp [-List.map_drop, -List.map_take]; done) | (intro _ h; simp only [List.mem_singleton] at h; subst h; exact pt_map _ _))))); simp (implicitDefEqProofs := false) (maxSteps := 2000000) (disch := omega) only [go_sem, eST, hk, y0]; (repeat' (first | (refine hK _ ?_; clear hK hkp kp K) | (with_reducible refine And.intro ?_ ?_) | omega))) | ((first | refine goG_ask (fun h => ?_) (fun h => ?_) | refine goGD_ask (fun h => ?_) (fun h => ?_) | refine goGX_ask (fun h => ?_) (fun h => ?_)) <;> (simp (implicitDefEqProofs := false) (maxSteps := 2000000) (disch := omega) only [go_sem, eST, hk, y0, h]; (repeat' (first | (refine hK _ ?_; clear hK hkp kp K) | (with_reducible refine And.intro ?_ ?_) | omega)))) | refine awp_cond_t rfl ?_ | refine awp_cond_f rfl ?_ | ((refine awp_cond rfl (fun h => ?_) (fun h => ?_) <;> try simp only [decide_eq_true_eq, decide_eq_false_iff_not, Int.not_lt, Int.not_le, Bool.not_eq_true, Bool.not_eq_false, bne_iff_ne, ne_eq, beq_iff_eq, bne_eq_false_iff_eq, beq_eq_false_iff_ne] at h) <;> (try (exfalso; omega))) | refine awp_ret ?_))
      (refine retA_is (by (simp (implicitDefEqProofs := false) (maxSteps := 2000000) (disch := omega) only [go_sem, Go.Proofs.Tryd.results34, checkM_parts hh (hp ▸ z0), hp]); rfl) ?_; refine (embV_nil hE (by simp) ?_).s; simp [oneA, ren, renL, checkM_parts hh (hp ▸ z0), hp])
  · have bn : (nameM s.tab != 0) = true := by simpa using hn
    (repeat' (first | refine awp_seq ?_ | refine awp_block ?_ | refine awp_skip ?_ | refine awp_exit ?_ | ((first | refine awp_r (by kernel_rfl) (fun K kp hK hkp => ?_) | refine awp_dx (id := 16) mixed [] 24 [0, 1, 2, 3, 4, 5, 6, 7, 8, 9, 10, 11, 12, 13, 14, 15, 16, 17, 18, 19, 20, 21, 22, 23] (by kernel_rfl) (by kernel_rfl) (by simp only [go_sem]; rfl) (by simp only [go_sem]; rfl) (by simp only [go_sem]; rfl) (by rfl) (fun K kp hK hkp => ?_) | refine awp_dx (id := 19) mixed [] 12 [0, 1, 2, 3, 4, 5, 6, 7, 8, 9, 10, 11] (by kernel_rfl) (by kernel_rfl) (by simp only [go_sem]; rfl) (by simp only [go_sem]; rfl) (by simp only [go_sem]; rfl) (by rfl) (fun K kp hK hkp => ?_) | ((first | apply callR_i (tc) | apply callD_i (tc) | apply callX_i (tc)); (case hb => (simp (implicitDefEqProofs := false) (maxSteps := 2000000) (disch := omega) only [go_sem, eST, hk, bn]; first | done | rfl)); (case hp => (first | (simp [-List.map_drop, -List.map_take, eST, hk, bn]; done) | exact .ro _ _ (pt_map _ _))); (case hq => (first | (simp [-List.map_drop, -List.map_take]; done) | (intro _ h; simp only [List.mem_singleton] at h; subst h; exact pt_map _ _))))); simp (implicitDefEqProofs := false) (maxSteps := 2000000) (disch := omega) only [go_sem, eST, hk, bn]; (repeat' (first | (refine hK _ ?_; clear hK hkp kp K) | (with_reducible refine And.intro ?_ ?_) | omega))) | ((first | refine goG_ask (fun h => ?_) (fun h => ?_) | refine goGD_ask (fun h => ?_) (fun h => ?_) | refine goGX_ask (fun h => ?_) (fun h => ?_)) <;> (simp (implicitDefEqProofs := false) (maxSteps := 2000000) (disch := omega) only [go_sem, eST, hk, bn, h]; (repeat' (first | (refine hK _ ?_; clear hK hkp kp K) | (with_reducible refine And.intro ?_ ?_) | omega)))) | refine awp_cond_t rfl ?_ | refine awp_cond_f rfl ?_ | ((refine awp_cond rfl (fun h => ?_) (fun h => ?_) <;> try simp only [decide_eq_true_eq, decide_eq_false_iff_not, Int.not_lt, Int.not_le, Bool.not_eq_true, Bool.not_eq_false, bne_iff_ne, ne_eq, beq_iff_eq, bne_eq_false_iff_eq, beq_eq_false_iff_ne] at h) <;> (try (exfalso; omega))) | refine awp_ret ?_))
    (refine retA_is (by (simp (implicitDefEqProofs := false) (maxSteps := 2000000) (disch := omega) only [go_sem, Go.Proofs.Tryd.results34, checkM_name (show s.k < 7 by omega) hn]); rfl) ?_; refine (embV_nil hE (by simp) ?_).s; simp [oneA, ren, renL, checkM_name (show s.k < 7 by omega) hn])
set_option maxRecDepth 100000 in
set_option maxHeartbeats 8000000 in
theorem check6_con {G : List (Nat × List Value)} (T : Tabs G) (s : ST) (o : okST s) (hk : s.k = 6) : Con Go.Proofs.Tryd.prog G 34 [.agg (eST s)] [] 0 (Is (.r (.int .i64 (checkM s))) [] 0) No := by
  refine con_of_awp Go.Proofs.Tryd.func34 rfl (by kernel_rfl) (of_decide_eq_true (by kernel_rfl)) ?_; intro E hG hE; subst hG; simp only [ent]
  have tc := name_con T s.tab o.tab
  by_cases hn : nameM s.tab = 0
  · rw [hn] at tc
    have hh : ¬ (s.k < 7 ∧ nameM s.tab ≠ 0) := fun h => h.2 hn
    have p0 := where_con T true s.wh o.lw o.wh
    by_cases z0 : whereM s.wh = 0
    · rw [z0] at p0
      have hp : partsM s = 0 := by simp [partsM, hk, z0]
      have hS : hasM s = ⟨6, s.tab, [], [], [], false, s.wh, b0, false, -1, b0, []⟩ := by simp [hasM, hk]
      have bc := bare_con E.G s (hasM s)
      cases hb : bareB s (hasM s)
      · rw [hb, hS] at bc
        simp only [eST, hk, List.map_nil] at bc
        have bc := bc.weak (xs := [.agg [.r (.int .i64 6), .r (.string s.tab), .ro true 2 (s.cols.map eC), .ro true 3 (s.row.map eV), .ro true 1 (s.names.map eStr), .r (.bool s.count), .ro true 5 (s.wh.map eO), .r (.string s.ord), .r (.bool s.down), .r (.int .i64 s.lim), .r (.string s.set), .ro true 5 (s.to.map eO)], .agg [.r (.int .i64 6), .r (.string s.tab), .r (.slice none 0 0), .r (.slice none 0 0), .r (.slice none 0 0), .r (.bool false), .ro true 5 (s.wh.map eO), .r (.string b0), .r (.bool false), .r (.int .i64 (-1)), .r (.string b0), .r (.slice none 0 0)]]) (by simp [wkL, wk])
        (repeat' (first | refine awp_seq ?_ | refine awp_block ?_ | refine awp_skip ?_ | refine awp_exit ?_ | ((first | refine awp_r (by kernel_rfl) (fun K kp hK hkp => ?_) | refine awp_dx (id := 16) mixed [1] 24 [0, 1, 2, 3, 4, 5, 6, 7, 8, 9, 10, 11, 12, 13, 14, 15, 16, 17, 18, 19, 20, 21, 22, 23] (by kernel_rfl) (by kernel_rfl) (by simp only [go_sem]; rfl) (by simp only [go_sem]; rfl) (by simp only [go_sem]; rfl) (by rfl) (fun K kp hK hkp => ?_) | refine awp_dx (id := 19) mixed [1] 12 [0, 1, 2, 3, 4, 5, 6, 7, 8, 9, 10, 11] (by kernel_rfl) (by kernel_rfl) (by simp only [go_sem]; rfl) (by simp only [go_sem]; rfl) (by simp only [go_sem]; rfl) (by rfl) (fun K kp hK hkp => ?_) | ((first | apply callR_i (tc) | apply callD_i (tc) | apply callX_i (tc)); (case hb => (simp (implicitDefEqProofs := false) (maxSteps := 2000000) (disch := omega) only [go_sem, eST, hk]; first | done | rfl)); (case hp => (first | (simp [-List.map_drop, -List.map_take, eST, hk]; done) | exact .ro _ _ (pt_map _ _))); (case hq => (first | (simp [-List.map_drop, -List.map_take]; done) | (intro _ h; simp only [List.mem_singleton] at h; subst h; exact pt_map _ _)))) | ((first | apply callR_i (p0) | apply callD_i (p0) | apply callX_i (p0)); (case hb => (simp (implicitDefEqProofs := false) (maxSteps := 2000000) (disch := omega) only [go_sem, eST, hk]; first | done | rfl)); (case hp => (first | (simp [-List.map_drop, -List.map_take, eST, hk]; done) | exact .ro _ _ (pt_map _ _))); (case hq => (first | (simp [-List.map_drop, -List.map_take]; done) | (intro _ h; simp only [List.mem_singleton] at h; subst h; exact pt_map _ _)))) | ((first | apply callR_i (bc) | apply callD_i (bc) | apply callX_i (bc)); (case hb => (simp (implicitDefEqProofs := false) (maxSteps := 2000000) (disch := omega) only [go_sem, eST, hk]; first | done | rfl)); (case hp => (first | (simp [-List.map_drop, -List.map_take, eST, hk]; done) | exact .ro _ _ (pt_map _ _))); (case hq => (first | (simp [-List.map_drop, -List.map_take]; done) | (intro _ h; simp only [List.mem_singleton] at h; subst h; exact pt_map _ _))))); simp (implicitDefEqProofs := false) (maxSteps := 2000000) (disch := omega) only [go_sem, eST, hk]; (repeat' (first | (refine hK _ ?_; clear hK hkp kp K) | (with_reducible refine And.intro ?_ ?_) | omega))) | ((first | refine goG_ask (fun h => ?_) (fun h => ?_) | refine goGD_ask (fun h => ?_) (fun h => ?_) | refine goGX_ask (fun h => ?_) (fun h => ?_)) <;> (simp (implicitDefEqProofs := false) (maxSteps := 2000000) (disch := omega) only [go_sem, eST, hk, h]; (repeat' (first | (refine hK _ ?_; clear hK hkp kp K) | (with_reducible refine And.intro ?_ ?_) | omega)))) | refine awp_cond_t rfl ?_ | refine awp_cond_f rfl ?_ | ((refine awp_cond rfl (fun h => ?_) (fun h => ?_) <;> try simp only [decide_eq_true_eq, decide_eq_false_iff_not, Int.not_lt, Int.not_le, Bool.not_eq_true, Bool.not_eq_false, bne_iff_ne, ne_eq, beq_iff_eq, bne_eq_false_iff_eq, beq_eq_false_iff_ne] at h) <;> (try (exfalso; omega))) | refine awp_ret ?_))
        (refine retA_is (by (simp (implicitDefEqProofs := false) (maxSteps := 2000000) (disch := omega) only [go_sem, Go.Proofs.Tryd.results34, checkM_form hh hp hb]); rfl) ?_; refine (embV_nil hE (by simp) ?_).s; simp [oneA, ren, renL, checkM_form hh hp hb])
      · rw [hb, hS] at bc
        simp only [eST, hk, List.map_nil] at bc
        have bc := bc.weak (xs := [.agg [.r (.int .i64 6), .r (.string s.tab), .ro true 2 (s.cols.map eC), .ro true 3 (s.row.map eV), .ro true 1 (s.names.map eStr), .r (.bool s.count), .ro true 5 (s.wh.map eO), .r (.string s.ord), .r (.bool s.down), .r (.int .i64 s.lim), .r (.string s.set), .ro true 5 (s.to.map eO)], .agg [.r (.int .i64 6), .r (.string s.tab), .r (.slice none 0 0), .r (.slice none 0 0), .r (.slice none 0 0), .r (.bool false), .ro true 5 (s.wh.map eO), .r (.string b0), .r (.bool false), .r (.int .i64 (-1)), .r (.string b0), .r (.slice none 0 0)]]) (by simp [wkL, wk])
        (repeat' (first | refine awp_seq ?_ | refine awp_block ?_ | refine awp_skip ?_ | refine awp_exit ?_ | ((first | refine awp_r (by kernel_rfl) (fun K kp hK hkp => ?_) | refine awp_dx (id := 16) mixed [1] 24 [0, 1, 2, 3, 4, 5, 6, 7, 8, 9, 10, 11, 12, 13, 14, 15, 16, 17, 18, 19, 20, 21, 22, 23] (by kernel_rfl) (by kernel_rfl) (by simp only [go_sem]; rfl) (by simp only [go_sem]; rfl) (by simp only [go_sem]; rfl) (by rfl) (fun K kp hK hkp => ?_) | refine awp_dx (id := 19) mixed [1] 12 [0, 1, 2, 3, 4, 5, 6, 7, 8, 9, 10, 11] (by kernel_rfl) (by kernel_rfl) (by simp only [go_sem]; rfl) (by simp only [go_sem]; rfl) (by simp only [go_sem]; rfl) (by rfl) (fun K kp hK hkp => ?_) | ((first | apply callR_i (tc) | apply callD_i (tc) | apply callX_i (tc)); (case hb => (simp (implicitDefEqProofs := false) (maxSteps := 2000000) (disch := omega) only [go_sem, eST, hk]; first | done | rfl)); (case hp => (first | (simp [-List.map_drop, -List.map_take, eST, hk]; done) | exact .ro _ _ (pt_map _ _))); (case hq => (first | (simp [-List.map_drop, -List.map_take]; done) | (intro _ h; simp only [List.mem_singleton] at h; subst h; exact pt_map _ _)))) | ((first | apply callR_i (p0) | apply callD_i (p0) | apply callX_i (p0)); (case hb => (simp (implicitDefEqProofs := false) (maxSteps := 2000000) (disch := omega) only [go_sem, eST, hk]; first | done | rfl)); (case hp => (first | (simp [-List.map_drop, -List.map_take, eST, hk]; done) | exact .ro _ _ (pt_map _ _))); (case hq => (first | (simp [-List.map_drop, -List.map_take]; done) | (intro _ h; simp only [List.mem_singleton] at h; subst h; exact pt_map _ _)))) | ((first | apply callR_i (bc) | apply callD_i (bc) | apply callX_i (bc)); (case hb => (simp (implicitDefEqProofs := false) (maxSteps := 2000000) (disch := omega) only [go_sem, eST, hk]; first | done | rfl)); (case hp => (first | (simp [-List.map_drop, -List.map_take, eST, hk]; done) | exact .ro _ _ (pt_map _ _))); (case hq => (first | (simp [-List.map_drop, -List.map_take]; done) | (intro _ h; simp only [List.mem_singleton] at h; subst h; exact pt_map _ _))))); simp (implicitDefEqProofs := false) (maxSteps := 2000000) (disch := omega) only [go_sem, eST, hk]; (repeat' (first | (refine hK _ ?_; clear hK hkp kp K) | (with_reducible refine And.intro ?_ ?_) | omega))) | ((first | refine goG_ask (fun h => ?_) (fun h => ?_) | refine goGD_ask (fun h => ?_) (fun h => ?_) | refine goGX_ask (fun h => ?_) (fun h => ?_)) <;> (simp (implicitDefEqProofs := false) (maxSteps := 2000000) (disch := omega) only [go_sem, eST, hk, h]; (repeat' (first | (refine hK _ ?_; clear hK hkp kp K) | (with_reducible refine And.intro ?_ ?_) | omega)))) | refine awp_cond_t rfl ?_ | refine awp_cond_f rfl ?_ | ((refine awp_cond rfl (fun h => ?_) (fun h => ?_) <;> try simp only [decide_eq_true_eq, decide_eq_false_iff_not, Int.not_lt, Int.not_le, Bool.not_eq_true, Bool.not_eq_false, bne_iff_ne, ne_eq, beq_iff_eq, bne_eq_false_iff_eq, beq_eq_false_iff_ne] at h) <;> (try (exfalso; omega))) | refine awp_ret ?_))
        (refine retA_is (by (simp (implicitDefEqProofs := false) (maxSteps := 2000000) (disch := omega) only [go_sem, Go.Proofs.Tryd.results34, checkM_ok hh hp hb]); rfl) ?_; refine (embV_nil hE (by simp) ?_).s; simp [oneA, ren, renL, checkM_ok hh hp hb])
    · have y0 : (whereM s.wh == 0) = false := by simpa using z0
      have hp : partsM s = whereM s.wh := by simp [partsM, hk, z0]
      (repeat' (first | refine awp_seq ?_ | refine awp_block ?_ | refine awp_skip ?_ | refine awp_exit ?_ | ((first | refine awp_r (by kernel_rfl) (fun K kp hK hkp => ?_) | refine awp_dx (id := 16) mixed [1] 24 [0, 1, 2, 3, 4, 5, 6, 7, 8, 9, 10, 11, 12, 13, 14, 15, 16, 17, 18, 19, 20, 21, 22, 23] (by kernel_rfl) (by kernel_rfl) (by simp only [go_sem]; rfl) (by simp only [go_sem]; rfl) (by simp only [go_sem]; rfl) (by rfl) (fun K kp hK hkp => ?_) | refine awp_dx (id := 19) mixed [1] 12 [0, 1, 2, 3, 4, 5, 6, 7, 8, 9, 10, 11] (by kernel_rfl) (by kernel_rfl) (by simp only [go_sem]; rfl) (by simp only [go_sem]; rfl) (by simp only [go_sem]; rfl) (by rfl) (fun K kp hK hkp => ?_) | ((first | apply callR_i (tc) | apply callD_i (tc) | apply callX_i (tc)); (case hb => (simp (implicitDefEqProofs := false) (maxSteps := 2000000) (disch := omega) only [go_sem, eST, hk, y0]; first | done | rfl)); (case hp => (first | (simp [-List.map_drop, -List.map_take, eST, hk, y0]; done) | exact .ro _ _ (pt_map _ _))); (case hq => (first | (simp [-List.map_drop, -List.map_take]; done) | (intro _ h; simp only [List.mem_singleton] at h; subst h; exact pt_map _ _)))) | ((first | apply callR_i (p0) | apply callD_i (p0) | apply callX_i (p0)); (case hb => (simp (implicitDefEqProofs := false) (maxSteps := 2000000) (disch := omega) only [go_sem, eST, hk, y0]; first | done | rfl)); (case hp => (first | (simp [-List.map_drop, -List.map_take, eST, hk, y0]; done) | exact .ro _ _ (pt_map _ _))); (case hq => (first | (simp [-List.map_drop, -List.map_take]; done) | (intro _ h; simp only [List.mem_singleton] at h; subst h; exact pt_map _ _))))); simp (implicitDefEqProofs := false) (maxSteps := 2000000) (disch := omega) only [go_sem, eST, hk, y0]; (repeat' (first | (refine hK _ ?_; clear hK hkp kp K) | (with_reducible refine And.intro ?_ ?_) | omega))) | ((first | refine goG_ask (fun h => ?_) (fun h => ?_) | refine goGD_ask (fun h => ?_) (fun h => ?_) | refine goGX_ask (fun h => ?_) (fun h => ?_)) <;> (simp (implicitDefEqProofs := false) (maxSteps := 2000000) (disch := omega) only [go_sem, eST, hk, y0, h]; (repeat' (first | (refine hK _ ?_; clear hK hkp kp K) | (with_reducible refine And.intro ?_ ?_) | omega)))) | refine awp_cond_t rfl ?_ | refine awp_cond_f rfl ?_ | ((refine awp_cond rfl (fun h => ?_) (fun h => ?_) <;> try simp only [decide_eq_true_eq, decide_eq_false_iff_not, Int.not_lt, Int.not_le, Bool.not_eq_true, Bool.not_eq_false, bne_iff_ne, ne_eq, beq_iff_eq, bne_eq_false_iff_eq, beq_eq_false_iff_ne] at h) <;> (try (exfalso; omega))) | refine awp_ret ?_))
      (refine retA_is (by (simp (implicitDefEqProofs := false) (maxSteps := 2000000) (disch := omega) only [go_sem, Go.Proofs.Tryd.results34, checkM_parts hh (hp ▸ z0), hp]); rfl) ?_; refine (embV_nil hE (by simp) ?_).s; simp [oneA, ren, renL, checkM_parts hh (hp ▸ z0), hp])
  · have bn : (nameM s.tab != 0) = true := by simpa using hn
    (repeat' (first | refine awp_seq ?_ | refine awp_block ?_ | refine awp_skip ?_ | refine awp_exit ?_ | ((first | refine awp_r (by kernel_rfl) (fun K kp hK hkp => ?_) | refine awp_dx (id := 16) mixed [] 24 [0, 1, 2, 3, 4, 5, 6, 7, 8, 9, 10, 11, 12, 13, 14, 15, 16, 17, 18, 19, 20, 21, 22, 23] (by kernel_rfl) (by kernel_rfl) (by simp only [go_sem]; rfl) (by simp only [go_sem]; rfl) (by simp only [go_sem]; rfl) (by rfl) (fun K kp hK hkp => ?_) | refine awp_dx (id := 19) mixed [] 12 [0, 1, 2, 3, 4, 5, 6, 7, 8, 9, 10, 11] (by kernel_rfl) (by kernel_rfl) (by simp only [go_sem]; rfl) (by simp only [go_sem]; rfl) (by simp only [go_sem]; rfl) (by rfl) (fun K kp hK hkp => ?_) | ((first | apply callR_i (tc) | apply callD_i (tc) | apply callX_i (tc)); (case hb => (simp (implicitDefEqProofs := false) (maxSteps := 2000000) (disch := omega) only [go_sem, eST, hk, bn]; first | done | rfl)); (case hp => (first | (simp [-List.map_drop, -List.map_take, eST, hk, bn]; done) | exact .ro _ _ (pt_map _ _))); (case hq => (first | (simp [-List.map_drop, -List.map_take]; done) | (intro _ h; simp only [List.mem_singleton] at h; subst h; exact pt_map _ _))))); simp (implicitDefEqProofs := false) (maxSteps := 2000000) (disch := omega) only [go_sem, eST, hk, bn]; (repeat' (first | (refine hK _ ?_; clear hK hkp kp K) | (with_reducible refine And.intro ?_ ?_) | omega))) | ((first | refine goG_ask (fun h => ?_) (fun h => ?_) | refine goGD_ask (fun h => ?_) (fun h => ?_) | refine goGX_ask (fun h => ?_) (fun h => ?_)) <;> (simp (implicitDefEqProofs := false) (maxSteps := 2000000) (disch := omega) only [go_sem, eST, hk, bn, h]; (repeat' (first | (refine hK _ ?_; clear hK hkp kp K) | (with_reducible refine And.intro ?_ ?_) | omega)))) | refine awp_cond_t rfl ?_ | refine awp_cond_f rfl ?_ | ((refine awp_cond rfl (fun h => ?_) (fun h => ?_) <;> try simp only [decide_eq_true_eq, decide_eq_false_iff_not, Int.not_lt, Int.not_le, Bool.not_eq_true, Bool.not_eq_false, bne_iff_ne, ne_eq, beq_iff_eq, bne_eq_false_iff_eq, beq_eq_false_iff_ne] at h) <;> (try (exfalso; omega))) | refine awp_ret ?_))
    (refine retA_is (by (simp (implicitDefEqProofs := false) (maxSteps := 2000000) (disch := omega) only [go_sem, Go.Proofs.Tryd.results34, checkM_name (show s.k < 7 by omega) hn]); rfl) ?_; refine (embV_nil hE (by simp) ?_).s; simp [oneA, ren, renL, checkM_name (show s.k < 7 by omega) hn])
set_option maxRecDepth 100000 in
set_option maxHeartbeats 8000000 in
theorem check7_con {G : List (Nat × List Value)} (T : Tabs G) (s : ST) (o : okST s) (hk : 7 ≤ s.k) : Con Go.Proofs.Tryd.prog G 34 [.agg (eST s)] [] 0 (Is (.r (.int .i64 (checkM s))) [] 0) No := by
  refine con_of_awp Go.Proofs.Tryd.func34 rfl (by kernel_rfl) (of_decide_eq_true (by kernel_rfl)) ?_; intro E hG hE; subst hG; simp only [ent]
  have d7 : decide (s.k < 7) = false := decide_eq_false (by omega)
  have e1 : (s.k == 1) = false := by simp; omega
  have e3 : (s.k == 3) = false := by simp; omega
  have e4 : (s.k == 4) = false := by simp; omega
  have e5 : (s.k == 5) = false := by simp; omega
  have e6 : (s.k == 6) = false := by simp; omega
  have hh : ¬ (s.k < 7 ∧ nameM s.tab ≠ 0) := fun h => by omega
  have hp : partsM s = 0 := by rw [partsM, if_neg (by omega), if_neg (by omega), if_neg (by omega), if_neg (by omega), if_neg (by omega)]
  have hS : hasM s = ⟨s.k, b0, [], [], [], false, [], b0, false, -1, b0, []⟩ := by rw [hasM, if_neg (by omega), if_neg (by omega), if_neg (by omega), if_neg (by omega), if_neg (by omega), if_neg (by omega)]
  have bc := bare_con E.G s (hasM s)
  cases hb : bareB s (hasM s)
  · rw [hb, hS] at bc
    simp only [eST, List.map_nil] at bc
    have bc := bc.weak (xs := [.agg [.r (.int .i64 s.k), .r (.string s.tab), .ro true 2 (s.cols.map eC), .ro true 3 (s.row.map eV), .ro true 1 (s.names.map eStr), .r (.bool s.count), .ro true 5 (s.wh.map eO), .r (.string s.ord), .r (.bool s.down), .r (.int .i64 s.lim), .r (.string s.set), .ro true 5 (s.to.map eO)], .agg [.r (.int .i64 s.k), .r (.string b0), .r (.slice none 0 0), .r (.slice none 0 0), .r (.slice none 0 0), .r (.bool false), .r (.slice none 0 0), .r (.string b0), .r (.bool false), .r (.int .i64 (-1)), .r (.string b0), .r (.slice none 0 0)]]) (by simp [wkL, wk])
    (repeat' (first | refine awp_seq ?_ | refine awp_block ?_ | refine awp_skip ?_ | refine awp_exit ?_ | ((first | refine awp_r (by kernel_rfl) (fun K kp hK hkp => ?_) | refine awp_dx (id := 16) mixed [1] 24 [0, 1, 2, 3, 4, 5, 6, 7, 8, 9, 10, 11, 12, 13, 14, 15, 16, 17, 18, 19, 20, 21, 22, 23] (by kernel_rfl) (by kernel_rfl) (by simp only [go_sem]; rfl) (by simp only [go_sem]; rfl) (by simp only [go_sem]; rfl) (by rfl) (fun K kp hK hkp => ?_) | refine awp_dx (id := 19) mixed [1] 12 [0, 1, 2, 3, 4, 5, 6, 7, 8, 9, 10, 11] (by kernel_rfl) (by kernel_rfl) (by simp only [go_sem]; rfl) (by simp only [go_sem]; rfl) (by simp only [go_sem]; rfl) (by rfl) (fun K kp hK hkp => ?_) | ((first | apply callR_i (bc) | apply callD_i (bc) | apply callX_i (bc)); (case hb => (simp (implicitDefEqProofs := false) (maxSteps := 2000000) (disch := omega) only [go_sem, eST, d7, e1, e3, e4, e5, e6]; first | done | rfl)); (case hp => (first | (simp [-List.map_drop, -List.map_take, eST, d7, e1, e3, e4, e5, e6]; done) | exact .ro _ _ (pt_map _ _))); (case hq => (first | (simp [-List.map_drop, -List.map_take]; done) | (intro _ h; simp only [List.mem_singleton] at h; subst h; exact pt_map _ _))))); simp (implicitDefEqProofs := false) (maxSteps := 2000000) (disch := omega) only [go_sem, eST, d7, e1, e3, e4, e5, e6]; (repeat' (first | (refine hK _ ?_; clear hK hkp kp K) | (with_reducible refine And.intro ?_ ?_) | omega))) | ((first | refine goG_ask (fun h => ?_) (fun h => ?_) | refine goGD_ask (fun h => ?_) (fun h => ?_) | refine goGX_ask (fun h => ?_) (fun h => ?_)) <;> (simp (implicitDefEqProofs := false) (maxSteps := 2000000) (disch := omega) only [go_sem, eST, d7, e1, e3, e4, e5, e6, h]; (repeat' (first | (refine hK _ ?_; clear hK hkp kp K) | (with_reducible refine And.intro ?_ ?_) | omega)))) | refine awp_cond_t rfl ?_ | refine awp_cond_f rfl ?_ | ((refine awp_cond rfl (fun h => ?_) (fun h => ?_) <;> try simp only [decide_eq_true_eq, decide_eq_false_iff_not, Int.not_lt, Int.not_le, Bool.not_eq_true, Bool.not_eq_false, bne_iff_ne, ne_eq, beq_iff_eq, bne_eq_false_iff_eq, beq_eq_false_iff_ne] at h) <;> (try (exfalso; omega))) | refine awp_ret ?_))
    (refine retA_is (by (simp (implicitDefEqProofs := false) (maxSteps := 2000000) (disch := omega) only [go_sem, Go.Proofs.Tryd.results34, checkM_form hh hp hb]); rfl) ?_; refine (embV_nil hE (by simp) ?_).s; simp [oneA, ren, renL, checkM_form hh hp hb])
  · rw [hb, hS] at bc
    simp only [eST, List.map_nil] at bc
    have bc := bc.weak (xs := [.agg [.r (.int .i64 s.k), .r (.string s.tab), .ro true 2 (s.cols.map eC), .ro true 3 (s.row.map eV), .ro true 1 (s.names.map eStr), .r (.bool s.count), .ro true 5 (s.wh.map eO), .r (.string s.ord), .r (.bool s.down), .r (.int .i64 s.lim), .r (.string s.set), .ro true 5 (s.to.map eO)], .agg [.r (.int .i64 s.k), .r (.string b0), .r (.slice none 0 0), .r (.slice none 0 0), .r (.slice none 0 0), .r (.bool false), .r (.slice none 0 0), .r (.string b0), .r (.bool false), .r (.int .i64 (-1)), .r (.string b0), .r (.slice none 0 0)]]) (by simp [wkL, wk])
    (repeat' (first | refine awp_seq ?_ | refine awp_block ?_ | refine awp_skip ?_ | refine awp_exit ?_ | ((first | refine awp_r (by kernel_rfl) (fun K kp hK hkp => ?_) | refine awp_dx (id := 16) mixed [1] 24 [0, 1, 2, 3, 4, 5, 6, 7, 8, 9, 10, 11, 12, 13, 14, 15, 16, 17, 18, 19, 20, 21, 22, 23] (by kernel_rfl) (by kernel_rfl) (by simp only [go_sem]; rfl) (by simp only [go_sem]; rfl) (by simp only [go_sem]; rfl) (by rfl) (fun K kp hK hkp => ?_) | refine awp_dx (id := 19) mixed [1] 12 [0, 1, 2, 3, 4, 5, 6, 7, 8, 9, 10, 11] (by kernel_rfl) (by kernel_rfl) (by simp only [go_sem]; rfl) (by simp only [go_sem]; rfl) (by simp only [go_sem]; rfl) (by rfl) (fun K kp hK hkp => ?_) | ((first | apply callR_i (bc) | apply callD_i (bc) | apply callX_i (bc)); (case hb => (simp (implicitDefEqProofs := false) (maxSteps := 2000000) (disch := omega) only [go_sem, eST, d7, e1, e3, e4, e5, e6]; first | done | rfl)); (case hp => (first | (simp [-List.map_drop, -List.map_take, eST, d7, e1, e3, e4, e5, e6]; done) | exact .ro _ _ (pt_map _ _))); (case hq => (first | (simp [-List.map_drop, -List.map_take]; done) | (intro _ h; simp only [List.mem_singleton] at h; subst h; exact pt_map _ _))))); simp (implicitDefEqProofs := false) (maxSteps := 2000000) (disch := omega) only [go_sem, eST, d7, e1, e3, e4, e5, e6]; (repeat' (first | (refine hK _ ?_; clear hK hkp kp K) | (with_reducible refine And.intro ?_ ?_) | omega))) | ((first | refine goG_ask (fun h => ?_) (fun h => ?_) | refine goGD_ask (fun h => ?_) (fun h => ?_) | refine goGX_ask (fun h => ?_) (fun h => ?_)) <;> (simp (implicitDefEqProofs := false) (maxSteps := 2000000) (disch := omega) only [go_sem, eST, d7, e1, e3, e4, e5, e6, h]; (repeat' (first | (refine hK _ ?_; clear hK hkp kp K) | (with_reducible refine And.intro ?_ ?_) | omega)))) | refine awp_cond_t rfl ?_ | refine awp_cond_f rfl ?_ | ((refine awp_cond rfl (fun h => ?_) (fun h => ?_) <;> try simp only [decide_eq_true_eq, decide_eq_false_iff_not, Int.not_lt, Int.not_le, Bool.not_eq_true, Bool.not_eq_false, bne_iff_ne, ne_eq, beq_iff_eq, bne_eq_false_iff_eq, beq_eq_false_iff_ne] at h) <;> (try (exfalso; omega))) | refine awp_ret ?_))
    (refine retA_is (by (simp (implicitDefEqProofs := false) (maxSteps := 2000000) (disch := omega) only [go_sem, Go.Proofs.Tryd.results34, checkM_ok hh hp hb]); rfl) ?_; refine (embV_nil hE (by simp) ?_).s; simp [oneA, ren, renL, checkM_ok hh hp hb])
theorem check_con {G : List (Nat × List Value)} (T : Tabs G) (s : ST) (o : okST s) (h1 : 1 ≤ s.k) : Con Go.Proofs.Tryd.prog G 34 [.agg (eST s)] [] 0 (Is (.r (.int .i64 (checkM s))) [] 0) No := by
  by_cases h7 : 7 ≤ s.k
  · exact check7_con T s o h7
  obtain h | h | h | h | h | h : s.k = 1 ∨ s.k = 2 ∨ s.k = 3 ∨ s.k = 4 ∨ s.k = 5 ∨ s.k = 6 := by omega
  · exact check1_con T s o h
  · exact check2_con T s o h
  · exact check3_con T s o h
  · exact check4_con T s o h
  · exact check5_con T s o h
  · exact check6_con T s o h
end Go.AM
/- Lists that are copied. -/
namespace Go.AM
open Go Go.RowKit
open Go.Proofs.YtoecmmpjndcolaaDoor (OP nameM litM exprM marksS wordsS StrsAt str SlAt)
attribute [local irreducible] AWP retA
theorem cols_copy (G : List (Nat × List Value)) (t : Bool) (l : List CO) (hl : l.length ≤ 1048576) : Con Go.Proofs.Tryd.prog G 10 [.ro t 2 (l.map eC)] [] 0 (Is (.ro true 2 (l.map eC)) [] 0) No := by
  refine con_of_awp Go.Proofs.Tryd.func10 rfl (by kernel_rfl) (of_decide_eq_true (by kernel_rfl)) ?_; intro E hG hE; subst hG; simp only [ent]
  (repeat' (first | refine awp_seq ?_ | refine awp_block ?_ | refine awp_skip ?_ | refine awp_exit ?_ | ((first | refine awp_r (by kernel_rfl) (fun K kp hK hkp => ?_)); simp (implicitDefEqProofs := false) (maxSteps := 2000000) (disch := omega) only [go_sem]; (repeat' (first | (refine hK _ ?_; clear hK hkp kp K) | (with_reducible refine And.intro ?_ ?_) | omega))) | ((first | refine goG_ask (fun h => ?_) (fun h => ?_) | refine goGD_ask (fun h => ?_) (fun h => ?_) | refine goGX_ask (fun h => ?_) (fun h => ?_)) <;> (simp (implicitDefEqProofs := false) (maxSteps := 2000000) (disch := omega) only [go_sem, h]; (repeat' (first | (refine hK _ ?_; clear hK hkp kp K) | (with_reducible refine And.intro ?_ ?_) | omega)))) | refine awp_cond_t rfl ?_ | refine awp_cond_f rfl ?_ | ((refine awp_cond rfl (fun h => ?_) (fun h => ?_) <;> try simp only [decide_eq_true_eq, decide_eq_false_iff_not, Int.not_lt, Int.not_le, Bool.not_eq_true, Bool.not_eq_false, bne_iff_ne, ne_eq, beq_iff_eq, bne_eq_false_iff_eq, beq_eq_false_iff_ne] at h) <;> (try (exfalso; omega))) | refine awp_ret ?_))
  (refine retA_is (by (simp (implicitDefEqProofs := false) (maxSteps := 2000000) (disch := omega) only [go_sem, Go.Proofs.Tryd.results10]); rfl) ?_; refine embS_frz (by simp only [oneA]; simp (implicitDefEqProofs := false) (maxSteps := 2000000) (disch := omega) only [go_sem]; rfl) ?_; refine (embV_nil hE (by simp) ?_).s; simp [oneA, ren, renL])
theorem values_copy (G : List (Nat × List Value)) (t : Bool) (l : List V) (hl : l.length ≤ 1048576) : Con Go.Proofs.Tryd.prog G 13 [.ro t 3 (l.map eV)] [] 0 (Is (.ro true 3 (l.map eV)) [] 0) No := by
  refine con_of_awp Go.Proofs.Tryd.func13 rfl (by kernel_rfl) (of_decide_eq_true (by kernel_rfl)) ?_; intro E hG hE; subst hG; simp only [ent]
  (repeat' (first | refine awp_seq ?_ | refine awp_block ?_ | refine awp_skip ?_ | refine awp_exit ?_ | ((first | refine awp_r (by kernel_rfl) (fun K kp hK hkp => ?_)); simp (implicitDefEqProofs := false) (maxSteps := 2000000) (disch := omega) only [go_sem]; (repeat' (first | (refine hK _ ?_; clear hK hkp kp K) | (with_reducible refine And.intro ?_ ?_) | omega))) | ((first | refine goG_ask (fun h => ?_) (fun h => ?_) | refine goGD_ask (fun h => ?_) (fun h => ?_) | refine goGX_ask (fun h => ?_) (fun h => ?_)) <;> (simp (implicitDefEqProofs := false) (maxSteps := 2000000) (disch := omega) only [go_sem, h]; (repeat' (first | (refine hK _ ?_; clear hK hkp kp K) | (with_reducible refine And.intro ?_ ?_) | omega)))) | refine awp_cond_t rfl ?_ | refine awp_cond_f rfl ?_ | ((refine awp_cond rfl (fun h => ?_) (fun h => ?_) <;> try simp only [decide_eq_true_eq, decide_eq_false_iff_not, Int.not_lt, Int.not_le, Bool.not_eq_true, Bool.not_eq_false, bne_iff_ne, ne_eq, beq_iff_eq, bne_eq_false_iff_eq, beq_eq_false_iff_ne] at h) <;> (try (exfalso; omega))) | refine awp_ret ?_))
  (refine retA_is (by (simp (implicitDefEqProofs := false) (maxSteps := 2000000) (disch := omega) only [go_sem, Go.Proofs.Tryd.results13]); rfl) ?_; refine embS_frz (by simp only [oneA]; simp (implicitDefEqProofs := false) (maxSteps := 2000000) (disch := omega) only [go_sem]; rfl) ?_; refine (embV_nil hE (by simp) ?_).s; simp [oneA, ren, renL])
@[simp] theorem ptA_eO (a : OP) : (∀ x, x ∈ eO a → PT x) = True := eq_true (by intro x hx; simp [eO] at hx; rcases hx with rfl | rfl | rfl | rfl | rfl <;> exact .r _)
instance : PTf eO := ⟨fun a => of_eq_true (ptA_eO a)⟩
theorem ops_copy (G : List (Nat × List Value)) (t : Bool) (l : List OP) (hl : l.length ≤ 1048576) : Con Go.Proofs.Tryd.prog G 16 [.ro t 5 (l.map eO)] [] 0 (Is (.ro true 5 (l.map eO)) [] 0) No := by
  refine con_of_awp Go.Proofs.Tryd.func16 rfl (by kernel_rfl) (of_decide_eq_true (by kernel_rfl)) ?_; intro E hG hE; subst hG; simp only [ent]
  (repeat' (first | refine awp_seq ?_ | refine awp_block ?_ | refine awp_skip ?_ | refine awp_exit ?_ | ((first | refine awp_r (by kernel_rfl) (fun K kp hK hkp => ?_)); simp (implicitDefEqProofs := false) (maxSteps := 2000000) (disch := omega) only [go_sem]; (repeat' (first | (refine hK _ ?_; clear hK hkp kp K) | (with_reducible refine And.intro ?_ ?_) | omega))) | ((first | refine goG_ask (fun h => ?_) (fun h => ?_) | refine goGD_ask (fun h => ?_) (fun h => ?_) | refine goGX_ask (fun h => ?_) (fun h => ?_)) <;> (simp (implicitDefEqProofs := false) (maxSteps := 2000000) (disch := omega) only [go_sem, h]; (repeat' (first | (refine hK _ ?_; clear hK hkp kp K) | (with_reducible refine And.intro ?_ ?_) | omega)))) | refine awp_cond_t rfl ?_ | refine awp_cond_f rfl ?_ | ((refine awp_cond rfl (fun h => ?_) (fun h => ?_) <;> try simp only [decide_eq_true_eq, decide_eq_false_iff_not, Int.not_lt, Int.not_le, Bool.not_eq_true, Bool.not_eq_false, bne_iff_ne, ne_eq, beq_iff_eq, bne_eq_false_iff_eq, beq_eq_false_iff_ne] at h) <;> (try (exfalso; omega))) | refine awp_ret ?_))
  (refine retA_is (by (simp (implicitDefEqProofs := false) (maxSteps := 2000000) (disch := omega) only [go_sem, Go.Proofs.Tryd.results16]); rfl) ?_; refine embS_frz (by simp only [oneA]; simp (implicitDefEqProofs := false) (maxSteps := 2000000) (disch := omega) only [go_sem]; rfl) ?_; refine (embV_nil hE (by simp) ?_).s; simp [oneA, ren, renL])
end Go.AM
namespace Go.Proofs.YtoecmmpjndcolaaDoor
open Go.RowKit Go.AM
theorem cellsOpA : Tryd.prog.cellsOf 79 = 5 := by kernel_rfl
end Go.Proofs.YtoecmmpjndcolaaDoor
/- The abstract machine, 21: regions that draw their order, where what allocates is not ordered: whatever order, the state comes out as in the written one. -/
namespace Go.AM
open Go
/-- The first says no more than the second. -/
structure AS.le (s s' : AS) : Prop where
  m : ∀ i x, lk s.m i = some x → lk s'.m i = some x
  o : ∀ i x, lk s.o i = some x → lk s'.o i = some x
section
variable {G : List (Nat × List Value)} {s s' : AS}
theorem ev_mono (h : s.le s') {x : Operand} {v : AV} (he : ev s G x = some v) : ev s' G x = some v := by
  cases x with
  | tmp t => exact h.m _ _ he
  | const v => exact he
  | global g => exact he
  | func f => exact he
theorem evs_mono (h : s.le s') : ∀ {l : List Operand} {c : List AV}, evs s G l = some c → evs s' G l = some c
  | [], c, he => he
  | x :: r, c, he => by
    simp only [evs] at he ⊢
    split at he
    · rename_i a l h1 h2; cases he; rw [ev_mono h h1, evs_mono h h2]
    · cases he
mutual
theorem bor_mono (h : s.le s') : ∀ (x : AV) {y : AV}, bor s x = some y → bor s' x = some y
  | .s n lo len, y, hb => by
    simp only [bor] at hb ⊢
    split at hb
    · rename_i T k els hn; rw [h.o _ _ hn]; exact hb
    · cases hb
  | .p n i off, y, hb => by
    simp only [bor] at hb ⊢
    split at hb
    · rename_i T c hn; rw [h.o _ _ hn]; exact hb
    · cases hb
  | .r u, y, hb => hb
  | .ro t k els, y, hb => hb
  | .re t c off, y, hb => hb
  | .agg c, y, hb => by
    simp only [bor, Option.map_eq_some_iff] at hb ⊢
    obtain ⟨c', h1, h2⟩ := hb; exact ⟨c', borL_mono h c h1, h2⟩
  | .tup c, y, hb => by
    simp only [bor, Option.map_eq_some_iff] at hb ⊢
    obtain ⟨c', h1, h2⟩ := hb; exact ⟨c', borL_mono h c h1, h2⟩
  | .fn f c, y, hb => by
    simp only [bor, Option.map_eq_some_iff] at hb ⊢
    obtain ⟨c', h1, h2⟩ := hb; exact ⟨c', borL_mono h c h1, h2⟩
  | .ifc t x, y, hb => by
    simp only [bor, Option.map_eq_some_iff] at hb ⊢
    obtain ⟨c', h1, h2⟩ := hb; exact ⟨c', bor_mono h x h1, h2⟩
theorem borL_mono (h : s.le s') : ∀ (c : List AV) {d : List AV}, borL s c = some d → borL s' c = some d
  | [], d, hb => hb
  | x :: r, d, hb => by
    simp only [borL] at hb ⊢
    split at hb
    · rename_i y l h1 h2; cases hb; rw [bor_mono h x h1, borL_mono h r h2]
    · cases hb
end
end
mutual
/-- No own thing in it. -/
def pureA : AV → Bool
  | .r _ | .ro _ _ _ | .re _ _ _ => true
  | .agg c | .tup c => pureL c
  | _ => false
def pureL : List AV → Bool
  | [] => true
  | x :: r => pureA x && pureL r
end
mutual
theorem frz_pure (st : AS) : ∀ (x : AV), pureA x = true → frz st x = some (x, st)
  | .r v, _ => rfl
  | .ro t k els, _ => rfl
  | .re t c off, _ => rfl
  | .agg c, h => by simp only [pureA] at h; simp only [frz, frzL_pure st c h]
  | .tup c, h => by simp only [pureA] at h; simp only [frz, frzL_pure st c h]
  | .s n lo len, h => by simp [pureA] at h
  | .p n i off, h => by simp [pureA] at h
  | .fn f c, h => by simp [pureA] at h
  | .ifc t x, h => by simp [pureA] at h
theorem frzL_pure (st : AS) : ∀ (c : List AV), pureL c = true → frzL st c = some (c, st)
  | [], _ => rfl
  | x :: r, h => by
    simp only [pureL, Bool.and_eq_true] at h
    simp only [frzL, frz_pure st x h.1, frzL_pure st r h.2]
end
section
variable {P : Program} {E : Env} {N : Nat} {st : AS} {th : List NLoc} {z : Zone} {a : Act} {w : World}
theorem Rep.lt {x : AV} {v : Value} (h : Rep w z th x v) {f : Nat → Nat} (hf : ∀ i, i < th.length → f i = i) : AM.ren f x = x := by
  have lists : ∀ (c : List AV) (ys : List Value), ys.length = c.length → (∀ (i : Nat) (x : AV) (y : Value), c[i]? = some x → ys[i]? = some y → AM.ren f x = x) → renL f c = c := by
    intro c
    induction c with
    | nil => intro ys _ _; rfl
    | cons x r ih =>
      intro ys hl hx
      match ys, hl with
      | y :: ys, hl =>
        simp only [renL]
        rw [hx 0 x y rfl rfl, ih ys (by simpa using hl) (fun i a b h1 h2 => hx (i + 1) a b (by simpa using h1) (by simpa using h2))]
  induction h with
  | r th v => rfl
  | nil th t k a c => rfl
  | ro th t k els b o c ys hz hc hk hy h1 hx ih => rfl
  | re th t c b o off ys hz hy hx ih => rfl
  | s th n lo len c o L hL hp hl hc ho => simp only [AM.ren]; rw [hf n (List.getElem?_eq_some_iff.1 hL).1]
  | sn th n lo L hL hp => simp only [AM.ren]; rw [hf n (List.getElem?_eq_some_iff.1 hL).1]
  | p th n i off L hL => simp only [AM.ren]; rw [hf n (List.getElem?_eq_some_iff.1 hL).1]
  | agg th c ys hl hx ih => simp only [AM.ren]; rw [lists c ys hl (fun i x y h1 h2 => ih i x y h1 h2 hf)]
  | tup th c ys hl hx ih => simp only [AM.ren]; rw [lists c ys hl (fun i x y h1 h2 => ih i x y h1 h2 hf)]
  | fn th g c ys hl hx ih => simp only [AM.ren]; rw [lists c ys hl (fun i x y h1 h2 => ih i x y h1 h2 hf)]
  | ifc th t x v hx ih => simp only [AM.ren]; rw [ih hf]
theorem Reps.lt {c : List AV} {ys : List Value} (h : Reps w z th c ys) {f : Nat → Nat} (hf : ∀ i, i < th.length → f i = i) : renL f c = c := by
  induction c generalizing ys with
  | nil => rfl
  | cons x r ih =>
    obtain ⟨y, ys', rfl, h1, h2⟩ := h.head
    simp only [renL]; rw [h1.lt hf, ih h2]
theorem NdAt.lt {L : NLoc} {nd : Nd} (h : NdAt w z th L nd) {f : Nat → Nat} (hf : ∀ i, i < th.length → f i = i) : renNd f nd = nd := by
  cases nd with
  | box T c => obtain ⟨_, cells, fr, _, _, _, h4⟩ := h; simp only [renNd]; rw [h4.lt hf]
  | lst T k els => rfl
/-- More numbers than there are things. -/
theorem Sim.more (h : Sim E N st th z a w) (k : Nat) : Sim E N { st with n := st.n + k } (th ++ List.replicate k ⟨0, 0, 0, 0, false⟩) z a w := by
  have m := h.mem
  have old : ∀ i nd L, lk st.o i = some nd → (th ++ List.replicate k (⟨0, 0, 0, 0, false⟩ : NLoc))[i]? = some L → th[i]? = some L := by
    intro i nd L hi hL
    obtain ⟨M, h1, _, _⟩ := m.nds i nd hi
    have := pre_get (List.replicate k (⟨0, 0, 0, 0, false⟩ : NLoc)) h1
    rw [hL] at this; cases this; exact h1
  refine ⟨⟨by simp [m.len], fun i nd hi => ?_, fun i j x y L M hi hj hL hM => m.inj i j x y L M hi hj (old i x L hi hL) (old j y M hj hM), m.zlt, m.grow, m.frame, m.zin, m.zout, m.zb, m.globs, fun i L hi => pre_get _ (m.pre i L hi), m.sys⟩, h.size, h.dfs, fun i x hi => ?_⟩
  · obtain ⟨L, h1, h2, h3⟩ := m.nds i nd hi
    exact ⟨L, pre_get _ h1, h2.on (Le.refl w z) (fun _ => rfl) _, h3⟩
  · obtain ⟨y, hy, hr⟩ := h.slots i x hi
    exact ⟨y, hy, hr.on (Le.refl w z) _⟩
/-- Memory under other numbers; what is asked of what is found alone. -/
theorem Sim.renL (h : Sim E N st th z a w) (ρ : List Nat) {st' : AS} (hr : ∀ j ∈ ρ, j < st.n) (hb : st.n ≤ 1000000000) (hm : ∀ i x, lk st'.m i = some x → lk st.m i = some (ren (by_ ρ) x)) (ho : ∀ i nd, lk st'.o i = some nd → ∃ j, ρ[i]? = some j ∧ lk st.o j = some (renNd (by_ ρ) nd)) (hn : st'.n = ρ.length)
    (hpre : ∀ i, i < E.th0.length → ρ[i]? = some i) (hnd : ρ.Nodup) : Sim E N st' (thOf th ρ) z a w := by
  have m := h.mem
  have hr' : ∀ j ∈ ρ, j < th.length := fun j hj => by rw [m.len]; exact hr j hj
  have hb' : th.length ≤ 1000000000 := by rw [m.len]; exact hb
  refine ⟨⟨by simp [thOf, hn], fun i nd hi => ?_, fun i i' x y L M hi hi' hL hM e1 e2 hbb => ?_, m.zlt, m.grow, m.frame, m.zin, m.zout, m.zb, m.globs, fun i L hi => ?_, m.sys⟩, h.size, h.dfs, fun i x hi => ?_⟩
  · obtain ⟨j, hj, hnd⟩ := ho i nd hi
    obtain ⟨L, k1, k2, k3⟩ := m.nds j _ hnd
    exact ⟨L, by rw [thOf_get hr' hj]; exact k1, k2.unren (thOf_by hr' hb'), k3⟩
  · obtain ⟨j, hj, hx⟩ := ho i x hi
    obtain ⟨j', hj', hy⟩ := ho i' y hi'
    rw [thOf_get hr' hj] at hL
    rw [thOf_get hr' hj'] at hM
    have := m.inj j j' _ _ L M hx hy hL hM e1 e2 hbb
    subst this
    obtain ⟨l1, e1⟩ := List.getElem?_eq_some_iff.1 hj
    exact (List.getElem?_inj l1 hnd).1 (hj.trans hj'.symm)
  · have hi' : i < E.th0.length := (List.getElem?_eq_some_iff.1 hi).1
    rw [thOf_get hr' (hpre i hi')]
    exact m.pre i L hi
  · obtain ⟨y, hy, hrep⟩ := h.slots i _ (hm i x hi)
    exact ⟨y, hy, hrep.unren (thOf_by hr' hb') x rfl⟩
/-- The numbers from r on are found from M on. -/
def rho (M r k : Nat) : List Nat := (List.range M).map fun i => if r ≤ i ∧ i < r + k then M + (i - r) else i
theorem rho_get {M r k i : Nat} (h : i < M) : (rho M r k)[i]? = some (if r ≤ i ∧ i < r + k then M + (i - r) else i) := by
  simp [rho, h]
theorem by_rho {M r k i : Nat} (h : i < M) : by_ (rho M r k) i = if r ≤ i ∧ i < r + k then M + (i - r) else i := by
  simp [by_, rho_get h]
theorem rho_len (M r k : Nat) : (rho M r k).length = M := by simp [rho]
theorem rho_lt {M r k : Nat} (h : r + k ≤ M) : ∀ j ∈ rho M r k, j < M + k := by
  intro j hj
  simp only [rho, List.mem_map, List.mem_range] at hj
  obtain ⟨i, hi, rfl⟩ := hj
  split <;> omega
theorem rho_nodup {M r k : Nat} : (rho M r k).Nodup := by
  unfold rho
  rw [List.Nodup, List.pairwise_map]
  refine List.Pairwise.imp_of_mem ?_ (List.nodup_range (n := M))
  intro i j hi hj hne
  simp only [List.mem_range] at hi hj
  split <;> split <;> omega
/-- What a new thing is, whatever else has been made in the meantime. -/
def FreshW (P : Program) (E : Env) (N : Nat) (R : AS) (o : Oper) (v : AV) (os : List (Nat × Nd)) (k : Nat) : Prop :=
  ∀ (S : AS) (th : List NLoc) (z : Zone) (a : Act) (w : World), R.le S → S.n = R.n → Sim E N S th z a w → ∀ (next : Act → World → Prop) (Q : Exit → Act → World → Prop),
    (∀ th' z' a' w', Sim E N ({ S with o := os ++ S.o, n := S.n + k }.put o.dst v) th' z' a' w' → next a' w') → o.wp P a w next Q
theorem fresh_q {R : AS} {o : Oper} {v : AV} (hd : ∀ i, o.dst = some i → i < N) (hv : qv P E.G R o.op = some v) : FreshW P E N R o v [] 0 := by
  intro S th z a w hle hn hs next Q hnext
  have hR : Sim E N R th z a w := hs.sub hn.symm hle.o hle.m
  obtain ⟨u, hr, hrun⟩ := qv_sound hR o hv
  unfold Oper.wp
  rw [hrun w SameK.refl, Oper.upon_value]
  exact hnext th z _ w (hs.put hr o.dst hd)
theorem fresh_list {R : AS} {o : Oper} {T e : TypeId} {len sz s1 b1 b2 : Nat} {z1 : Option (List Value)} {z2 : List Value} {k2 : TK} {parts : Array (Nat × Operand)} {c : List AV} {els : List (List AV)} (hd : ∀ i, o.dst = some i → i < N) (ho : o.op = .buildSlice T len parts) (hT : tyOf P T = some ⟨.slice e, s1, b1, z1⟩) (hTe : tyOf P e = some ⟨k2, sz, b2, some z2⟩)
    (hc : evs R E.G (parts.toList.map (·.2)) = some c) (hp : pureL c = true) (hels : elsL sz 0 (parts.toList.map (·.1)) c = some els) (hlen : len = els.length ∧ len * sz ≤ 16777216) : FreshW P E N R o (.s R.n 0 len) [(R.n, .lst e sz els)] 1 := by
  intro S th z a w hle hn hs next Q hnext
  have hk : stepG P E N S o.op (fun x s => x = .s S.n 0 len ∧ s = putNd S (.lst e sz els)) (fun _ _ => False) := by
    rw [ho]
    simp only [stepG, effR, hT, evs_mono hle hc, hTe, frzL_pure S c hp, hels, bindE]
    exact ⟨hlen, by simp⟩
  refine stepG_sound hs o hk hd (fun x st' th' z' a' w' ⟨h1, h2⟩ h3 _ => ?_) (fun x v st' th' z' w' h => h.elim)
  subst h1 h2
  refine hnext th' z' a' w' ?_
  rw [← hn]
  exact h3
theorem fresh_call {R : AS} {o : Oper} {f : Operand} {args : Array Operand} {ats : Array TypeId} {g k : Nat} {caps xs ys : List AV} {res : AV} {os : List (Nat × Nd)} (hd : ∀ i, o.dst = some i → i < N) (ho : o.op = .call { callee := .value f, args := args, argTypes := ats }) (hf : ev R E.G f = some (.fn g caps)) (hx : evs R E.G args.toList = some xs)
    (hc : Con P E.G g ys [] 0 (Is res os k) No) (hb : borL R (xs ++ caps) = some ys) (hp : PT res) (hp' : ∀ p ∈ os, PTNd p.2) : FreshW P E N R o (ren (· + R.n) res) (shO R.n os) k := by
  intro S th z a w hle hn hs next Q hnext
  have hk : stepG P E N S o.op (fun x s => x = ren (· + S.n) res ∧ s = { S with o := shO S.n os ++ S.o, n := S.n + k }) (fun _ _ => False) := by
    rw [ho]
    simp only [stepG, ev_mono hle hf, evs_mono hle hx, bindF]
    exact callG_is hc (borL_mono hle _ hb) hp hp' ⟨rfl, rfl⟩
  refine stepG_sound hs o hk hd (fun x st' th' z' a' w' ⟨h1, h2⟩ h3 _ => ?_) (fun x v st' th' z' w' h => h.elim)
  subst h1 h2
  refine hnext th' z' a' w' ?_
  rw [← hn]
  exact h3
end
/-- What an operation has made: its place, its slot, its value, its own things. -/
structure En where
  i : Nat
  d : Nat
  v : AV
  o : List (Nat × Nd)
/-- The plan of an operation: its numbers from r on (behind those that there are), how many, what it waits for, the numbers that may be made later than it. -/
structure PU where
  r : Nat
  k : Nat
  anc : List Nat
  chk : List (Nat × Nat)
def finM : List En → List (Nat × AV) → List (Nat × AV)
  | [], m => m
  | e :: r, m => (e.d, e.v) :: finM r m
def finO : List En → List (Nat × Nd) → List (Nat × Nd)
  | [], m => m
  | e :: r, m => e.o ++ finO r m
def memN : List Nat → Nat → Bool
  | [], _ => false
  | d :: r, i => if d = i then true else memN r i
theorem memN_eq (l : List Nat) (i : Nat) : memN l i = l.contains i := by
  induction l with
  | nil => rfl
  | cons d r ih =>
    simp only [memN, List.contains_cons, ih]
    by_cases h : d = i
    · subst h; simp
    · rw [if_neg h]; simp [Ne.symm h]
def fltE (anc : List Nat) : List En → List En
  | [] => []
  | e :: r => bif memN anc e.i then e :: fltE anc r else fltE anc r
def fltM (ds : List Nat) : List (Nat × AV) → List (Nat × AV)
  | [] => []
  | p :: r => bif memN ds p.1 then fltM ds r else p :: fltM ds r
def stE (bs : AS) (es : List En) : AS := ⟨finM es bs.m, finO es bs.o, bs.n⟩
theorem fltE_mem {anc : List Nat} {e : En} : ∀ {es : List En}, e ∈ fltE anc es ↔ e ∈ es ∧ anc.contains e.i = true
  | [] => by simp [fltE]
  | x :: r => by
    simp only [fltE, memN_eq]
    cases h : anc.contains x.i
    · simp only [cond_false, fltE_mem (es := r), List.mem_cons]
      constructor
      · rintro ⟨h1, h2⟩; exact ⟨.inr h1, h2⟩
      · rintro ⟨rfl | h1, h2⟩
        · rw [h] at h2; cases h2
        · exact ⟨h1, h2⟩
    · simp only [cond_true, fltE_mem (es := r), List.mem_cons]
      constructor
      · rintro (rfl | ⟨h1, h2⟩)
        · exact ⟨.inl rfl, h⟩
        · exact ⟨.inr h1, h2⟩
      · rintro ⟨rfl | h1, h2⟩
        · exact .inl rfl
        · exact .inr ⟨h1, h2⟩
theorem lk_finM : ∀ {es : List En} {m : List (Nat × AV)} {i : Nat} {x : AV}, lk (finM es m) i = some x → (∃ e ∈ es, e.d = i ∧ e.v = x) ∨ ((∀ e ∈ es, e.d ≠ i) ∧ lk m i = some x)
  | [], m, i, x, h => .inr ⟨by simp, h⟩
  | e :: r, m, i, x, h => by
    simp only [finM, lk] at h
    split at h
    · rename_i he; cases h; exact .inl ⟨e, by simp, he, rfl⟩
    · rename_i he
      rcases lk_finM h with ⟨e', h1, h2⟩ | ⟨h1, h2⟩
      · exact .inl ⟨e', by simp [h1], h2⟩
      · exact .inr ⟨fun e' h' => (List.mem_cons.1 h').elim (fun q => by subst q; exact he) (h1 e'), h2⟩
theorem finM_none : ∀ {es : List En} {m : List (Nat × AV)} {i : Nat}, (∀ e ∈ es, e.d ≠ i) → lk (finM es m) i = lk m i
  | [], m, i, h => rfl
  | e :: r, m, i, h => by
    simp only [finM, lk]
    rw [if_neg (h e (by simp)), finM_none (fun e' h' => h e' (by simp [h']))]
theorem finM_get : ∀ {es : List En} {m : List (Nat × AV)} {e : En}, e ∈ es → (∀ a ∈ es, ∀ b ∈ es, a.d = b.d → a = b) → lk (finM es m) e.d = some e.v
  | x :: r, m, e, he, hu => by
    simp only [finM, lk]
    split
    · rename_i h; rw [hu x (by simp) e he h]
    · rename_i h
      rcases List.mem_cons.1 he with rfl | he
      · exact (h rfl).elim
      · exact finM_get he (fun a ha b hb => hu a (by simp [ha]) b (by simp [hb]))
theorem lk_finO : ∀ {es : List En} {m : List (Nat × Nd)} {i : Nat} {x : Nd}, lk (finO es m) i = some x → (∃ e ∈ es, lk e.o i = some x) ∨ lk m i = some x
  | [], m, i, x, h => .inr h
  | e :: r, m, i, x, h => by
    simp only [finO] at h
    rw [lk_append] at h
    split at h
    · rename_i y hy; cases h; exact .inl ⟨e, by simp, hy⟩
    · rcases lk_finO h with ⟨e', h1, h2⟩ | h1
      · exact .inl ⟨e', by simp [h1], h2⟩
      · exact .inr h1
theorem finO_get : ∀ {es : List En} {m : List (Nat × Nd)} {i : Nat} {x : Nd}, (∀ e ∈ es, ∀ y, lk e.o i = some y → y = x) → ((∃ e ∈ es, lk e.o i = some x) ∨ lk m i = some x) → lk (finO es m) i = some x
  | [], m, i, x, _, h => h.elim (fun ⟨e, he, _⟩ => by cases he) id
  | e :: r, m, i, x, hu, h => by
    simp only [finO]
    rw [lk_append]
    split
    · rename_i y hy; rw [hu e (by simp) y hy]
    · rename_i hy
      refine finO_get (fun e' h' => hu e' (by simp [h'])) ?_
      rcases h with ⟨e', he, h2⟩ | h
      · rcases List.mem_cons.1 he with rfl | he
        · rw [hy] at h2; cases h2
        · exact .inl ⟨e', he, h2⟩
      · exact .inr h
theorem fltM_lk {ds : List Nat} : ∀ {m : List (Nat × AV)} {i : Nat} {x : AV}, lk (fltM ds m) i = some x → ds.contains i = false ∧ lk m i = some x
  | [], i, x, h => by simp [fltM, lk] at h
  | p :: r, i, x, h => by
    obtain ⟨j, y⟩ := p
    simp only [fltM, memN_eq] at h
    cases hc : ds.contains j
    · rw [hc] at h
      simp only [cond_false, lk] at h
      split at h
      · rename_i e; subst e; exact ⟨hc, by simp [lk, h]⟩
      · rename_i e
        obtain ⟨h1, h2⟩ := fltM_lk h
        exact ⟨h1, by simp [lk, e, h2]⟩
    · rw [hc] at h
      simp only [cond_true] at h
      obtain ⟨h1, h2⟩ := fltM_lk h
      refine ⟨h1, ?_⟩
      simp only [lk]
      rw [if_neg]
      · exact h2
      · rintro rfl; rw [hc] at h1; cases h1
theorem fltM_get {ds : List Nat} : ∀ {m : List (Nat × AV)} {i : Nat}, ds.contains i = false → lk (fltM ds m) i = lk m i
  | [], i, h => rfl
  | p :: r, i, h => by
    obtain ⟨j, y⟩ := p
    simp only [fltM, memN_eq, lk]
    cases hc : ds.contains j
    · simp only [cond_false, lk, fltM_get (m := r) h]
    · simp only [cond_true]
      rw [if_neg (by rintro rfl; rw [hc] at h; cases h), fltM_get h]
end Go.AM
/- The abstract machine, 22: regions that draw their order, where what allocates is not ordered: the law. -/
namespace Go.AM
open Go
def lstU (P : Program) (G : List (Nat × List Value)) (R : AS) : Op → Option (Prop × TypeId × Nat × Nat × List (List AV))
  | .buildSlice T len parts => match tyOf P T, evs R G (parts.toList.map (·.2)) with
    | some ⟨.slice e, _, _, _⟩, some c => match tyOf P e with
      | some ⟨_, sz, _, some _⟩ => match elsL sz 0 (parts.toList.map (·.1)) c with
        | some els => some (pureL c = true ∧ len = els.length ∧ len * sz ≤ 16777216, e, sz, len, els)
        | none => none
      | _ => none
    | _, _ => none
  | _ => none
def CallU (P : Program) (G : List (Nat × List Value)) (R : AS) (g : Nat) (xs : List AV) (r k : Nat) (kont : AV → List (Nat × Nd) → Prop) : Prop :=
  ∃ ys res os, Con P G g ys [] 0 (Is res os k) No ∧ borL R xs = some ys ∧ PT res ∧ (∀ p ∈ os, PTNd p.2) ∧ (∀ p ∈ os, p.1 < k) ∧ (k = 0 → ren (· + R.n) res = ren (· + r) res) ∧ (0 < k → ren (by_ (rho R.n r k)) (ren (· + r) res) = ren (· + R.n) res ∧ mapO (by_ (rho R.n r k)) (shO r os) = shO R.n os) ∧ kont (ren (· + r) res) (shO r os)
/-- What an operation makes, with its numbers from r on. -/
def MakesU (P : Program) (E : Env) (R : AS) (op : Op) (r k : Nat) (kont : AV → List (Nat × Nd) → Prop) : Prop :=
  match op with
  | .buildSlice T len parts => match lstU P E.G R (.buildSlice T len parts) with
    | some (c, e, sz, len, els) => c ∧ k = 1 ∧ kont (.s r 0 len) [(r, .lst e sz els)]
    | none => False
  | .call { callee := .value f, args, .. } => match ev R E.G f, evs R E.G args.toList with
    | some (.fn g caps), some xs => CallU P E.G R g (xs ++ caps) r k kont
    | _, _ => False
  | op => match qv P E.G R op with
    | some v => k = 0 ∧ kont v []
    | none => False
def fixO (f : Nat → Nat) : List (Nat × Nd) → Prop
  | [] => True
  | x :: r => renNd f x.2 = x.2 ∧ fixO f r
theorem fixO_mem {f : Nat → Nat} : ∀ {o : List (Nat × Nd)}, fixO f o → ∀ x ∈ o, renNd f x.2 = x.2
  | y :: r, h, x, hx => by
    rcases List.mem_cons.1 hx with rfl | hx
    · exact h.1
    · exact fixO_mem h.2 x hx
def fixU (M n0 : Nat) : List (Nat × Nat) → AV → List (Nat × Nd) → Prop
  | [], _, _ => True
  | q :: r, v, o => (ren (by_ (rho M (n0 + q.1) q.2)) v = v ∧ fixO (by_ (rho M (n0 + q.1) q.2)) o) ∧ fixU M n0 r v o
theorem fixU_mem {M n0 : Nat} : ∀ {l : List (Nat × Nat)} {v : AV} {o : List (Nat × Nd)} {q : Nat × Nat}, fixU M n0 l v o → q ∈ l → ren (by_ (rho M (n0 + q.1) q.2)) v = v ∧ ∀ x ∈ o, renNd (by_ (rho M (n0 + q.1) q.2)) x.2 = x.2
  | q :: r, v, o, q', h, hq => by
    rcases List.mem_cons.1 hq with rfl | hq
    · exact ⟨h.1.1, fixO_mem h.1.2⟩
    · exact fixU_mem h.2 hq
def exU (P : Program) (E : Env) (N : Nat) (ds : List (Option Nat)) (kp : AV → AS → Prop) (tail : List Oper) (n0 : Nat) (bs : AS) : List PU → List Oper → Nat → List En → (AS → Prop) → Prop
  | _, [], _, es, K => ex P E N ds kp tail (stE bs es) K
  | [], _ :: _, _, _, _ => False
  | p :: pl, o :: rest, j, es, K => o.guard = none ∧ match o.dst with
    | none => False
    | some d => MakesU P E (stE bs (fltE p.anc es)) o.op (n0 + p.r) p.k (fun v oo => fixU bs.n n0 p.chk v oo ∧ exU P E N ds kp tail n0 bs pl rest (j + 1) (⟨j, d, v, oo⟩ :: es) K)
section
variable {P : Program} {E : Env} {N : Nat}
structure PropE (P : Program) (E : Env) (N : Nat) (bs : AS) (n0 : Nat) (L : List En) (j : Nat) (o : Oper) (p : PU) (e : En) : Prop where
  i : e.i = j
  g : o.guard = none
  d : o.dst = some e.d
  fr : ∃ vM oM, FreshW P E N (stE bs (fltE p.anc (L.take j).reverse)) o vM oM p.k ∧ (p.k = 0 → vM = e.v ∧ oM = e.o) ∧ (0 < p.k → vM = ren (by_ (rho bs.n (n0 + p.r) p.k)) e.v ∧ oM = mapO (by_ (rho bs.n (n0 + p.r) p.k)) e.o)
  fix : fixU bs.n n0 p.chk e.v e.o
  keys : ∀ x ∈ e.o, n0 + p.r ≤ x.1 ∧ x.1 < n0 + p.r + p.k
theorem makes_out {R : AS} {o : Oper} {r k : Nat} {kont : AV → List (Nat × Nd) → Prop} (hd : ∀ i, o.dst = some i → i < N) (hr : r + k ≤ R.n) (h : MakesU P E R o.op r k kont) :
    ∃ v oo vM oM, kont v oo ∧ FreshW P E N R o vM oM k ∧ (k = 0 → vM = v ∧ oM = oo) ∧ (0 < k → vM = ren (by_ (rho R.n r k)) v ∧ oM = mapO (by_ (rho R.n r k)) oo) ∧ ∀ x ∈ oo, r ≤ x.1 ∧ x.1 < r + k := by
  obtain ⟨dst, op, ty, pos, aft, gd⟩ := o
  simp only at h hd
  unfold MakesU at h
  split at h
  · rename_i T len parts
    split at h
    · rename_i c e sz len' els hl
      obtain ⟨hc, rfl, hk⟩ := h
      simp only [lstU] at hl
      split at hl
      · rename_i e1 s1 b1 z1 c1 hT he
        split at hl
        · rename_i k2 sz2 b2 z2 hTe
          split at hl
          · rename_i els2 hels
            simp only [Option.some.injEq, Prod.mk.injEq] at hl
            obtain ⟨rfl, rfl, rfl, rfl, rfl⟩ := hl
            refine ⟨_, _, _, _, hk, fresh_list hd rfl hT hTe he hc.1 hels hc.2, fun h0 => (by cases h0), fun _ => ?_, fun x hx => ?_⟩
            · have e1 : by_ (rho R.n r 1) r = R.n := by rw [by_rho (by omega)]; simp
              simp [ren, mapO, renNd, e1]
            · simp only [List.mem_singleton] at hx; subst hx; exact ⟨Nat.le_refl _, by simp⟩
          · cases hl
        · cases hl
      · cases hl
    · exact h.elim
  · rename_i f args ats
    split at h
    · rename_i g caps xs hf hx
      obtain ⟨ys, res, os, hc, hb, hp, hp', hkeys, e1, e2, hk⟩ := h
      refine ⟨_, _, _, _, hk, fresh_call hd rfl hf hx hc hb hp hp', fun h0 => ?_, fun h0 => ⟨(e2 h0).1.symm, (e2 h0).2.symm⟩, fun x hx => ?_⟩
      · subst h0
        have ho : os = [] := by
          cases os with
          | nil => rfl
          | cons p r => exact absurd (hkeys p (by simp)) (by omega)
        subst ho
        exact ⟨e1 rfl, rfl⟩
      · simp only [shO, List.mem_map] at hx
        obtain ⟨p, hp1, rfl⟩ := hx
        have := hkeys p hp1
        simp only; omega
    · exact h.elim
  · rename_i hq
    split at h
    · rename_i v hv
      obtain ⟨rfl, hk⟩ := h
      exact ⟨v, [], v, [], hk, fresh_q hd hv, fun _ => ⟨rfl, rfl⟩, fun h0 => (by omega), fun x hx => by cases hx⟩
    · exact h.elim
theorem exU_out {ds : List (Option Nat)} {kp : AV → AS → Prop} {tail : List Oper} {n0 : Nat} {bs : AS} {K : AS → Prop} : ∀ {ops : List Oper} {pl : List PU} {j : Nat} {es : List En}, es.length = j → (∀ o ∈ ops, ∀ i, o.dst = some i → i < N) → (∀ p ∈ pl, n0 + p.r + p.k ≤ bs.n) →
    exU P E N ds kp tail n0 bs pl ops j es K → ∃ L : List En, L.take j = es.reverse ∧ L.length = j + ops.length ∧ (∀ t, t < ops.length → ∃ o p e, ops[t]? = some o ∧ pl[t]? = some p ∧ L[j + t]? = some e ∧ PropE P E N bs n0 L (j + t) o p e) ∧ ex P E N ds kp tail (stE bs L.reverse) K
  | [], pl, j, es, hj, _, _, h => by
    have h' : ex P E N ds kp tail (stE bs es) K := by cases pl <;> exact h
    refine ⟨es.reverse, List.take_of_length_le (by rw [List.length_reverse, hj]; exact Nat.le_refl _), by simp [hj], fun t ht => by simp at ht, ?_⟩
    rw [List.reverse_reverse]; exact h'
  | o :: rest, [], j, es, hj, _, _, h => h.elim
  | o :: rest, p :: pl, j, es, hj, hd, hp, h => by
    simp only [exU] at h
    obtain ⟨hg, h⟩ := h
    split at h
    · exact h.elim
    · rename_i d hdst
      obtain ⟨v, oo, vM, oM, ⟨hfix, hrest⟩, hfr, hk0, hk1, hkeys⟩ := makes_out (N := N) (R := stE bs (fltE p.anc es)) (hd o (by simp)) (hp p (by simp)) h
      obtain ⟨L, h1, h2, h3, h4⟩ := exU_out (by simp [hj]) (fun o' ho' => hd o' (by simp [ho'])) (fun p' hp' => hp p' (by simp [hp'])) hrest
      have hLj : L[j]? = some ⟨j, d, v, oo⟩ := by
        have : (L.take (j + 1))[j]? = L[j]? := List.getElem?_take_of_lt (by omega)
        rw [← this, h1]; simp [hj]
      have htk : L.take j = es.reverse := by
        have : (L.take (j + 1)).take j = L.take j := by rw [List.take_take]; congr 1; omega
        rw [← this, h1]; simp [hj]
      refine ⟨L, htk, by simp [h2]; omega, fun t ht => ?_, h4⟩
      cases t with
      | zero =>
        refine ⟨o, p, ⟨j, d, v, oo⟩, rfl, rfl, hLj, ⟨rfl, hg, hdst, ⟨vM, oM, ?_, hk0, hk1⟩, hfix, hkeys⟩⟩
        rw [Nat.add_zero, htk, List.reverse_reverse]; exact hfr
      | succ t =>
        obtain ⟨o', p', e', q1, q2, q3, q4⟩ := h3 t (by simpa using ht)
        have e1 : j + 1 + t = j + (t + 1) := by omega
        rw [e1] at q3 q4
        exact ⟨o', p', e', by simpa using q1, by simpa using q2, q3, q4⟩
/-- A plan is right. -/
def okU (ops : Array Oper) (n : Nat) (pl : List PU) (tot : Nat) (dss : List Nat) : Bool :=
  decide (pl.length = n) && (decide (n = ops.size) || (Region.sinkB .any ops n && Region.chainB .any ops n && decide (n < ops.size))) &&
  ((List.range n).all fun i => match ops[i]?, pl[i]? with
    | some o, some p => (match o.dst with | some d => dss.contains d | none => false) && (o.after.toList.all fun e => !Region.binds .any e || decide (e.on < i)) &&
      (p.anc.all fun a => o.after.toList.any fun e => Region.binds .any e && (e.on == a || (match pl[e.on]? with | some q => q.anc.contains a | none => false))) &&
      decide (p.r + p.k ≤ tot) && ((List.range n).all fun h => h == i || (match ops[h]?, pl[h]? with
        | some oh, some q => !(oh.dst == o.dst) && (q.k == 0 || p.anc.contains h || p.chk.contains (q.r, q.k)) && decide (p.r + p.k ≤ q.r ∨ q.r + q.k ≤ p.r)
        | _, _ => false))
    | _, _ => false) &&
  Region.seqB .any ops (ops.size - n) n ((List.range ops.size).map fun i => decide (i < n)).toArray
theorem nodup_sub_len {α : Type} [DecidableEq α] : ∀ {l l' : List α}, l.Nodup → (∀ x ∈ l, x ∈ l') → l.length ≤ l'.length
  | [], _, _, _ => Nat.zero_le _
  | x :: r, l', h, hs => by
    obtain ⟨h1, h2⟩ := List.nodup_cons.1 h
    have hx := hs x (by simp)
    have := nodup_sub_len (l' := l'.erase x) h2 (fun y hy => (List.mem_erase_of_ne (fun e => by subst e; exact h1 hy)).2 (hs y (by simp [hy])))
    rw [List.length_erase_of_mem hx] at this
    have := List.length_pos_of_mem hx
    simp only [List.length_cons]; omega
end
end Go.AM
/- The abstract machine, 23: regions that draw their order, where what allocates is not ordered: whatever order. -/
namespace Go.AM
open Go
section
variable {P : Program} {E : Env} {N : Nat}
/-- What a plan that is right gives. -/
structure OkU (ops : Array Oper) (n : Nat) (pl : List PU) (tot : Nat) (dss : List Nat) : Prop where
  len : pl.length = n
  le : n ≤ ops.size
  head : ∀ s, HeadInv .any ops n s → ∀ i, i < n → s.getD i true = false → ∀ j ∈ Region.ready .any ops s, j < n
  dst : ∀ (i : Nat) o p, i < n → ops[i]? = some o → pl[i]? = some p → ∃ d, o.dst = some d ∧ dss.contains d = true
  back : ∀ (i : Nat) o, i < n → ops[i]? = some o → ∀ e ∈ o.after, Region.binds .any e = true → e.on < i
  anc : ∀ (i : Nat) o p, i < n → ops[i]? = some o → pl[i]? = some p → ∀ a ∈ p.anc, ∃ e ∈ o.after, Region.binds .any e = true ∧ (e.on = a ∨ ∃ q, pl[e.on]? = some q ∧ a ∈ q.anc)
  tot : ∀ (i : Nat) p, i < n → pl[i]? = some p → p.r + p.k ≤ tot
  pair : ∀ (i h : Nat) o p oh q, i < n → h < n → h ≠ i → ops[i]? = some o → pl[i]? = some p → ops[h]? = some oh → pl[h]? = some q → oh.dst ≠ o.dst ∧ (q.k = 0 ∨ h ∈ p.anc ∨ (q.r, q.k) ∈ p.chk) ∧ (p.r + p.k ≤ q.r ∨ q.r + q.k ≤ p.r)
  seq : Region.seqB .any ops (ops.size - n) n ((List.range ops.size).map fun i => decide (i < n)).toArray = true
theorem okU_spec {ops : Array Oper} {n : Nat} {pl : List PU} {tot : Nat} {dss : List Nat} (h : okU ops n pl tot dss = true) : OkU ops n pl tot dss := by
  simp only [okU, Bool.and_eq_true, decide_eq_true_eq] at h
  obtain ⟨⟨⟨h1, h2⟩, h3⟩, h4⟩ := h
  have hle : n ≤ ops.size := by
    rcases Bool.or_eq_true _ _ ▸ h2 with h2 | h2
    · exact Nat.le_of_eq (of_decide_eq_true h2)
    · simp only [Bool.and_eq_true, decide_eq_true_eq] at h2; exact Nat.le_of_lt h2.2
  have key : ∀ (i : Nat) o p, i < n → ops[i]? = some o → pl[i]? = some p → _ := fun i o p hi ho hp => (by
    have := List.all_eq_true.1 h3 i (by simpa using hi)
    rw [ho, hp] at this
    exact this)
  refine ⟨h1, hle, ?_, fun i o p hi ho hp => ?_, fun i o hi ho e he hb => ?_, fun i o p hi ho hp a ha => ?_, fun i p hi hp => ?_, fun i h o p oh q hi hh hne ho hp hoh hq => ?_, h4⟩
  · intro s inv i hi hs j hj
    rcases Bool.or_eq_true _ _ ▸ h2 with b2 | b2
    · have := of_decide_eq_true b2
      obtain ⟨_, oj, hoj, _⟩ := mem_ready.1 hj
      rw [this]; exact (Array.getElem?_eq_some_iff.1 hoj).1
    · simp only [Bool.and_eq_true, decide_eq_true_eq] at b2
      by_cases h : j < n
      · exact h
      · exact absurd hj (tail_waits b2.1.1 b2.1.2 b2.2 inv _ i rfl hi hs j (by omega))
  · have := key i o p hi ho hp
    simp only [Bool.and_eq_true] at this
    obtain ⟨⟨⟨⟨g1, _⟩, _⟩, _⟩, _⟩ := this
    split at g1
    · rename_i d hd; exact ⟨d, hd, g1⟩
    · cases g1
  · obtain ⟨p, hp⟩ : ∃ p, pl[i]? = some p := ⟨pl[i]'(by omega), by simp⟩
    have := key i o p hi ho hp
    simp only [Bool.and_eq_true] at this
    obtain ⟨⟨⟨⟨_, g2⟩, _⟩, _⟩, _⟩ := this
    have := List.all_eq_true.1 g2 e (by simpa using he)
    simpa [hb] using this
  · have := key i o p hi ho hp
    simp only [Bool.and_eq_true] at this
    obtain ⟨⟨⟨⟨_, _⟩, g3⟩, _⟩, _⟩ := this
    obtain ⟨e, he, h5⟩ := List.any_eq_true.1 (List.all_eq_true.1 g3 a ha)
    simp only [Bool.and_eq_true, Bool.or_eq_true, beq_iff_eq] at h5
    refine ⟨e, by simpa using he, h5.1, h5.2.imp id fun h6 => ?_⟩
    split at h6
    · rename_i q hq; exact ⟨q, hq, by simpa using h6⟩
    · cases h6
  · obtain ⟨o, ho⟩ : ∃ o, ops[i]? = some o := ⟨ops[i]'(by omega), by simp⟩
    have := key i o p hi ho hp
    simp only [Bool.and_eq_true, decide_eq_true_eq] at this
    exact this.1.2
  · have := key i o p hi ho hp
    simp only [Bool.and_eq_true, decide_eq_true_eq] at this
    have := List.all_eq_true.1 this.2 h (by simpa using hh)
    rw [hoh, hq] at this
    simp only [Bool.or_eq_true, Bool.and_eq_true, beq_iff_eq, decide_eq_true_eq, Bool.not_eq_true', beq_eq_false_iff_ne, ne_eq] at this
    obtain ⟨⟨g1, g2⟩, g3⟩ := this.resolve_left hne
    refine ⟨g1, ?_, g3⟩
    rcases g2 with (g2 | g2) | g2
    · exact .inl g2
    · exact .inr (.inl (by simpa using g2))
    · exact .inr (.inr (by simpa using g2))
theorem lk_mapO_get {φ : Nat → Nat} : ∀ {o : List (Nat × Nd)} {i : Nat} {x : Nd}, (∀ p ∈ o, φ p.1 = φ i → p.1 = i) → lk o i = some x → lk (mapO φ o) (φ i) = some (renNd φ x)
  | [], i, x, _, h => by simp [lk] at h
  | (j, y) :: r, i, x, hi, h => by
    simp only [lk] at h
    simp only [mapO, List.map_cons, lk]
    split at h
    · rename_i e; subst e; cases h; rw [if_pos rfl]
    · rename_i e
      rw [if_neg (fun e2 => e (hi (j, y) (by simp) e2))]
      exact lk_mapO_get (fun p hp => hi p (by simp [hp])) h
theorem mapO_none {φ : Nat → Nat} {o : List (Nat × Nd)} {i : Nat} (h : ∀ p ∈ o, φ p.1 ≠ i) : lk (mapO φ o) i = none := by
  induction o with
  | nil => rfl
  | cons p r ih =>
    obtain ⟨j, y⟩ := p
    simp only [mapO, List.map_cons, lk]
    rw [if_neg (h (j, y) (by simp))]
    exact ih (fun p hp => h p (by simp [hp]))
theorem anyU {ops : Array Oper} {n : Nat} {pl : List PU} {tot : Nat} {dss : List Nat} {L : List En} {bs : AS} {n0 : Nat} {Q : Exit → Act → World → Prop} {g : Nat} (ok : OkU ops n pl tot dss) (hL : L.length = n) (hM : bs.n = n0 + tot) (hbig : bs.n + tot ≤ 1000000000) (hE : E.th0.length ≤ n0)
    (hprop : ∀ j, j < n → ∃ o p e, ops[j]? = some o ∧ pl[j]? = some p ∧ L[j]? = some e ∧ PropE P E N bs n0 L j o p e)
    (hbm : ∀ i x, lk bs.m i = some x → dss.contains i = false ∧ ∀ f : Nat → Nat, (∀ i, i < n0 → f i = i) → ren f x = x) (hbo : ∀ i nd, lk bs.o i = some nd → i < n0 ∧ ∀ f : Nat → Nat, (∀ i, i < n0 → f i = i) → renNd f nd = nd)
    (hend : ∀ lD th z a w, (∀ e ∈ lD, L[e.i]? = some e) → (∀ e ∈ L, e ∈ lD) → Sim E N (stE bs lD) th z a w → wpAny P .any ops Q g ((List.range ops.size).map fun i => decide (i < n)).toArray a w) :
    ∀ (f : Nat) (lD : List En) (s : Array Bool) (th : List NLoc) (z : Zone) (a : Act) (w : World), HeadInv .any ops n s → f + lD.length = n → (∀ e ∈ lD, e.i < n ∧ L[e.i]? = some e) → (lD.map (·.i)).Nodup → (∀ i, i < n → (s.getD i false = true ↔ ∃ e ∈ lD, e.i = i)) →
      (∀ e ∈ lD, ∀ p, pl[e.i]? = some p → ∀ x ∈ p.anc, ∃ e' ∈ lD, e'.i = x) → Sim E N (stE bs lD) th z a w → wpAny P .any ops Q (f + g) s a w := by
  have same : ∀ {a b : En}, L[a.i]? = some a → L[b.i]? = some b → a.i = b.i → a = b := fun {a b} h1 h2 h => by rw [h] at h1; exact Option.some.inj (h1.symm.trans h2)
  have range : (List.range n).Nodup := List.nodup_range
  intro f
  induction f with
  | zero =>
    intro lD s th z a w inv hlen hmem hnd hs hanc hsim
    have hall : ∀ i, i < n → ∃ e ∈ lD, e.i = i := by
      intro i hi
      apply Classical.byContradiction
      intro hno
      have h1 : (i :: lD.map (·.i)).Nodup := List.nodup_cons.2 ⟨fun h => by
        obtain ⟨e, he, rfl⟩ := List.mem_map.1 h
        exact hno ⟨e, he, rfl⟩, hnd⟩
      have := nodup_sub_len (l' := List.range n) h1 (fun x hx => by
        rcases List.mem_cons.1 hx with rfl | hx
        · simpa using hi
        · obtain ⟨e, he, rfl⟩ := List.mem_map.1 hx
          simpa using (hmem e he).1)
      simp at this; omega
    have hsF : s = ((List.range ops.size).map fun i => decide (i < n)).toArray := by
      apply Array.ext
      · simp [inv.size]
      · intro i h1 h2
        simp only [List.getElem_toArray, List.getElem_map, List.getElem_range]
        by_cases hi : i < n
        · have := (hs i hi).2 (hall i hi)
          simp [h1] at this
          simp [this, hi]
        · have := inv.tail i (by omega) (by rw [← inv.size]; exact h1)
          simp [h1] at this
          simp [this, hi]
    rw [Nat.zero_add, hsF]
    refine hend lD th z a w (fun e he => (hmem e he).2) (fun e he => ?_) hsim
    obtain ⟨i, hi, rfl⟩ := List.mem_iff_getElem.1 he
    rw [hL] at hi
    obtain ⟨e', he', h2⟩ := hall i hi
    obtain ⟨o, p, e, _, _, q3, q4⟩ := hprop i hi
    have h3 := (hmem e' he').2
    rw [h2] at h3
    have : L[i]'(by omega) = e' := by
      have := List.getElem?_eq_some_iff.1 h3
      exact this.2
    rw [this]; exact he'
  | succ f ih =>
    intro lD s th z a w inv hlen hmem hnd hs hanc hsim
    have hund : ∀ i, i < n → (¬ ∃ e ∈ lD, e.i = i) → s.getD i true = false := by
      intro i hi hno
      refine getD_in (by rw [inv.size]; have := ok.le; omega) ?_
      cases hv : s.getD i false with
      | false => rfl
      | true => exact (hno ((hs i hi).1 hv)).elim
    have hready : Region.ready .any ops s ≠ [] := by
      have hex : ∃ i, i < n ∧ ¬ ∃ e ∈ lD, e.i = i := by
        apply Classical.byContradiction
        intro hno
        have := nodup_sub_len (l' := lD.map (·.i)) range (fun i hi => by
          have hi : i < n := by simpa using hi
          have : ∃ e ∈ lD, e.i = i := Classical.byContradiction fun h => hno ⟨i, hi, h⟩
          obtain ⟨e, he, rfl⟩ := this
          exact List.mem_map_of_mem he)
        simp at this; omega
      obtain ⟨i0, hi0⟩ := hex
      obtain ⟨i, ⟨hi, hno⟩, hmin⟩ := exists_min (fun i => i < n ∧ ¬ ∃ e ∈ lD, e.i = i) i0 hi0
      obtain ⟨o, p, e, q1, q2, q3, q4⟩ := hprop i hi
      have : i ∈ Region.ready .any ops s := mem_ready.2 ⟨hund i hi hno, o, q1, fun e he hb => by
        have hlt := ok.back i o hi q1 e he hb
        refine (hs e.on (by omega)).2 (Classical.byContradiction fun h => ?_)
        have := hmin e.on ⟨by omega, h⟩
        omega⟩
      intro h; rw [h] at this; cases this
    rw [show f + 1 + g = (f + g) + 1 by omega]
    refine ⟨fun h => absurd h hready, fun i hir => ?_⟩
    have hun := (mem_ready.1 hir).1
    have hi : i < n := by
      obtain ⟨i0, hi0⟩ : ∃ i, i < n ∧ ¬ ∃ e ∈ lD, e.i = i := by
        apply Classical.byContradiction
        intro hno
        have := nodup_sub_len (l' := lD.map (·.i)) range (fun i hi => by
          have hi : i < n := by simpa using hi
          have : ∃ e ∈ lD, e.i = i := Classical.byContradiction fun h => hno ⟨i, hi, h⟩
          obtain ⟨e, he, rfl⟩ := this
          exact List.mem_map_of_mem he)
        simp at this; omega
      exact ok.head s inv i0 hi0.1 (hund i0 hi0.1 hi0.2) i hir
    obtain ⟨_, o', ho', hdeps⟩ := mem_ready.1 hir
    obtain ⟨o, p, e, q1, q2, q3, ⟨ei, eg, ed, ⟨vM, oM, hfr, hk0, hk1⟩, efix, ekeys⟩⟩ := hprop i hi
    obtain rfl : o' = o := Option.some.inj (ho'.symm.trans q1)
    have hnot : ¬ ∃ e ∈ lD, e.i = i := fun h => by
      have := (hs i hi).2 h
      rw [getD_both hun] at this; cases this
    have hancD : ∀ x ∈ p.anc, ∃ e' ∈ lD, e'.i = x := by
      intro x hx
      obtain ⟨ed', he', hb, h6⟩ := ok.anc i o' p hi q1 q2 x hx
      have hdone := hdeps ed' he' hb
      have hlt := ok.back i o' hi q1 ed' he' hb
      obtain ⟨e1, h7, h8⟩ := (hs ed'.on (by omega)).1 hdone
      rcases h6 with rfl | ⟨q, hq, hxq⟩
      · exact ⟨e1, h7, h8⟩
      · exact hanc e1 h7 q (by rw [h8]; exact hq) x hxq
    have epair : ∀ e1 ∈ lD, ∃ o1 p1, ops[e1.i]? = some o1 ∧ pl[e1.i]? = some p1 ∧ PropE P E N bs n0 L e1.i o1 p1 e1 ∧ e1.i ≠ i := by
      intro e1 he1
      obtain ⟨h1, h2⟩ := hmem e1 he1
      obtain ⟨o1, p1, e1', r1, r2, r3, r4⟩ := hprop e1.i h1
      rw [h2] at r3; cases r3
      exact ⟨o1, p1, r1, r2, r4, fun h => hnot ⟨e1, he1, h⟩⟩
    have hdist : ∀ a ∈ lD, ∀ b ∈ lD, a.d = b.d → a = b := by
      intro a ha b hb hab
      obtain ⟨o1, p1, r1, r2, r3, _⟩ := epair a ha
      obtain ⟨o2, p2, t1, t2, t3, _⟩ := epair b hb
      by_cases hne : b.i = a.i
      · exact same (hmem a ha).2 (hmem b hb).2 hne.symm
      · have := (ok.pair a.i b.i o1 p1 o2 p2 (hmem a ha).1 (hmem b hb).1 hne r1 r2 t1 t2).1
        rw [t3.d, r3.d, hab] at this; exact (this rfl).elim
    have hle : (stE bs (fltE p.anc (L.take i).reverse)).le (stE bs lD) := by
      have hin : ∀ e1 ∈ fltE p.anc (L.take i).reverse, e1 ∈ lD := by
        intro e1 he1
        obtain ⟨h1, h2⟩ := fltE_mem.1 he1
        obtain ⟨e2, h3, h4⟩ := hancD e1.i (by simpa using h2)
        obtain ⟨k, hk, hk2⟩ := List.mem_iff_getElem.1 (List.mem_of_mem_take (List.mem_reverse.1 h1))
        have hkn : k < n := by omega
        obtain ⟨_, _, e3, _, _, u3, u4⟩ := hprop k hkn
        have : e3 = e1 := by
          have := List.getElem?_eq_some_iff.1 u3
          exact this.2.symm.trans hk2
        subst this
        have hl : L[e3.i]? = some e3 := by rw [u4.i]; exact u3
        rw [same hl (hmem e2 h3).2 h4.symm]; exact h3
      have hbase : ∀ e1 ∈ lD, dss.contains e1.d = true := by
        intro e1 he1
        obtain ⟨o1, p1, r1, r2, r3, _⟩ := epair e1 he1
        obtain ⟨d, h1, h2⟩ := ok.dst e1.i o1 p1 (hmem e1 he1).1 r1 r2
        rw [r3.d] at h1; cases h1; exact h2
      refine ⟨fun j x hj => ?_, fun j x hj => ?_⟩
      · rcases lk_finM hj with ⟨e1, h1, rfl, rfl⟩ | ⟨_, h2⟩
        · exact finM_get (hin e1 h1) hdist
        · show lk (finM lD bs.m) j = some x
          rw [finM_none (fun e1 he1 h => by have := hbase e1 he1; rw [h, (hbm j x h2).1] at this; cases this)]; exact h2
      · refine finO_get (fun e1 he1 y hy => ?_) ?_
        · obtain ⟨o1, p1, r1, r2, r3, _⟩ := epair e1 he1
          have hk1 := r3.keys _ (lk_mem hy)
          rcases lk_finO hj with ⟨e2, h1, h2⟩ | h2
          · obtain ⟨o2, p2, t1, t2, t3, _⟩ := epair e2 (hin e2 h1)
            have hk2 := t3.keys _ (lk_mem h2)
            by_cases hne : e2.i = e1.i
            · rw [same (hmem e2 (hin e2 h1)).2 (hmem e1 he1).2 hne, hy] at h2; exact Option.some.inj h2
            · have := (ok.pair e1.i e2.i o1 p1 o2 p2 (hmem e1 he1).1 (hmem e2 (hin e2 h1)).1 hne r1 r2 t1 t2).2.2
              simp only at hk1 hk2; omega
          · have := (hbo j x h2).1
            simp only at hk1; omega
        · rcases lk_finO hj with ⟨e2, h1, h2⟩ | h2
          · exact .inl ⟨e2, hin e2 h1, h2⟩
          · exact .inr h2
    have hptot := ok.tot i p hi q2
    unfold wpOp
    simp only [q1]
    have hw : Region.wanted o' (yielded ops a.tmps) = true := by simp [Region.wanted, eg]
    rw [if_pos hw]
    refine .inl (hfr (stE bs lD) th z a w hle rfl hsim _ _ (fun th' z' a' w' hS => ?_))
    have hnext : ∃ th'', Sim E N (stE bs (e :: lD)) th'' z' a' w' := by
      rw [ed] at hS
      by_cases hk : p.k = 0
      · obtain ⟨rfl, rfl⟩ := hk0 hk
        rw [hk] at hS
        exact ⟨th', hS⟩
      · obtain ⟨rfl, rfl⟩ := hk1 (by omega)
        refine ⟨_, hS.renL (rho bs.n (n0 + p.r) p.k) (rho_lt (by omega)) (by show bs.n + p.k ≤ 1000000000; omega) ?_ ?_ (by rw [rho_len]; rfl) ?_ rho_nodup⟩
        · intro j x hj
          have hj' : lk ((e.d, e.v) :: finM lD bs.m) j = some x := hj
          show lk ((e.d, ren (by_ (rho bs.n (n0 + p.r) p.k)) e.v) :: finM lD bs.m) j = _
          simp only [lk] at hj' ⊢
          split at hj'
          · rename_i h; cases hj'; rw [if_pos h]
          · rename_i h
            rw [if_neg h, hj']
            congr 1
            rcases lk_finM hj' with ⟨e1, h1, _, rfl⟩ | ⟨_, h2⟩
            · obtain ⟨o1, p1, r1, r2, r3, r4⟩ := epair e1 h1
              rcases (ok.pair e1.i i o1 p1 o' p (hmem e1 h1).1 hi (Ne.symm r4) r1 r2 q1 q2).2.1 with h5 | h5 | h5
              · exact (hk h5).elim
              · exact (hnot (hanc e1 h1 p1 r2 i h5)).elim
              · exact (fixU_mem r3.fix h5).1.symm
            · exact ((hbm j x h2).2 _ (fun i hi => by rw [by_rho (by omega), if_neg (by omega)])).symm
        · intro j nd hj
          have hj' : lk (e.o ++ finO lD bs.o) j = some nd := hj
          have eqS : ∀ j, lk (({ stE bs lD with o := mapO (by_ (rho bs.n (n0 + p.r) p.k)) e.o ++ (stE bs lD).o, n := (stE bs lD).n + p.k }.put (some e.d) (ren (by_ (rho bs.n (n0 + p.r) p.k)) e.v)).o) j = lk (mapO (by_ (rho bs.n (n0 + p.r) p.k)) e.o ++ finO lD bs.o) j := fun _ => rfl
          rw [lk_append] at hj'
          split at hj'
          · rename_i y hy; cases hj'
            have hkk := ekeys _ (lk_mem hy)
            simp only at hkk
            refine ⟨bs.n + (j - (n0 + p.r)), by rw [rho_get (by omega), if_pos (by omega)], ?_⟩
            have e1 : by_ (rho bs.n (n0 + p.r) p.k) j = bs.n + (j - (n0 + p.r)) := by rw [by_rho (by omega), if_pos (by omega)]
            rw [eqS, lk_append, ← e1, lk_mapO_get (fun q hq h => by
              have := ekeys q hq
              rw [by_rho (by omega), by_rho (by omega), if_pos (by omega), if_pos (by omega)] at h
              omega) hy]
          · rename_i hy
            have hjn : j < bs.n ∧ ¬ (n0 + p.r ≤ j ∧ j < n0 + p.r + p.k) ∧ renNd (by_ (rho bs.n (n0 + p.r) p.k)) nd = nd := by
              rcases lk_finO hj' with ⟨e1, h1, h2⟩ | h2
              · obtain ⟨o1, p1, r1, r2, r3, r4⟩ := epair e1 h1
                have hk1 := r3.keys _ (lk_mem h2)
                have ht1 := ok.tot e1.i p1 (hmem e1 h1).1 r2
                simp only at hk1
                have hp := ok.pair e1.i i o1 p1 o' p (hmem e1 h1).1 hi (Ne.symm r4) r1 r2 q1 q2
                refine ⟨by omega, by have := hp.2.2; omega, ?_⟩
                rcases hp.2.1 with h5 | h5 | h5
                · exact (hk h5).elim
                · exact (hnot (hanc e1 h1 p1 r2 i h5)).elim
                · exact (fixU_mem r3.fix h5).2 _ (lk_mem h2)
              · obtain ⟨h3, h4⟩ := hbo j nd h2
                exact ⟨by omega, by omega, h4 _ (fun i hi => by rw [by_rho (by omega), if_neg (by omega)])⟩
            refine ⟨j, by rw [rho_get hjn.1, if_neg hjn.2.1], ?_⟩
            rw [eqS, lk_append, mapO_none (fun q hq h => by
              have := ekeys q hq
              rw [by_rho (by omega), if_pos (by omega)] at h
              omega), hjn.2.2]
            exact hj'
        · intro j hj
          rw [rho_get (by omega), if_neg (by omega)]
    obtain ⟨th'', hS2⟩ := hnext
    refine ih (e :: lD) (s.setIfInBounds i true) th'' z' a' w' (inv.set hir hi) (by simp; omega) ?_ ?_ ?_ ?_ hS2
    · intro e1 he1
      rcases List.mem_cons.1 he1 with rfl | he1
      · rw [ei]; exact ⟨hi, q3⟩
      · exact hmem e1 he1
    · rw [List.map_cons, ei]
      exact List.nodup_cons.2 ⟨fun h => by
        obtain ⟨e1, h1, h2⟩ := List.mem_map.1 h
        exact hnot ⟨e1, h1, h2⟩, hnd⟩
    · intro j hj
      by_cases hij : i = j
      · subst hij
        refine ⟨fun _ => ⟨e, by simp, ei⟩, fun _ => ?_⟩
        have : i < s.size := by rw [inv.size]; have := ok.le; omega
        simp [this]
      · rw [getD_set_ne false hij, hs j hj]
        constructor
        · rintro ⟨e1, h1, h2⟩; exact ⟨e1, by simp [h1], h2⟩
        · rintro ⟨e1, h1, h2⟩
          rcases List.mem_cons.1 h1 with rfl | h1
          · exact (hij (ei.symm.trans h2)).elim
          · exact ⟨e1, h1, h2⟩
    · intro e1 he1 p1 hp1 x hx
      rcases List.mem_cons.1 he1 with rfl | he1
      · rw [ei, q2] at hp1; cases hp1
        obtain ⟨e2, h1, h2⟩ := hancD x hx
        exact ⟨e2, by simp [h1], h2⟩
      · obtain ⟨e2, h1, h2⟩ := hanc e1 he1 p1 hp1 x hx
        exact ⟨e2, by simp [h1], h2⟩
end
end Go.AM
/- The abstract machine, 24: regions that draw their order, where what allocates is not ordered: how they are run. -/
namespace Go.AM
open Go
section
variable {P : Program} {E : Env} {N : Nat} {st : AS}
theorem awp_du {id : Nat} {ops : Array Oper} {AQ : AExit → AS → Prop} {ds : List (Option Nat)} {l l' : List Oper} (hm : P.follows .mixedOrders = true) (n : Nat) (pl : List PU) (tot : Nat) (dss : List Nat) (hB : okU ops n pl tot dss = true) (hd : dstOK N ops = true) (hds : dsOf ops = ds) (ht : ops.toList.drop n = l') (hh : ops.toList.take n = l)
    {m' : List (Nat × AV)} {M : Nat} (hf : fltM dss st.m = m') (hM : st.n + tot = M) (hbig : M + tot ≤ 1000000000) (h : ∀ (K : AS → Prop) (kp : AV → AS → Prop), (∀ st', AQ .normal st' → K st') → (∀ x st', AQ (.pan x) st' → kp x st') → exU P E N ds kp l' st.n ⟨m', st.o, M⟩ pl l 0 [] K) : AWP P E N (.region id ops true) st AQ := by
  subst hds ht hh hf
  have h := h (AQ .normal) (fun x st => AQ (.pan x) st) (fun _ h => h) (fun _ _ h => h)
  have ok := okU_spec hB
  intro Q hQ th z a w hs
  let Q' : Exit → Act → World → Prop := fun e a w => match e with
    | .panic c => ∀ a' : Act, a'.defers = a.defers → Q (.panic c) a' w
    | e => Q e a w
  refine wp_mono (Q := Q') ?_ (fun e a w hq => by
    cases e
    case panic c => exact hq a rfl
    all_goals exact hq)
  refine wp_region_any hm ?_
  have hdst := dstOK_spec hd
  obtain ⟨L, _, hL, hprop, htail⟩ := exU_out (N := N) (es := []) (j := 0) rfl (fun o ho => hdst o (List.mem_of_mem_take ho)) (fun p hp => by
    obtain ⟨i, hi⟩ := List.mem_iff_getElem?.1 hp
    have hi' : i < n := by have := (List.getElem?_eq_some_iff.1 hi).1; have := ok.len; omega
    have := ok.tot i p hi' hi
    show st.n + p.r + p.k ≤ M
    omega) h
  have hlen : (ops.toList.take n).length = n := by have := ok.le; simp; omega
  rw [hlen, Nat.zero_add] at hL
  simp only [Nat.zero_add] at hprop
  have hprop' : ∀ j, j < n → ∃ o p e, ops[j]? = some o ∧ pl[j]? = some p ∧ L[j]? = some e ∧ PropE P E N ⟨fltM dss st.m, st.o, M⟩ st.n L j o p e := by
    intro j hj
    obtain ⟨o, p, e, q1, q2, q3, q4⟩ := hprop j (by omega)
    rw [List.getElem?_take_of_lt hj] at q1
    exact ⟨o, p, e, by simpa using q1, q2, q3, q4⟩
  have hs0 := hs.ext (ext_drew w)
  have hm0 := hs.mem.len
  have inv0 : HeadInv .any ops n (Array.replicate ops.size false) :=
    ⟨by simp, fun j oj _ hl => (by rw [getD_replicate_false] at hl; cases hl), fun t _ ht => getD_in (by simpa using ht) (getD_replicate_false _ _)⟩
  have hbase : Sim E N (stE ⟨fltM dss st.m, st.o, M⟩ []) (th ++ List.replicate tot ⟨0, 0, 0, 0, false⟩) z a w.drew :=
    (hs0.more tot).sub (by show M = st.n + tot; omega) (fun i x hi => hi) (fun i x hi => (fltM_lk hi).2)
  have hE : E.th0.length ≤ st.n := by
    apply Classical.byContradiction
    intro hno
    have := hs.mem.pre st.n E.th0[st.n] (by simp [show st.n < E.th0.length by omega])
    have := (List.getElem?_eq_some_iff.1 this).1
    omega
  have key := anyU (Q := Q') (g := ops.size - n) (bs := ⟨fltM dss st.m, st.o, M⟩) (n0 := st.n) ok hL hM.symm hbig hE hprop'
    (fun i x hi => by
      obtain ⟨h1, h2⟩ := fltM_lk hi
      refine ⟨h1, fun f hf => ?_⟩
      obtain ⟨y, _, hr⟩ := hs.slots i x h2
      exact hr.lt (fun i hi => hf i (by omega)))
    (fun i nd hi => by
      obtain ⟨L, h1, h2, _⟩ := hs.mem.nds i nd hi
      exact ⟨by have := (List.getElem?_eq_some_iff.1 h1).1; omega, fun f hf => h2.lt (fun i hi => hf i (by omega))⟩)
    (fun lD th' z' a' w' hin hall hsim => by
      have hsub : Sim E N (stE ⟨fltM dss st.m, st.o, M⟩ L.reverse) th' z' a' w' := by
        have hLi : ∀ e ∈ L, L[e.i]? = some e := fun e he => hin e (hall e he)
        have props : ∀ e ∈ L, ∃ o p, e.i < n ∧ ops[e.i]? = some o ∧ pl[e.i]? = some p ∧ PropE P E N ⟨fltM dss st.m, st.o, M⟩ st.n L e.i o p e := by
          intro e he
          have h1 := hLi e he
          have hlt : e.i < n := by have := (List.getElem?_eq_some_iff.1 h1).1; omega
          obtain ⟨o, p, e', q1, q2, q3, q4⟩ := hprop' e.i hlt
          rw [h1] at q3; cases q3
          exact ⟨o, p, hlt, q1, q2, q4⟩
        have back : ∀ e ∈ lD, e ∈ L := fun e he => List.mem_of_getElem? (hin e he)
        have hdist : ∀ a ∈ lD, ∀ b ∈ lD, a.d = b.d → a = b := by
          intro a ha b hb hab
          obtain ⟨o1, p1, l1, r1, r2, r3⟩ := props a (back a ha)
          obtain ⟨o2, p2, l2, t1, t2, t3⟩ := props b (back b hb)
          by_cases hne : b.i = a.i
          · have h1 := hin a ha
            have h2 := hin b hb
            rw [hne, h1] at h2; exact Option.some.inj h2
          · have := (ok.pair a.i b.i o1 p1 o2 p2 l1 l2 hne r1 r2 t1 t2).1
            rw [t3.d, r3.d, hab] at this; exact (this rfl).elim
        refine hsim.sub rfl (fun i x hi => ?_) (fun i x hi => ?_)
        · refine finO_get (fun e1 he1 y hy => ?_) ?_
          · obtain ⟨o1, p1, l1, r1, r2, r3⟩ := props e1 (back e1 he1)
            have hk1 := r3.keys _ (lk_mem hy)
            rcases lk_finO hi with ⟨e2, h1, h2⟩ | h2
            · obtain ⟨o2, p2, l2, t1, t2, t3⟩ := props e2 (List.mem_reverse.1 h1)
              have hk2 := t3.keys _ (lk_mem h2)
              by_cases hne : e2.i = e1.i
              · have g1 := hLi e2 (List.mem_reverse.1 h1)
                have g2 := hin e1 he1
                rw [hne, g2] at g1
                rw [← Option.some.inj g1, hy] at h2; exact Option.some.inj h2
              · have := (ok.pair e1.i e2.i o1 p1 o2 p2 l1 l2 hne r1 r2 t1 t2).2.2
                simp only at hk1 hk2; omega
            · obtain ⟨L', g1, _⟩ := hs.mem.nds i x h2
              have := (List.getElem?_eq_some_iff.1 g1).1
              simp only at hk1; omega
          · rcases lk_finO hi with ⟨e2, h1, h2⟩ | h2
            · exact .inl ⟨e2, hall e2 (List.mem_reverse.1 h1), h2⟩
            · exact .inr h2
        · rcases lk_finM hi with ⟨e2, h1, rfl, rfl⟩ | ⟨h1, h2⟩
          · exact finM_get (hall e2 (List.mem_reverse.1 h1)) hdist
          · show lk (finM lD _) i = _
            rw [finM_none (fun e1 he1 => h1 e1 (List.mem_reverse.2 (back e1 he1)))]; exact h2
      have := wpAny_of_seq (md := .any) (Q' := Q') (ops.toList.drop n) n ((List.range ops.size).map fun i => decide (i < n)).toArray a' w' (fun j => by simp [List.getElem?_drop]) (by simpa using ok.seq)
        (exec_sound (Q := Q') (K := AQ .normal) (kp := fun x st => AQ (.pan x) st) (fun x v st' th' z' a' w' g1 g2 g3 a2 ha => hQ.2.2.2 x v st' th' z' w' g1 g2.mem g3 a2 (ha.trans g2.dfs)) (fun st' th' z' a' w' g1 g2 => hQ.1 st' th' z' a' w' g1 g2) _ (fun o ho => hdst o (List.mem_of_mem_drop ho)) hsub (exec_of htail))
      simpa using this)
    n [] (Array.replicate ops.size false) _ z a w.drew inv0 (by simp) (by simp) (by simp) (fun i hi => by rw [getD_replicate_false]; simp) (by simp) hbase
  have e : n + (ops.size - n) = ops.size := by have := ok.le; omega
  rw [e] at key
  exact key
end
section
variable (P : Program) (E : Env) (N : Nat) (ds : List (Option Nat)) (kp : AV → AS → Prop) (tail : List Oper) (n0 : Nat) (bs : AS) (p : PU) (pl : List PU) (rest : List Oper) (j d : Nat) (es : List En) (K : AS → Prop)
def kontU (v : AV) (oo : List (Nat × Nd)) : Prop := fixU bs.n n0 p.chk v oo ∧ exU P E N ds kp tail n0 bs pl rest (j + 1) (⟨j, d, v, oo⟩ :: es) K
def goUQ (r : SR) : Prop := match r with
  | .val v _ => p.k = 0 ∧ kontU P E N ds kp tail n0 bs p pl rest j d es K v []
  | _ => False
def goUL (r : Option (Prop × TypeId × Nat × Nat × List (List AV))) : Prop := match r with
  | some (c, e, sz, len, els) => c ∧ p.k = 1 ∧ kontU P E N ds kp tail n0 bs p pl rest j d es K (.s (n0 + p.r) 0 len) [(n0 + p.r, .lst e sz els)]
  | none => False
def callU (R : AS) (g : Nat) (xs : List AV) : Prop := CallU P E.G R g xs (n0 + p.r) p.k (kontU P E N ds kp tail n0 bs p pl rest j d es K)
def goUC (R : AS) (f : Option AV) (xs : Option (List AV)) : Prop := match f, xs with
  | some (.fn g caps), some xs => callU P E N ds kp tail n0 bs p pl rest j d es K R g (xs ++ caps)
  | _, _ => False
def goU (q : Bool) (R : AS) (op : Op) : Prop := match q with
  | true => goUQ P E N ds kp tail n0 bs p pl rest j d es K (stepR P E.G R op)
  | false => MakesU P E R op (n0 + p.r) p.k (kontU P E N ds kp tail n0 bs p pl rest j d es K)
@[go_sem] theorem exU_nil (pl : List PU) : exU P E N ds kp tail n0 bs pl [] j es K = ex P E N ds kp tail (stE bs es) K := by cases pl <;> rfl
theorem makes_q (R : AS) (op : Op) (h : isQ op = true) (r k : Nat) (kont : AV → List (Nat × Nd) → Prop) : MakesU P E R op r k kont = (match stepR P E.G R op with | .val v _ => k = 0 ∧ kont v [] | _ => False) := by
  have key : ∀ x : Option AV, (match x with | some v => k = 0 ∧ kont v [] | none => False) = (match ofO R x with | .val v _ => k = 0 ∧ kont v [] | _ => False) := by
    intro x; cases x <;> rfl
  cases op
  case call c =>
    obtain ⟨callee, args, ats⟩ := c
    cases callee with
    | value f => simp [isQ] at h
    | builtin b => cases b <;> first | (simp [isQ] at h; done) | (rw [stepR_call_else (by simp) (by simp)]; exact key _)
    | invoke a b => simp [isQ] at h
  all_goals first | (simp [isQ] at h; done) | exact key _ | exact key none | rfl
@[go_sem] theorem exU_cons (op : Op) (t : TypeId) (pp : String) (af : Array Edge) : exU P E N ds kp tail n0 bs (p :: pl) (⟨some d, op, t, pp, af, none⟩ :: rest) j es K = goU P E N ds kp tail n0 bs p pl rest j d es K (isQ op) (stE bs (fltE p.anc es)) op := by
  have e : exU P E N ds kp tail n0 bs (p :: pl) (⟨some d, op, t, pp, af, none⟩ :: rest) j es K = MakesU P E (stE bs (fltE p.anc es)) op (n0 + p.r) p.k (kontU P E N ds kp tail n0 bs p pl rest j d es K) := by
    simp only [exU, true_and]; rfl
  rw [e]
  cases h : isQ op
  · rfl
  · exact makes_q P E _ op h _ _ _
@[go_sem] theorem goU_t (R : AS) (op : Op) : goU P E N ds kp tail n0 bs p pl rest j d es K true R op = goUQ P E N ds kp tail n0 bs p pl rest j d es K (stepR P E.G R op) := rfl
@[go_sem] theorem goU_list (R : AS) (T : TypeId) (len : Nat) (ps : Array (Nat × Operand)) : goU P E N ds kp tail n0 bs p pl rest j d es K false R (.buildSlice T len ps) = goUL P E N ds kp tail n0 bs p pl rest j d es K (lstU P E.G R (.buildSlice T len ps)) := rfl
@[go_sem] theorem goU_call (R : AS) (f : Operand) (args : Array Operand) (ats : Array TypeId) : goU P E N ds kp tail n0 bs p pl rest j d es K false R (.call { callee := .value f, args := args, argTypes := ats }) = goUC P E N ds kp tail n0 bs p pl rest j d es K R (ev R E.G f) (evs R E.G args.toList) := rfl
@[go_sem] theorem goUQ_val (v : AV) (s : AS) : goUQ P E N ds kp tail n0 bs p pl rest j d es K (.val v s) = (p.k = 0 ∧ kontU P E N ds kp tail n0 bs p pl rest j d es K v []) := rfl
@[go_sem] theorem goUL_some (c : Prop) (e : TypeId) (sz len : Nat) (els : List (List AV)) : goUL P E N ds kp tail n0 bs p pl rest j d es K (some (c, e, sz, len, els)) = (c ∧ p.k = 1 ∧ kontU P E N ds kp tail n0 bs p pl rest j d es K (.s (n0 + p.r) 0 len) [(n0 + p.r, .lst e sz els)]) := rfl
@[go_sem] theorem goUC_some (R : AS) (g : Nat) (caps xs : List AV) : goUC P E N ds kp tail n0 bs p pl rest j d es K R (some (.fn g caps)) (some xs) = callU P E N ds kp tail n0 bs p pl rest j d es K R g (xs ++ caps) := rfl
@[go_sem] theorem kontU_eq (v : AV) (oo : List (Nat × Nd)) : kontU P E N ds kp tail n0 bs p pl rest j d es K v oo = (fixU bs.n n0 p.chk v oo ∧ exU P E N ds kp tail n0 bs pl rest (j + 1) (⟨j, d, v, oo⟩ :: es) K) := rfl
end
section
variable {P : Program} {E : Env} {N : Nat} {ds : List (Option Nat)} {kp : AV → AS → Prop} {tail : List Oper} {n0 : Nat} {bs : AS} {p : PU} {pl : List PU} {rest : List Oper} {j d : Nat} {es : List En} {K : AS → Prop}
theorem callU_i {R : AS} {g : Nat} {xs ys : List AV} {res : AV} {os : List (Nat × Nd)} {k : Nat} (hc : Con P E.G g ys [] 0 (Is res os k) No) (hb : borL R xs = some ys) (hp : PT res) (hq : ∀ p ∈ os, PTNd p.2)
    (hx : k = p.k ∧ (∀ x ∈ os, x.1 < p.k) ∧ (p.k = 0 → ren (· + R.n) res = ren (· + (n0 + p.r)) res) ∧ (0 < p.k → ren (by_ (rho R.n (n0 + p.r) p.k)) (ren (· + (n0 + p.r)) res) = ren (· + R.n) res ∧ mapO (by_ (rho R.n (n0 + p.r) p.k)) (shO (n0 + p.r) os) = shO R.n os))
    (hk : kontU P E N ds kp tail n0 bs p pl rest j d es K (ren (· + (n0 + p.r)) res) (shO (n0 + p.r) os)) : callU P E N ds kp tail n0 bs p pl rest j d es K R g xs := by
  obtain ⟨rfl, h1, h2, h3⟩ := hx
  exact ⟨ys, res, os, hc, hb, hp, hq, h1, h2, h3, hk⟩
@[go_sem] theorem by_rho_in {M r k i : Nat} (h : i < M) (h1 : r ≤ i) (h2 : i < r + k) : by_ (rho M r k) i = M + (i - r) := by rw [by_rho h, if_pos ⟨h1, h2⟩]
@[go_sem] theorem by_rho_lo {M r k i : Nat} (h : i < M) (h1 : i < r) : by_ (rho M r k) i = i := by rw [by_rho h, if_neg (by omega)]
@[go_sem] theorem by_rho_hi {M r k i : Nat} (h : i < M) (h1 : r + k ≤ i) : by_ (rho M r k) i = i := by rw [by_rho h, if_neg (by omega)]
end
attribute [go_sem] stE finM finO fltE fltM fixU fixO lstU pureL pureA mapO memN true_and and_true cond_true cond_false
end Go.AM
/- Statements: values as tokens, both ways. -/
namespace Go.AM
open Go Go.RowKit
open Go.Proofs.YtoecmmpjndcolaaDoor (OP nameM litM exprM marksS wordsS StrsAt str SlAt letB wrdB digB bt vcheck)
attribute [local irreducible] AWP retA
def nullS : ByteArray := str [78, 85, 76, 76]
def trueS : ByteArray := str [84, 82, 85, 69]
def falseS : ByteArray := str [70, 65, 76, 83, 69]
def valT (v : V) : List TK0 :=
  if v.k = 0 then [wordT nullS] else if v.k = 1 then (if v.n = 1 then [wordT trueS] else [wordT falseS]) else if v.k = 3 then [⟨3, v.s, 0⟩] else if v.n < 0 then [markT (str [45]), ⟨2, str [], -v.n⟩] else [⟨2, str [], v.n⟩]
inductive GoodV (v : V) : Prop
  | null (h : v.k = 0)
  | bool (h : v.k = 1) (h1 : v.n = 0 ∨ v.n = 1) (hs : v.s = str [])
  | int (h : v.k = 2) (h1 : -9223372036854775808 < v.n)
  | text (h : v.k = 3)
theorem str_nil_of {s : ByteArray} (h : s.toList = []) : s = str [] := by rw [Go.Proofs.YtoecmmpjndcolaaDoor.eq_str s, h]
theorem good_lit {v : V} (hw : -9223372036854775808 ≤ v.n) (h : litM v.k v.n v.s = 0) : GoodV v := by
  unfold litM at h
  split at h
  · cases h
  rename_i h1
  unfold vcheck at h
  split at h
  · exact .null (by assumption)
  split at h
  · rename_i hk
    split at h
    · cases h
    · rename_i h2
      have h3 : v.s.toList = [] := Classical.byContradiction fun h => h2 (.inr (.inr h))
      exact .bool hk (by omega) (str_nil_of h3)
  split at h
  · rename_i hk; exact .int hk (by omega)
  split at h
  · rename_i hk; exact .text hk
  · cases h
theorem valT_len (v : V) : (valT v).length ≤ 2 := by
  unfold valT
  repeat' split
  all_goals simp
set_option maxRecDepth 100000 in
set_option maxHeartbeats 8000000 in
theorem showValue_con (G : List (Nat × List Value)) (v : V) (hv : GoodV v) (hb : v.n ≤ 9223372036854775807) : Con Go.Proofs.Tryd.prog G 66 [.agg (eV v)] [] 0 (Is (.ro true 3 ((valT v).map eT)) [] 0) No := by
  refine con_of_awp Go.Proofs.Tryd.func66 rfl (by kernel_rfl) (of_decide_eq_true (by kernel_rfl)) ?_; intro E hG hE; subst hG; simp only [ent]
  have mc := mark_con E.G (str [45])
  simp only [eT, markT, str] at mc
  rcases hv with h | ⟨h, h1, hs⟩ | ⟨h, h1⟩ | h
  · have ac := all_con E.G false [nullS] (by simp)
    simp only [List.map_cons, List.map_nil, eStr, eT, wordT, nullS, str] at ac
    (repeat' (first | refine awp_seq ?_ | refine awp_block ?_ | refine awp_skip ?_ | refine awp_exit ?_ | ((first | refine awp_r (by kernel_rfl) (fun K kp hK hkp => ?_) | refine awp_dr (id := 8) mixed 7 [1, 2, 3, 4, 0, 5, 6] (by kernel_rfl) (by kernel_rfl) (by kernel_rfl) (by simp only [go_sem]; rfl) (by simp only [go_sem]; rfl) (by simp only [go_sem]; rfl) (fun K kp hK hkp => ?_) | ((first | apply callR_i (ac) | apply callD_i (ac) | apply callX_i (ac)); (case hb => (simp (implicitDefEqProofs := false) (maxSteps := 2000000) (disch := omega) only [go_sem, eV, h]; first | done | rfl)); (case hp => (first | (simp [-List.map_drop, -List.map_take, eV, h]; done) | exact .ro _ _ (pt_map _ _))); (case hq => (first | (simp [-List.map_drop, -List.map_take]; done) | (intro _ h; simp only [List.mem_singleton] at h; subst h; exact pt_map _ _))))); simp (implicitDefEqProofs := false) (maxSteps := 2000000) (disch := omega) only [go_sem, eV, h]; (repeat' (first | (refine hK _ ?_; clear hK hkp kp K) | (with_reducible refine And.intro ?_ ?_) | omega))) | ((first | refine goG_ask (fun h => ?_) (fun h => ?_) | refine goGD_ask (fun h => ?_) (fun h => ?_) | refine goGX_ask (fun h => ?_) (fun h => ?_)) <;> (simp (implicitDefEqProofs := false) (maxSteps := 2000000) (disch := omega) only [go_sem, eV, h, h]; (repeat' (first | (refine hK _ ?_; clear hK hkp kp K) | (with_reducible refine And.intro ?_ ?_) | omega)))) | refine awp_cond_t rfl ?_ | refine awp_cond_f rfl ?_ | ((refine awp_cond rfl (fun h => ?_) (fun h => ?_) <;> try simp only [decide_eq_true_eq, decide_eq_false_iff_not, Int.not_lt, Int.not_le, Bool.not_eq_true, Bool.not_eq_false, bne_iff_ne, ne_eq, beq_iff_eq, bne_eq_false_iff_eq, beq_eq_false_iff_ne] at h) <;> (try (exfalso; omega))) | refine awp_ret ?_))
    (refine retA_is (by (simp (implicitDefEqProofs := false) (maxSteps := 2000000) (disch := omega) only [go_sem, Go.Proofs.Tryd.results66, valT, h, eT, wordT, nullS, str]); rfl) ?_; refine embS_frz (by simp only [oneA]; simp (implicitDefEqProofs := false) (maxSteps := 2000000) (disch := omega) only [go_sem, valT, h, eT, wordT, nullS, str]; rfl) ?_; refine (embV_nil hE (by simp) ?_).s; simp [oneA, ren, renL, valT, h, eT, wordT, nullS, str])
  · rcases h1 with h1 | h1
    · have ac := all_con E.G false [falseS] (by simp)
      simp only [List.map_cons, List.map_nil, eStr, eT, wordT, falseS, str] at ac
      (repeat' (first | refine awp_seq ?_ | refine awp_block ?_ | refine awp_skip ?_ | refine awp_exit ?_ | ((first | refine awp_r (by kernel_rfl) (fun K kp hK hkp => ?_) | refine awp_dr (id := 8) mixed 7 [1, 2, 3, 4, 0, 5, 6] (by kernel_rfl) (by kernel_rfl) (by kernel_rfl) (by simp only [go_sem]; rfl) (by simp only [go_sem]; rfl) (by simp only [go_sem]; rfl) (fun K kp hK hkp => ?_) | ((first | apply callR_i (ac) | apply callD_i (ac) | apply callX_i (ac)); (case hb => (simp (implicitDefEqProofs := false) (maxSteps := 2000000) (disch := omega) only [go_sem, eV, h, h1]; first | done | rfl)); (case hp => (first | (simp [-List.map_drop, -List.map_take, eV, h, h1]; done) | exact .ro _ _ (pt_map _ _))); (case hq => (first | (simp [-List.map_drop, -List.map_take]; done) | (intro _ h; simp only [List.mem_singleton] at h; subst h; exact pt_map _ _))))); simp (implicitDefEqProofs := false) (maxSteps := 2000000) (disch := omega) only [go_sem, eV, h, h1]; (repeat' (first | (refine hK _ ?_; clear hK hkp kp K) | (with_reducible refine And.intro ?_ ?_) | omega))) | ((first | refine goG_ask (fun h => ?_) (fun h => ?_) | refine goGD_ask (fun h => ?_) (fun h => ?_) | refine goGX_ask (fun h => ?_) (fun h => ?_)) <;> (simp (implicitDefEqProofs := false) (maxSteps := 2000000) (disch := omega) only [go_sem, eV, h, h1, h]; (repeat' (first | (refine hK _ ?_; clear hK hkp kp K) | (with_reducible refine And.intro ?_ ?_) | omega)))) | refine awp_cond_t rfl ?_ | refine awp_cond_f rfl ?_ | ((refine awp_cond rfl (fun h => ?_) (fun h => ?_) <;> try simp only [decide_eq_true_eq, decide_eq_false_iff_not, Int.not_lt, Int.not_le, Bool.not_eq_true, Bool.not_eq_false, bne_iff_ne, ne_eq, beq_iff_eq, bne_eq_false_iff_eq, beq_eq_false_iff_ne] at h) <;> (try (exfalso; omega))) | refine awp_ret ?_))
      (refine retA_is (by (simp (implicitDefEqProofs := false) (maxSteps := 2000000) (disch := omega) only [go_sem, Go.Proofs.Tryd.results66, valT, h, h1, eT, wordT, falseS, str]); rfl) ?_; refine embS_frz (by simp only [oneA]; simp (implicitDefEqProofs := false) (maxSteps := 2000000) (disch := omega) only [go_sem, valT, h, h1, eT, wordT, falseS, str]; rfl) ?_; refine (embV_nil hE (by simp) ?_).s; simp [oneA, ren, renL, valT, h, h1, eT, wordT, falseS, str])
    · have ac := all_con E.G false [trueS] (by simp)
      simp only [List.map_cons, List.map_nil, eStr, eT, wordT, trueS, str] at ac
      (repeat' (first | refine awp_seq ?_ | refine awp_block ?_ | refine awp_skip ?_ | refine awp_exit ?_ | ((first | refine awp_r (by kernel_rfl) (fun K kp hK hkp => ?_) | refine awp_dr (id := 8) mixed 7 [1, 2, 3, 4, 0, 5, 6] (by kernel_rfl) (by kernel_rfl) (by kernel_rfl) (by simp only [go_sem]; rfl) (by simp only [go_sem]; rfl) (by simp only [go_sem]; rfl) (fun K kp hK hkp => ?_) | ((first | apply callR_i (ac) | apply callD_i (ac) | apply callX_i (ac)); (case hb => (simp (implicitDefEqProofs := false) (maxSteps := 2000000) (disch := omega) only [go_sem, eV, h, h1]; first | done | rfl)); (case hp => (first | (simp [-List.map_drop, -List.map_take, eV, h, h1]; done) | exact .ro _ _ (pt_map _ _))); (case hq => (first | (simp [-List.map_drop, -List.map_take]; done) | (intro _ h; simp only [List.mem_singleton] at h; subst h; exact pt_map _ _))))); simp (implicitDefEqProofs := false) (maxSteps := 2000000) (disch := omega) only [go_sem, eV, h, h1]; (repeat' (first | (refine hK _ ?_; clear hK hkp kp K) | (with_reducible refine And.intro ?_ ?_) | omega))) | ((first | refine goG_ask (fun h => ?_) (fun h => ?_) | refine goGD_ask (fun h => ?_) (fun h => ?_) | refine goGX_ask (fun h => ?_) (fun h => ?_)) <;> (simp (implicitDefEqProofs := false) (maxSteps := 2000000) (disch := omega) only [go_sem, eV, h, h1, h]; (repeat' (first | (refine hK _ ?_; clear hK hkp kp K) | (with_reducible refine And.intro ?_ ?_) | omega)))) | refine awp_cond_t rfl ?_ | refine awp_cond_f rfl ?_ | ((refine awp_cond rfl (fun h => ?_) (fun h => ?_) <;> try simp only [decide_eq_true_eq, decide_eq_false_iff_not, Int.not_lt, Int.not_le, Bool.not_eq_true, Bool.not_eq_false, bne_iff_ne, ne_eq, beq_iff_eq, bne_eq_false_iff_eq, beq_eq_false_iff_ne] at h) <;> (try (exfalso; omega))) | refine awp_ret ?_))
      (refine retA_is (by (simp (implicitDefEqProofs := false) (maxSteps := 2000000) (disch := omega) only [go_sem, Go.Proofs.Tryd.results66, valT, h, h1, eT, wordT, trueS, str]); rfl) ?_; refine embS_frz (by simp only [oneA]; simp (implicitDefEqProofs := false) (maxSteps := 2000000) (disch := omega) only [go_sem, valT, h, h1, eT, wordT, trueS, str]; rfl) ?_; refine (embV_nil hE (by simp) ?_).s; simp [oneA, ren, renL, valT, h, h1, eT, wordT, trueS, str])
  · by_cases hn : v.n < 0
    · have d1 : decide (v.n < 0) = true := decide_eq_true hn
      have wr : IntKind.i64.wrap (0 - v.n) = -v.n := by rw [wrapA (by omega) (by omega)]; omega
      (repeat' (first | refine awp_seq ?_ | refine awp_block ?_ | refine awp_skip ?_ | refine awp_exit ?_ | ((first | refine awp_r (by kernel_rfl) (fun K kp hK hkp => ?_) | refine awp_dr (id := 8) mixed 7 [1, 2, 3, 4, 0, 5, 6] (by kernel_rfl) (by kernel_rfl) (by kernel_rfl) (by simp only [go_sem]; rfl) (by simp only [go_sem]; rfl) (by simp only [go_sem]; rfl) (fun K kp hK hkp => ?_) | ((first | apply callR_i (mc) | apply callD_i (mc) | apply callX_i (mc)); (case hb => (simp (implicitDefEqProofs := false) (maxSteps := 2000000) (disch := omega) only [go_sem, eV, h, d1, wr]; first | done | rfl)); (case hp => (first | (simp [-List.map_drop, -List.map_take, eV, h, d1, wr]; done) | exact .ro _ _ (pt_map _ _))); (case hq => (first | (simp [-List.map_drop, -List.map_take]; done) | (intro _ h; simp only [List.mem_singleton] at h; subst h; exact pt_map _ _))))); simp (implicitDefEqProofs := false) (maxSteps := 2000000) (disch := omega) only [go_sem, eV, h, d1, wr]; (repeat' (first | (refine hK _ ?_; clear hK hkp kp K) | (with_reducible refine And.intro ?_ ?_) | omega))) | ((first | refine goG_ask (fun h => ?_) (fun h => ?_) | refine goGD_ask (fun h => ?_) (fun h => ?_) | refine goGX_ask (fun h => ?_) (fun h => ?_)) <;> (simp (implicitDefEqProofs := false) (maxSteps := 2000000) (disch := omega) only [go_sem, eV, h, d1, wr, h]; (repeat' (first | (refine hK _ ?_; clear hK hkp kp K) | (with_reducible refine And.intro ?_ ?_) | omega)))) | refine awp_cond_t rfl ?_ | refine awp_cond_f rfl ?_ | ((refine awp_cond rfl (fun h => ?_) (fun h => ?_) <;> try simp only [decide_eq_true_eq, decide_eq_false_iff_not, Int.not_lt, Int.not_le, Bool.not_eq_true, Bool.not_eq_false, bne_iff_ne, ne_eq, beq_iff_eq, bne_eq_false_iff_eq, beq_eq_false_iff_ne] at h) <;> (try (exfalso; omega))) | refine awp_ret ?_))
      (refine retA_is (by (simp (implicitDefEqProofs := false) (maxSteps := 2000000) (disch := omega) only [go_sem, Go.Proofs.Tryd.results66, valT, h, hn, eT, markT, str]); rfl) ?_; refine embS_frz (by simp only [oneA]; simp (implicitDefEqProofs := false) (maxSteps := 2000000) (disch := omega) only [go_sem, valT, h, hn, eT, markT, str]; rfl) ?_; refine (embV_nil hE (by simp) ?_).s; simp [oneA, ren, renL, valT, h, hn, eT, markT, str])
    · have d1 : decide (v.n < 0) = false := decide_eq_false hn
      (repeat' (first | refine awp_seq ?_ | refine awp_block ?_ | refine awp_skip ?_ | refine awp_exit ?_ | ((first | refine awp_r (by kernel_rfl) (fun K kp hK hkp => ?_) | refine awp_dr (id := 8) mixed 7 [1, 2, 3, 4, 0, 5, 6] (by kernel_rfl) (by kernel_rfl) (by kernel_rfl) (by simp only [go_sem]; rfl) (by simp only [go_sem]; rfl) (by simp only [go_sem]; rfl) (fun K kp hK hkp => ?_) | ((first | apply callR_i (mc) | apply callD_i (mc) | apply callX_i (mc)); (case hb => (simp (implicitDefEqProofs := false) (maxSteps := 2000000) (disch := omega) only [go_sem, eV, h, d1]; first | done | rfl)); (case hp => (first | (simp [-List.map_drop, -List.map_take, eV, h, d1]; done) | exact .ro _ _ (pt_map _ _))); (case hq => (first | (simp [-List.map_drop, -List.map_take]; done) | (intro _ h; simp only [List.mem_singleton] at h; subst h; exact pt_map _ _))))); simp (implicitDefEqProofs := false) (maxSteps := 2000000) (disch := omega) only [go_sem, eV, h, d1]; (repeat' (first | (refine hK _ ?_; clear hK hkp kp K) | (with_reducible refine And.intro ?_ ?_) | omega))) | ((first | refine goG_ask (fun h => ?_) (fun h => ?_) | refine goGD_ask (fun h => ?_) (fun h => ?_) | refine goGX_ask (fun h => ?_) (fun h => ?_)) <;> (simp (implicitDefEqProofs := false) (maxSteps := 2000000) (disch := omega) only [go_sem, eV, h, d1, h]; (repeat' (first | (refine hK _ ?_; clear hK hkp kp K) | (with_reducible refine And.intro ?_ ?_) | omega)))) | refine awp_cond_t rfl ?_ | refine awp_cond_f rfl ?_ | ((refine awp_cond rfl (fun h => ?_) (fun h => ?_) <;> try simp only [decide_eq_true_eq, decide_eq_false_iff_not, Int.not_lt, Int.not_le, Bool.not_eq_true, Bool.not_eq_false, bne_iff_ne, ne_eq, beq_iff_eq, bne_eq_false_iff_eq, beq_eq_false_iff_ne] at h) <;> (try (exfalso; omega))) | refine awp_ret ?_))
      (refine retA_is (by (simp (implicitDefEqProofs := false) (maxSteps := 2000000) (disch := omega) only [go_sem, Go.Proofs.Tryd.results66, valT, h, hn, eT, markT, str]); rfl) ?_; refine embS_frz (by simp only [oneA]; simp (implicitDefEqProofs := false) (maxSteps := 2000000) (disch := omega) only [go_sem, valT, h, hn, eT, markT, str]; rfl) ?_; refine (embV_nil hE (by simp) ?_).s; simp [oneA, ren, renL, valT, h, hn, eT, markT, str])
  · (repeat' (first | refine awp_seq ?_ | refine awp_block ?_ | refine awp_skip ?_ | refine awp_exit ?_ | ((first | refine awp_r (by kernel_rfl) (fun K kp hK hkp => ?_) | refine awp_dr (id := 8) mixed 7 [1, 2, 3, 4, 0, 5, 6] (by kernel_rfl) (by kernel_rfl) (by kernel_rfl) (by simp only [go_sem]; rfl) (by simp only [go_sem]; rfl) (by simp only [go_sem]; rfl) (fun K kp hK hkp => ?_) | ((first | apply callR_i (mc) | apply callD_i (mc) | apply callX_i (mc)); (case hb => (simp (implicitDefEqProofs := false) (maxSteps := 2000000) (disch := omega) only [go_sem, eV, h]; first | done | rfl)); (case hp => (first | (simp [-List.map_drop, -List.map_take, eV, h]; done) | exact .ro _ _ (pt_map _ _))); (case hq => (first | (simp [-List.map_drop, -List.map_take]; done) | (intro _ h; simp only [List.mem_singleton] at h; subst h; exact pt_map _ _))))); simp (implicitDefEqProofs := false) (maxSteps := 2000000) (disch := omega) only [go_sem, eV, h]; (repeat' (first | (refine hK _ ?_; clear hK hkp kp K) | (with_reducible refine And.intro ?_ ?_) | omega))) | ((first | refine goG_ask (fun h => ?_) (fun h => ?_) | refine goGD_ask (fun h => ?_) (fun h => ?_) | refine goGX_ask (fun h => ?_) (fun h => ?_)) <;> (simp (implicitDefEqProofs := false) (maxSteps := 2000000) (disch := omega) only [go_sem, eV, h, h]; (repeat' (first | (refine hK _ ?_; clear hK hkp kp K) | (with_reducible refine And.intro ?_ ?_) | omega)))) | refine awp_cond_t rfl ?_ | refine awp_cond_f rfl ?_ | ((refine awp_cond rfl (fun h => ?_) (fun h => ?_) <;> try simp only [decide_eq_true_eq, decide_eq_false_iff_not, Int.not_lt, Int.not_le, Bool.not_eq_true, Bool.not_eq_false, bne_iff_ne, ne_eq, beq_iff_eq, bne_eq_false_iff_eq, beq_eq_false_iff_ne] at h) <;> (try (exfalso; omega))) | refine awp_ret ?_))
    (refine retA_is (by (simp (implicitDefEqProofs := false) (maxSteps := 2000000) (disch := omega) only [go_sem, Go.Proofs.Tryd.results66, valT, h, eT, str]); rfl) ?_; refine embS_frz (by simp only [oneA]; simp (implicitDefEqProofs := false) (maxSteps := 2000000) (disch := omega) only [go_sem, valT, h, eT, str]; rfl) ?_; refine (embV_nil hE (by simp) ?_).s; simp [oneA, ren, renL, valT, h, eT, str])
set_option maxRecDepth 100000 in
theorem yes_con (G : List (Nat × List Value)) (b : Bool) : Con Go.Proofs.Tryd.prog G 116 [.r (.bool b)] [] 0 (Is (.agg [.r (.int .i64 1), .r (.int .i64 (if b = true then 1 else 0)), .r (.string ⟨#[]⟩)]) [] 0) No := by
  refine con_of_awp Go.Proofs.Tryd.func116 rfl (by kernel_rfl) (of_decide_eq_true (by kernel_rfl)) ?_; intro E hG hE; subst hG; simp only [ent]
  cases b
  · (repeat' (first | refine awp_seq ?_ | refine awp_block ?_ | refine awp_skip ?_ | refine awp_exit ?_ | ((first | refine awp_r (by kernel_rfl) (fun K kp hK hkp => ?_)); simp (implicitDefEqProofs := false) (maxSteps := 2000000) (disch := omega) only [go_sem]; (repeat' (first | (refine hK _ ?_; clear hK hkp kp K) | (with_reducible refine And.intro ?_ ?_) | omega))) | ((first | refine goG_ask (fun h => ?_) (fun h => ?_) | refine goGD_ask (fun h => ?_) (fun h => ?_) | refine goGX_ask (fun h => ?_) (fun h => ?_)) <;> (simp (implicitDefEqProofs := false) (maxSteps := 2000000) (disch := omega) only [go_sem, h]; (repeat' (first | (refine hK _ ?_; clear hK hkp kp K) | (with_reducible refine And.intro ?_ ?_) | omega)))) | refine awp_cond_t rfl ?_ | refine awp_cond_f rfl ?_ | ((refine awp_cond rfl (fun h => ?_) (fun h => ?_) <;> try simp only [decide_eq_true_eq, decide_eq_false_iff_not, Int.not_lt, Int.not_le, Bool.not_eq_true, Bool.not_eq_false, bne_iff_ne, ne_eq, beq_iff_eq, bne_eq_false_iff_eq, beq_eq_false_iff_ne] at h) <;> (try (exfalso; omega))) | refine awp_ret ?_))
    (refine retA_is (by (simp (implicitDefEqProofs := false) (maxSteps := 2000000) (disch := omega) only [go_sem, Go.Proofs.Tryd.results116]); rfl) ?_; refine (embV_nil hE (by simp) ?_).s; simp [oneA, ren, renL])
  · (repeat' (first | refine awp_seq ?_ | refine awp_block ?_ | refine awp_skip ?_ | refine awp_exit ?_ | ((first | refine awp_r (by kernel_rfl) (fun K kp hK hkp => ?_)); simp (implicitDefEqProofs := false) (maxSteps := 2000000) (disch := omega) only [go_sem]; (repeat' (first | (refine hK _ ?_; clear hK hkp kp K) | (with_reducible refine And.intro ?_ ?_) | omega))) | ((first | refine goG_ask (fun h => ?_) (fun h => ?_) | refine goGD_ask (fun h => ?_) (fun h => ?_) | refine goGX_ask (fun h => ?_) (fun h => ?_)) <;> (simp (implicitDefEqProofs := false) (maxSteps := 2000000) (disch := omega) only [go_sem, h]; (repeat' (first | (refine hK _ ?_; clear hK hkp kp K) | (with_reducible refine And.intro ?_ ?_) | omega)))) | refine awp_cond_t rfl ?_ | refine awp_cond_f rfl ?_ | ((refine awp_cond rfl (fun h => ?_) (fun h => ?_) <;> try simp only [decide_eq_true_eq, decide_eq_false_iff_not, Int.not_lt, Int.not_le, Bool.not_eq_true, Bool.not_eq_false, bne_iff_ne, ne_eq, beq_iff_eq, bne_eq_false_iff_eq, beq_eq_false_iff_ne] at h) <;> (try (exfalso; omega))) | refine awp_ret ?_))
    (refine retA_is (by (simp (implicitDefEqProofs := false) (maxSteps := 2000000) (disch := omega) only [go_sem, Go.Proofs.Tryd.results116]); rfl) ?_; refine (embV_nil hE (by simp) ?_).s; simp [oneA, ren, renL])
theorem toks_null : toksM [78, 85, 76, 76] = [wordT nullS] := rfl
theorem toks_true : toksM [84, 82, 85, 69] = [wordT trueS] := rfl
theorem toks_false : toksM [70, 65, 76, 83, 69] = [wordT falseS] := rfl
theorem toks_minus : toksM [45] = [markT (str [45])] := rfl
set_option maxRecDepth 100000 in
set_option maxHeartbeats 8000000 in
theorem valueToks_con (G : List (Nat × List Value)) (v : V) (hv : GoodV v) (hb : v.n ≤ 9223372036854775807) : Con Go.Proofs.Tryd.prog G 76 [.agg (eV v)] [] 0 (Is (.ro true 3 ((valT v).map eT)) [] 0) No := by
  refine con_of_awp Go.Proofs.Tryd.func76 rfl (by kernel_rfl) (of_decide_eq_true (by kernel_rfl)) ?_; intro E hG hE; subst hG; simp only [ent]
  have yt := yes_con E.G true
  have yf := yes_con E.G false
  simp only [if_true, Bool.false_eq_true, if_false] at yt yf
  have t0 := toks_con E.G [78, 85, 76, 76] (by simp)
  have t1 := toks_con E.G [84, 82, 85, 69] (by simp)
  have t2 := toks_con E.G [70, 65, 76, 83, 69] (by simp)
  have t3 := toks_con E.G [45] (by simp)
  rw [toks_null] at t0; rw [toks_true] at t1; rw [toks_false] at t2; rw [toks_minus] at t3
  simp only [str, List.map_cons, List.map_nil, List.length_cons, List.length_nil, eT, wordT, markT, nullS, trueS, falseS] at t0 t1 t2 t3
  rcases hv with h | ⟨h, h1, hs⟩ | ⟨h, h1⟩ | h
  · (repeat' (first | refine awp_seq ?_ | refine awp_block ?_ | refine awp_skip ?_ | refine awp_exit ?_ | ((first | refine awp_r (by kernel_rfl) (fun K kp hK hkp => ?_) | refine awp_dr (id := 3) mixed 3 [0, 1, 2] (by kernel_rfl) (by kernel_rfl) (by kernel_rfl) (by simp only [go_sem]; rfl) (by simp only [go_sem]; rfl) (by simp only [go_sem]; rfl) (fun K kp hK hkp => ?_) | refine awp_dr (id := 5) mixed 3 [0, 1, 2] (by kernel_rfl) (by kernel_rfl) (by kernel_rfl) (by simp only [go_sem]; rfl) (by simp only [go_sem]; rfl) (by simp only [go_sem]; rfl) (fun K kp hK hkp => ?_) | ((first | apply callR_i (t0) | apply callD_i (t0) | apply callX_i (t0)); (case hb => (simp (implicitDefEqProofs := false) (maxSteps := 2000000) (disch := omega) only [go_sem, eV, h]; first | done | rfl)); (case hp => (first | (simp [-List.map_drop, -List.map_take, eV, h]; done) | exact .ro _ _ (pt_map _ _))); (case hq => (first | (simp [-List.map_drop, -List.map_take]; done) | (intro _ h; simp only [List.mem_singleton] at h; subst h; exact pt_map _ _))))); simp (implicitDefEqProofs := false) (maxSteps := 2000000) (disch := omega) only [go_sem, eV, h]; (repeat' (first | (refine hK _ ?_; clear hK hkp kp K) | (with_reducible refine And.intro ?_ ?_) | omega))) | ((first | refine goG_ask (fun h => ?_) (fun h => ?_) | refine goGD_ask (fun h => ?_) (fun h => ?_) | refine goGX_ask (fun h => ?_) (fun h => ?_)) <;> (simp (implicitDefEqProofs := false) (maxSteps := 2000000) (disch := omega) only [go_sem, eV, h, h]; (repeat' (first | (refine hK _ ?_; clear hK hkp kp K) | (with_reducible refine And.intro ?_ ?_) | omega)))) | refine awp_cond_t rfl ?_ | refine awp_cond_f rfl ?_ | ((refine awp_cond rfl (fun h => ?_) (fun h => ?_) <;> try simp only [decide_eq_true_eq, decide_eq_false_iff_not, Int.not_lt, Int.not_le, Bool.not_eq_true, Bool.not_eq_false, bne_iff_ne, ne_eq, beq_iff_eq, bne_eq_false_iff_eq, beq_eq_false_iff_ne] at h) <;> (try (exfalso; omega))) | refine awp_ret ?_))
    (refine retA_is (by (simp (implicitDefEqProofs := false) (maxSteps := 2000000) (disch := omega) only [go_sem, Go.Proofs.Tryd.results76, valT, h, eT, wordT, nullS, str]); rfl) ?_; refine embS_frz (by simp only [oneA]; simp (implicitDefEqProofs := false) (maxSteps := 2000000) (disch := omega) only [go_sem, valT, h, eT, wordT, nullS, str]; rfl) ?_; refine (embV_nil hE (by simp) ?_).s; simp [oneA, ren, renL, valT, h, eT, wordT, nullS, str])
  · have e1 : ((str []).toList == ByteArray.toList ⟨#[]⟩) = true := by simp [str]
    rcases h1 with h1 | h1
    · (repeat' (first | refine awp_seq ?_ | refine awp_block ?_ | refine awp_skip ?_ | refine awp_exit ?_ | ((first | refine awp_r (by kernel_rfl) (fun K kp hK hkp => ?_) | refine awp_dr (id := 3) mixed 3 [0, 1, 2] (by kernel_rfl) (by kernel_rfl) (by kernel_rfl) (by simp only [go_sem]; rfl) (by simp only [go_sem]; rfl) (by simp only [go_sem]; rfl) (fun K kp hK hkp => ?_) | refine awp_dr (id := 5) mixed 3 [0, 1, 2] (by kernel_rfl) (by kernel_rfl) (by kernel_rfl) (by simp only [go_sem]; rfl) (by simp only [go_sem]; rfl) (by simp only [go_sem]; rfl) (fun K kp hK hkp => ?_) | ((first | apply callR_i (t1) | apply callD_i (t1) | apply callX_i (t1)); (case hb => (simp (implicitDefEqProofs := false) (maxSteps := 2000000) (disch := omega) only [go_sem, eV, h, h1, hs, e1]; first | done | rfl)); (case hp => (first | (simp [-List.map_drop, -List.map_take, eV, h, h1, hs, e1]; done) | exact .ro _ _ (pt_map _ _))); (case hq => (first | (simp [-List.map_drop, -List.map_take]; done) | (intro _ h; simp only [List.mem_singleton] at h; subst h; exact pt_map _ _)))) | ((first | apply callR_i (t2) | apply callD_i (t2) | apply callX_i (t2)); (case hb => (simp (implicitDefEqProofs := false) (maxSteps := 2000000) (disch := omega) only [go_sem, eV, h, h1, hs, e1]; first | done | rfl)); (case hp => (first | (simp [-List.map_drop, -List.map_take, eV, h, h1, hs, e1]; done) | exact .ro _ _ (pt_map _ _))); (case hq => (first | (simp [-List.map_drop, -List.map_take]; done) | (intro _ h; simp only [List.mem_singleton] at h; subst h; exact pt_map _ _)))) | ((first | apply callR_i (yt) | apply callD_i (yt) | apply callX_i (yt)); (case hb => (simp (implicitDefEqProofs := false) (maxSteps := 2000000) (disch := omega) only [go_sem, eV, h, h1, hs, e1]; first | done | rfl)); (case hp => (first | (simp [-List.map_drop, -List.map_take, eV, h, h1, hs, e1]; done) | exact .ro _ _ (pt_map _ _))); (case hq => (first | (simp [-List.map_drop, -List.map_take]; done) | (intro _ h; simp only [List.mem_singleton] at h; subst h; exact pt_map _ _)))) | ((first | apply callR_i (yf) | apply callD_i (yf) | apply callX_i (yf)); (case hb => (simp (implicitDefEqProofs := false) (maxSteps := 2000000) (disch := omega) only [go_sem, eV, h, h1, hs, e1]; first | done | rfl)); (case hp => (first | (simp [-List.map_drop, -List.map_take, eV, h, h1, hs, e1]; done) | exact .ro _ _ (pt_map _ _))); (case hq => (first | (simp [-List.map_drop, -List.map_take]; done) | (intro _ h; simp only [List.mem_singleton] at h; subst h; exact pt_map _ _))))); simp (implicitDefEqProofs := false) (maxSteps := 2000000) (disch := omega) only [go_sem, eV, h, h1, hs, e1]; (repeat' (first | (refine hK _ ?_; clear hK hkp kp K) | (with_reducible refine And.intro ?_ ?_) | omega))) | ((first | refine goG_ask (fun h => ?_) (fun h => ?_) | refine goGD_ask (fun h => ?_) (fun h => ?_) | refine goGX_ask (fun h => ?_) (fun h => ?_)) <;> (simp (implicitDefEqProofs := false) (maxSteps := 2000000) (disch := omega) only [go_sem, eV, h, h1, hs, e1, h]; (repeat' (first | (refine hK _ ?_; clear hK hkp kp K) | (with_reducible refine And.intro ?_ ?_) | omega)))) | refine awp_cond_t rfl ?_ | refine awp_cond_f rfl ?_ | ((refine awp_cond rfl (fun h => ?_) (fun h => ?_) <;> try simp only [decide_eq_true_eq, decide_eq_false_iff_not, Int.not_lt, Int.not_le, Bool.not_eq_true, Bool.not_eq_false, bne_iff_ne, ne_eq, beq_iff_eq, bne_eq_false_iff_eq, beq_eq_false_iff_ne] at h) <;> (try (exfalso; omega))) | refine awp_ret ?_))
      (refine retA_is (by (simp (implicitDefEqProofs := false) (maxSteps := 2000000) (disch := omega) only [go_sem, Go.Proofs.Tryd.results76, valT, h, h1, eT, wordT, falseS, str]); rfl) ?_; refine embS_frz (by simp only [oneA]; simp (implicitDefEqProofs := false) (maxSteps := 2000000) (disch := omega) only [go_sem, valT, h, h1, eT, wordT, falseS, str]; rfl) ?_; refine (embV_nil hE (by simp) ?_).s; simp [oneA, ren, renL, valT, h, h1, eT, wordT, falseS, str])
    · (repeat' (first | refine awp_seq ?_ | refine awp_block ?_ | refine awp_skip ?_ | refine awp_exit ?_ | ((first | refine awp_r (by kernel_rfl) (fun K kp hK hkp => ?_) | refine awp_dr (id := 3) mixed 3 [0, 1, 2] (by kernel_rfl) (by kernel_rfl) (by kernel_rfl) (by simp only [go_sem]; rfl) (by simp only [go_sem]; rfl) (by simp only [go_sem]; rfl) (fun K kp hK hkp => ?_) | refine awp_dr (id := 5) mixed 3 [0, 1, 2] (by kernel_rfl) (by kernel_rfl) (by kernel_rfl) (by simp only [go_sem]; rfl) (by simp only [go_sem]; rfl) (by simp only [go_sem]; rfl) (fun K kp hK hkp => ?_) | ((first | apply callR_i (t1) | apply callD_i (t1) | apply callX_i (t1)); (case hb => (simp (implicitDefEqProofs := false) (maxSteps := 2000000) (disch := omega) only [go_sem, eV, h, h1, hs, e1]; first | done | rfl)); (case hp => (first | (simp [-List.map_drop, -List.map_take, eV, h, h1, hs, e1]; done) | exact .ro _ _ (pt_map _ _))); (case hq => (first | (simp [-List.map_drop, -List.map_take]; done) | (intro _ h; simp only [List.mem_singleton] at h; subst h; exact pt_map _ _)))) | ((first | apply callR_i (t2) | apply callD_i (t2) | apply callX_i (t2)); (case hb => (simp (implicitDefEqProofs := false) (maxSteps := 2000000) (disch := omega) only [go_sem, eV, h, h1, hs, e1]; first | done | rfl)); (case hp => (first | (simp [-List.map_drop, -List.map_take, eV, h, h1, hs, e1]; done) | exact .ro _ _ (pt_map _ _))); (case hq => (first | (simp [-List.map_drop, -List.map_take]; done) | (intro _ h; simp only [List.mem_singleton] at h; subst h; exact pt_map _ _)))) | ((first | apply callR_i (yt) | apply callD_i (yt) | apply callX_i (yt)); (case hb => (simp (implicitDefEqProofs := false) (maxSteps := 2000000) (disch := omega) only [go_sem, eV, h, h1, hs, e1]; first | done | rfl)); (case hp => (first | (simp [-List.map_drop, -List.map_take, eV, h, h1, hs, e1]; done) | exact .ro _ _ (pt_map _ _))); (case hq => (first | (simp [-List.map_drop, -List.map_take]; done) | (intro _ h; simp only [List.mem_singleton] at h; subst h; exact pt_map _ _)))) | ((first | apply callR_i (yf) | apply callD_i (yf) | apply callX_i (yf)); (case hb => (simp (implicitDefEqProofs := false) (maxSteps := 2000000) (disch := omega) only [go_sem, eV, h, h1, hs, e1]; first | done | rfl)); (case hp => (first | (simp [-List.map_drop, -List.map_take, eV, h, h1, hs, e1]; done) | exact .ro _ _ (pt_map _ _))); (case hq => (first | (simp [-List.map_drop, -List.map_take]; done) | (intro _ h; simp only [List.mem_singleton] at h; subst h; exact pt_map _ _))))); simp (implicitDefEqProofs := false) (maxSteps := 2000000) (disch := omega) only [go_sem, eV, h, h1, hs, e1]; (repeat' (first | (refine hK _ ?_; clear hK hkp kp K) | (with_reducible refine And.intro ?_ ?_) | omega))) | ((first | refine goG_ask (fun h => ?_) (fun h => ?_) | refine goGD_ask (fun h => ?_) (fun h => ?_) | refine goGX_ask (fun h => ?_) (fun h => ?_)) <;> (simp (implicitDefEqProofs := false) (maxSteps := 2000000) (disch := omega) only [go_sem, eV, h, h1, hs, e1, h]; (repeat' (first | (refine hK _ ?_; clear hK hkp kp K) | (with_reducible refine And.intro ?_ ?_) | omega)))) | refine awp_cond_t rfl ?_ | refine awp_cond_f rfl ?_ | ((refine awp_cond rfl (fun h => ?_) (fun h => ?_) <;> try simp only [decide_eq_true_eq, decide_eq_false_iff_not, Int.not_lt, Int.not_le, Bool.not_eq_true, Bool.not_eq_false, bne_iff_ne, ne_eq, beq_iff_eq, bne_eq_false_iff_eq, beq_eq_false_iff_ne] at h) <;> (try (exfalso; omega))) | refine awp_ret ?_))
      (refine retA_is (by (simp (implicitDefEqProofs := false) (maxSteps := 2000000) (disch := omega) only [go_sem, Go.Proofs.Tryd.results76, valT, h, h1, eT, wordT, trueS, str]); rfl) ?_; refine embS_frz (by simp only [oneA]; simp (implicitDefEqProofs := false) (maxSteps := 2000000) (disch := omega) only [go_sem, valT, h, h1, eT, wordT, trueS, str]; rfl) ?_; refine (embV_nil hE (by simp) ?_).s; simp [oneA, ren, renL, valT, h, h1, eT, wordT, trueS, str])
  · by_cases hn : v.n < 0
    · have d1 : decide (v.n < 0) = true := decide_eq_true hn
      have wr : IntKind.i64.wrap (0 - v.n) = -v.n := by rw [wrapA (by omega) (by omega)]; omega
      (repeat' (first | refine awp_seq ?_ | refine awp_block ?_ | refine awp_skip ?_ | refine awp_exit ?_ | ((first | refine awp_r (by kernel_rfl) (fun K kp hK hkp => ?_) | refine awp_dr (id := 3) mixed 3 [0, 1, 2] (by kernel_rfl) (by kernel_rfl) (by kernel_rfl) (by simp only [go_sem]; rfl) (by simp only [go_sem]; rfl) (by simp only [go_sem]; rfl) (fun K kp hK hkp => ?_) | refine awp_dr (id := 5) mixed 3 [0, 1, 2] (by kernel_rfl) (by kernel_rfl) (by kernel_rfl) (by simp only [go_sem]; rfl) (by simp only [go_sem]; rfl) (by simp only [go_sem]; rfl) (fun K kp hK hkp => ?_) | refine awp_du (id := 10) mixed 6 [⟨0, 1, [], [(1, 1)]⟩, ⟨1, 0, [], [(0, 1), (1, 1)]⟩, ⟨1, 0, [1], [(0, 1), (1, 1)]⟩, ⟨1, 0, [1, 2], [(0, 1), (1, 1)]⟩, ⟨1, 0, [1, 2, 3], [(0, 1), (1, 1)]⟩, ⟨1, 1, [1, 2, 3, 4], [(0, 1)]⟩] 2 [25, 26, 27, 28, 29, 30] (by kernel_rfl) (by kernel_rfl) (by simp only [go_sem]; rfl) (by simp only [go_sem]; rfl) (by simp only [go_sem]; rfl) (by simp only [go_sem]; rfl) (by simp only [go_sem]; rfl) (by omega) (fun K kp hK hkp => ?_) | ((first | apply callR_i (t3) | apply callD_i (t3) | apply callX_i (t3) | (apply callU_i (t3); (case hx => (simp (disch := omega) [go_sem, eV, h, d1, wr]; done)))); (case hb => (simp (implicitDefEqProofs := false) (maxSteps := 2000000) (disch := omega) only [go_sem, eV, h, d1, wr]; first | done | rfl)); (case hp => (first | (simp [-List.map_drop, -List.map_take, eV, h, d1, wr]; done) | exact .ro _ _ (pt_map _ _))); (case hq => (first | (simp [-List.map_drop, -List.map_take]; done) | (intro _ h; simp only [List.mem_singleton] at h; subst h; exact pt_map _ _)))) | ((first | apply callR_i (yt) | apply callD_i (yt) | apply callX_i (yt) | (apply callU_i (yt); (case hx => (simp (disch := omega) [go_sem, eV, h, d1, wr]; done)))); (case hb => (simp (implicitDefEqProofs := false) (maxSteps := 2000000) (disch := omega) only [go_sem, eV, h, d1, wr]; first | done | rfl)); (case hp => (first | (simp [-List.map_drop, -List.map_take, eV, h, d1, wr]; done) | exact .ro _ _ (pt_map _ _))); (case hq => (first | (simp [-List.map_drop, -List.map_take]; done) | (intro _ h; simp only [List.mem_singleton] at h; subst h; exact pt_map _ _)))) | ((first | apply callR_i (yf) | apply callD_i (yf) | apply callX_i (yf) | (apply callU_i (yf); (case hx => (simp (disch := omega) [go_sem, eV, h, d1, wr]; done)))); (case hb => (simp (implicitDefEqProofs := false) (maxSteps := 2000000) (disch := omega) only [go_sem, eV, h, d1, wr]; first | done | rfl)); (case hp => (first | (simp [-List.map_drop, -List.map_take, eV, h, d1, wr]; done) | exact .ro _ _ (pt_map _ _))); (case hq => (first | (simp [-List.map_drop, -List.map_take]; done) | (intro _ h; simp only [List.mem_singleton] at h; subst h; exact pt_map _ _))))); simp (implicitDefEqProofs := false) (maxSteps := 2000000) (disch := omega) only [go_sem, eV, h, d1, wr]; (repeat' (first | (refine hK _ ?_; clear hK hkp kp K) | (with_reducible refine And.intro ?_ ?_) | omega))) | ((first | refine goG_ask (fun h => ?_) (fun h => ?_) | refine goGD_ask (fun h => ?_) (fun h => ?_) | refine goGX_ask (fun h => ?_) (fun h => ?_)) <;> (simp (implicitDefEqProofs := false) (maxSteps := 2000000) (disch := omega) only [go_sem, eV, h, d1, wr, h]; (repeat' (first | (refine hK _ ?_; clear hK hkp kp K) | (with_reducible refine And.intro ?_ ?_) | omega)))) | refine awp_cond_t rfl ?_ | refine awp_cond_f rfl ?_ | ((refine awp_cond rfl (fun h => ?_) (fun h => ?_) <;> try simp only [decide_eq_true_eq, decide_eq_false_iff_not, Int.not_lt, Int.not_le, Bool.not_eq_true, Bool.not_eq_false, bne_iff_ne, ne_eq, beq_iff_eq, bne_eq_false_iff_eq, beq_eq_false_iff_ne] at h) <;> (try (exfalso; omega))) | refine awp_ret ?_))
      (refine retA_is (by (simp (implicitDefEqProofs := false) (maxSteps := 2000000) (disch := omega) only [go_sem, Go.Proofs.Tryd.results76, valT, h, hn, eT, markT, str]); rfl) ?_; refine embS_frz (by simp only [oneA]; simp (implicitDefEqProofs := false) (maxSteps := 2000000) (disch := omega) only [go_sem, valT, h, hn, eT, markT, str]; rfl) ?_; refine (embV_nil hE (by simp) ?_).s; simp [oneA, ren, renL, valT, h, hn, eT, markT, str])
    · have d1 : decide (v.n < 0) = false := decide_eq_false hn
      (repeat' (first | refine awp_seq ?_ | refine awp_block ?_ | refine awp_skip ?_ | refine awp_exit ?_ | ((first | refine awp_r (by kernel_rfl) (fun K kp hK hkp => ?_) | refine awp_dr (id := 3) mixed 3 [0, 1, 2] (by kernel_rfl) (by kernel_rfl) (by kernel_rfl) (by simp only [go_sem]; rfl) (by simp only [go_sem]; rfl) (by simp only [go_sem]; rfl) (fun K kp hK hkp => ?_) | refine awp_dr (id := 5) mixed 3 [0, 1, 2] (by kernel_rfl) (by kernel_rfl) (by kernel_rfl) (by simp only [go_sem]; rfl) (by simp only [go_sem]; rfl) (by simp only [go_sem]; rfl) (fun K kp hK hkp => ?_) | ((first | apply callR_i (yt) | apply callD_i (yt) | apply callX_i (yt)); (case hb => (simp (implicitDefEqProofs := false) (maxSteps := 2000000) (disch := omega) only [go_sem, eV, h, d1]; first | done | rfl)); (case hp => (first | (simp [-List.map_drop, -List.map_take, eV, h, d1]; done) | exact .ro _ _ (pt_map _ _))); (case hq => (first | (simp [-List.map_drop, -List.map_take]; done) | (intro _ h; simp only [List.mem_singleton] at h; subst h; exact pt_map _ _)))) | ((first | apply callR_i (yf) | apply callD_i (yf) | apply callX_i (yf)); (case hb => (simp (implicitDefEqProofs := false) (maxSteps := 2000000) (disch := omega) only [go_sem, eV, h, d1]; first | done | rfl)); (case hp => (first | (simp [-List.map_drop, -List.map_take, eV, h, d1]; done) | exact .ro _ _ (pt_map _ _))); (case hq => (first | (simp [-List.map_drop, -List.map_take]; done) | (intro _ h; simp only [List.mem_singleton] at h; subst h; exact pt_map _ _))))); simp (implicitDefEqProofs := false) (maxSteps := 2000000) (disch := omega) only [go_sem, eV, h, d1]; (repeat' (first | (refine hK _ ?_; clear hK hkp kp K) | (with_reducible refine And.intro ?_ ?_) | omega))) | ((first | refine goG_ask (fun h => ?_) (fun h => ?_) | refine goGD_ask (fun h => ?_) (fun h => ?_) | refine goGX_ask (fun h => ?_) (fun h => ?_)) <;> (simp (implicitDefEqProofs := false) (maxSteps := 2000000) (disch := omega) only [go_sem, eV, h, d1, h]; (repeat' (first | (refine hK _ ?_; clear hK hkp kp K) | (with_reducible refine And.intro ?_ ?_) | omega)))) | refine awp_cond_t rfl ?_ | refine awp_cond_f rfl ?_ | ((refine awp_cond rfl (fun h => ?_) (fun h => ?_) <;> try simp only [decide_eq_true_eq, decide_eq_false_iff_not, Int.not_lt, Int.not_le, Bool.not_eq_true, Bool.not_eq_false, bne_iff_ne, ne_eq, beq_iff_eq, bne_eq_false_iff_eq, beq_eq_false_iff_ne] at h) <;> (try (exfalso; omega))) | refine awp_ret ?_))
      (refine retA_is (by (simp (implicitDefEqProofs := false) (maxSteps := 2000000) (disch := omega) only [go_sem, Go.Proofs.Tryd.results76, valT, h, hn, eT, markT, str]); rfl) ?_; refine embS_frz (by simp only [oneA]; simp (implicitDefEqProofs := false) (maxSteps := 2000000) (disch := omega) only [go_sem, valT, h, hn, eT, markT, str]; rfl) ?_; refine (embV_nil hE (by simp) ?_).s; simp [oneA, ren, renL, valT, h, hn, eT, markT, str])
  · (repeat' (first | refine awp_seq ?_ | refine awp_block ?_ | refine awp_skip ?_ | refine awp_exit ?_ | ((first | refine awp_r (by kernel_rfl) (fun K kp hK hkp => ?_) | refine awp_dr (id := 3) mixed 3 [0, 1, 2] (by kernel_rfl) (by kernel_rfl) (by kernel_rfl) (by simp only [go_sem]; rfl) (by simp only [go_sem]; rfl) (by simp only [go_sem]; rfl) (fun K kp hK hkp => ?_) | refine awp_dr (id := 5) mixed 3 [0, 1, 2] (by kernel_rfl) (by kernel_rfl) (by kernel_rfl) (by simp only [go_sem]; rfl) (by simp only [go_sem]; rfl) (by simp only [go_sem]; rfl) (fun K kp hK hkp => ?_) | ((first | apply callR_i (yt) | apply callD_i (yt) | apply callX_i (yt)); (case hb => (simp (implicitDefEqProofs := false) (maxSteps := 2000000) (disch := omega) only [go_sem, eV, h]; first | done | rfl)); (case hp => (first | (simp [-List.map_drop, -List.map_take, eV, h]; done) | exact .ro _ _ (pt_map _ _))); (case hq => (first | (simp [-List.map_drop, -List.map_take]; done) | (intro _ h; simp only [List.mem_singleton] at h; subst h; exact pt_map _ _)))) | ((first | apply callR_i (yf) | apply callD_i (yf) | apply callX_i (yf)); (case hb => (simp (implicitDefEqProofs := false) (maxSteps := 2000000) (disch := omega) only [go_sem, eV, h]; first | done | rfl)); (case hp => (first | (simp [-List.map_drop, -List.map_take, eV, h]; done) | exact .ro _ _ (pt_map _ _))); (case hq => (first | (simp [-List.map_drop, -List.map_take]; done) | (intro _ h; simp only [List.mem_singleton] at h; subst h; exact pt_map _ _))))); simp (implicitDefEqProofs := false) (maxSteps := 2000000) (disch := omega) only [go_sem, eV, h]; (repeat' (first | (refine hK _ ?_; clear hK hkp kp K) | (with_reducible refine And.intro ?_ ?_) | omega))) | ((first | refine goG_ask (fun h => ?_) (fun h => ?_) | refine goGD_ask (fun h => ?_) (fun h => ?_) | refine goGX_ask (fun h => ?_) (fun h => ?_)) <;> (simp (implicitDefEqProofs := false) (maxSteps := 2000000) (disch := omega) only [go_sem, eV, h, h]; (repeat' (first | (refine hK _ ?_; clear hK hkp kp K) | (with_reducible refine And.intro ?_ ?_) | omega)))) | refine awp_cond_t rfl ?_ | refine awp_cond_f rfl ?_ | ((refine awp_cond rfl (fun h => ?_) (fun h => ?_) <;> try simp only [decide_eq_true_eq, decide_eq_false_iff_not, Int.not_lt, Int.not_le, Bool.not_eq_true, Bool.not_eq_false, bne_iff_ne, ne_eq, beq_iff_eq, bne_eq_false_iff_eq, beq_eq_false_iff_ne] at h) <;> (try (exfalso; omega))) | refine awp_ret ?_))
    (refine retA_is (by (simp (implicitDefEqProofs := false) (maxSteps := 2000000) (disch := omega) only [go_sem, Go.Proofs.Tryd.results76, valT, h, eT, str]); rfl) ?_; refine embS_frz (by simp only [oneA]; simp (implicitDefEqProofs := false) (maxSteps := 2000000) (disch := omega) only [go_sem, valT, h, eT, str]; rfl) ?_; refine (embV_nil hE (by simp) ?_).s; simp [oneA, ren, renL, valT, h, eT, str])
end Go.AM
