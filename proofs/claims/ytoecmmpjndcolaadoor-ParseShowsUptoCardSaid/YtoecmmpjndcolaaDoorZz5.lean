/- Texts of the law ParseChecks, part 5: lemmas; what is proved stands in the last text. -/
import Derived.Test.YtoecmmpjndcolaaDoorZz4
import Derived.Test.YtoecmmpjndcolaaDoorZz3
set_option linter.unusedSimpArgs false
set_option linter.unusedVariables false
/- Statements: slices.Concat of rows of tokens. -/
namespace Go.AM
open Go Go.RowKit
open Go.Proofs.YtoecmmpjndcolaaDoor (OP nameM litM exprM marksS wordsS StrsAt str SlAt letB wrdB digB bt vcheck)
attribute [local irreducible] AWP retA
def zT : List AV := [.r (.int .i64 0), .r (.string ⟨#[]⟩), .r (.int .i64 0)]
@[simp] theorem ptA_zT : (∀ x, x ∈ zT → PT x) = True := eq_true (by intro x hx; simp [zT] at hx; rcases hx with rfl | rfl | rfl <;> exact .r _)
set_option maxRecDepth 100000 in
theorem growT_con (G : List (Nat × List Value)) (n : Nat) (hn : 0 < n) (hb : n ≤ 1000000) : Con Go.Proofs.Tryd.prog G 114 [.r (.slice none 0 0), .r (.int .i64 n)] [] 0 (Is (.s 0 0 0) [(0, .lst 61 3 (List.replicate n zT))] 1) No := by
  refine con_of_awp Go.Proofs.Tryd.func114 rfl (by kernel_rfl) (of_decide_eq_true (by kernel_rfl)) ?_; intro E hG hE; subst hG; simp only [ent]
  have d1 : decide ((n : Int) < 0) = false := decide_eq_false (by omega)
  have d2 : decide ((n : Int) > 0) = true := decide_eq_true (by omega)
  (repeat' (first | refine awp_seq ?_ | refine awp_block ?_ | refine awp_skip ?_ | refine awp_exit ?_ | ((first | refine awp_r (by kernel_rfl) (fun K kp hK hkp => ?_)); simp (implicitDefEqProofs := false) (maxSteps := 2000000) (disch := omega) only [go_sem, d1, d2, Int.sub_zero, Value.oneCell', List.all_cons, List.all_nil, Bool.and_self, Int.toNat_natCast]; (repeat' (first | (refine hK _ ?_; clear hK hkp kp K) | (with_reducible refine And.intro ?_ ?_) | omega))) | ((first | refine goG_ask (fun h => ?_) (fun h => ?_) | refine goGD_ask (fun h => ?_) (fun h => ?_) | refine goGX_ask (fun h => ?_) (fun h => ?_)) <;> (simp (implicitDefEqProofs := false) (maxSteps := 2000000) (disch := omega) only [go_sem, d1, d2, Int.sub_zero, Value.oneCell', List.all_cons, List.all_nil, Bool.and_self, Int.toNat_natCast, h]; (repeat' (first | (refine hK _ ?_; clear hK hkp kp K) | (with_reducible refine And.intro ?_ ?_) | omega)))) | refine awp_cond_t rfl ?_ | refine awp_cond_f rfl ?_ | ((refine awp_cond rfl (fun h => ?_) (fun h => ?_) <;> try simp only [decide_eq_true_eq, decide_eq_false_iff_not, Int.not_lt, Int.not_le, Bool.not_eq_true, Bool.not_eq_false, bne_iff_ne, ne_eq, beq_iff_eq, bne_eq_false_iff_eq, beq_eq_false_iff_ne] at h) <;> (try (exfalso; omega))) | refine awp_ret ?_))
  (refine retA_is (by (simp (implicitDefEqProofs := false) (maxSteps := 2000000) (disch := omega) only [go_sem, Go.Proofs.Tryd.results114, zT]); rfl) ?_; refine (embV [0] ?_ ?_ ?_ ?_ ?_ ?_).s <;> simp [oneA, okO, lk, ren, renL, renNd, by_, hE, zT])
theorem flat_take {ls : List (List TK0)} {k : Nat} {x : List TK0} (h : ls[k]? = some x) : (ls.take (k + 1)).flatten = (ls.take k).flatten ++ x := by
  rw [List.take_add_one, h]; simp
theorem flat_len {ls : List (List TK0)} (h : ∀ x ∈ ls, x.length ≤ 1000) : ls.flatten.length ≤ 1000 * ls.length := by
  induction ls with
  | nil => simp
  | cons x r ih =>
    have := ih (fun y hy => h y (by simp [hy]))
    have := h x (by simp)
    rw [List.flatten_cons, List.length_append, List.length_cons]; omega
set_option maxRecDepth 100000 in
set_option maxHeartbeats 4000000 in
theorem concatT_con (G : List (Nat × List Value)) (t : Bool) (ls : List (List TK0)) (hl : ls.length ≤ 100) (hs : ∀ x ∈ ls, x.length ≤ 1000) (hp : 0 < ls.flatten.length) : Con Go.Proofs.Tryd.prog G 68 [.ro t 1 (ls.map eTs)] [] 0 (Is (.ro true 3 (ls.flatten.map eT)) [] 0) No := by
  refine con_of_awp Go.Proofs.Tryd.func68 rfl (by kernel_rfl) (of_decide_eq_true (by kernel_rfl)) ?_; intro E hG hE; subst hG; simp only [ent]
  (repeat' (first | refine awp_seq ?_ | refine awp_block ?_ | refine awp_skip ?_ | refine awp_exit ?_ | ((first | refine awp_r (by kernel_rfl) (fun K kp hK hkp => ?_)); simp (implicitDefEqProofs := false) (maxSteps := 2000000) (disch := omega) only [go_sem]; (repeat' (first | (refine hK _ ?_; clear hK hkp kp K) | (with_reducible refine And.intro ?_ ?_) | omega))) | ((first | refine goG_ask (fun h => ?_) (fun h => ?_) | refine goGD_ask (fun h => ?_) (fun h => ?_) | refine goGX_ask (fun h => ?_) (fun h => ?_)) <;> (simp (implicitDefEqProofs := false) (maxSteps := 2000000) (disch := omega) only [go_sem, h]; (repeat' (first | (refine hK _ ?_; clear hK hkp kp K) | (with_reducible refine And.intro ?_ ?_) | omega)))) | refine awp_cond_t rfl ?_ | refine awp_cond_f rfl ?_ | ((refine awp_cond rfl (fun h => ?_) (fun h => ?_) <;> try simp only [decide_eq_true_eq, decide_eq_false_iff_not, Int.not_lt, Int.not_le, Bool.not_eq_true, Bool.not_eq_false, bne_iff_ne, ne_eq, beq_iff_eq, bne_eq_false_iff_eq, beq_eq_false_iff_ne] at h) <;> (try (exfalso; omega))) | refine awp_ret ?_))
  have hfl := flat_len hs
  refine awp_loop (fun k : Nat => ⟨[(11, .r (.int .i64 k)), (10, .r (.int .i64 ls.length)), (9, .ro t 1 (ls.map eTs)), (3, .r (.int .i64 (ls.take k).flatten.length)), (0, .ro t 1 (ls.map eTs))], [], 0⟩) (fun k => k ≤ ls.length) (fun k => ls.length - k) 0 ?_ ?_ ?_
  · simp
  · (refine emb [] ?_ ?_ rfl ?_ ?_ ?_ ?_ <;> simp [okM, okO, lk, ren, renL, renNd, by_, hE] <;> (try omega))
  intro k hk
  have hle : (ls.take k).flatten.length ≤ 1000 * 100 := by
    have := flat_len (ls := ls.take k) (fun x hx => hs x (List.mem_of_mem_take hx))
    simp at this ⊢; omega
  by_cases hk' : k < ls.length
  · obtain ⟨x, hx⟩ : ∃ x, ls[k]? = some x := ⟨ls[k], by simp [hk']⟩
    have hft := flat_take hx
    have hxl := hs x (List.mem_of_getElem? hx)
    generalize (ls.take k).flatten = q at hft hle ⊢
    have d1 : decide ((q.length : Int) + (x.length : Int) < 0) = false := decide_eq_false (by omega)
    (repeat' (first | refine awp_seq ?_ | refine awp_block ?_ | refine awp_skip ?_ | refine awp_exit ?_ | ((first | refine awp_r (by kernel_rfl) (fun K kp hK hkp => ?_)); simp (implicitDefEqProofs := false) (maxSteps := 2000000) (disch := omega) only [go_sem, hx, eTs, d1]; (repeat' (first | (refine hK _ ?_; clear hK hkp kp K) | (with_reducible refine And.intro ?_ ?_) | omega))) | ((first | refine goG_ask (fun h => ?_) (fun h => ?_) | refine goGD_ask (fun h => ?_) (fun h => ?_) | refine goGX_ask (fun h => ?_) (fun h => ?_)) <;> (simp (implicitDefEqProofs := false) (maxSteps := 2000000) (disch := omega) only [go_sem, hx, eTs, d1, h]; (repeat' (first | (refine hK _ ?_; clear hK hkp kp K) | (with_reducible refine And.intro ?_ ?_) | omega)))) | refine awp_cond_t rfl ?_ | refine awp_cond_f rfl ?_ | ((refine awp_cond rfl (fun h => ?_) (fun h => ?_) <;> try simp only [decide_eq_true_eq, decide_eq_false_iff_not, Int.not_lt, Int.not_le, Bool.not_eq_true, Bool.not_eq_false, bne_iff_ne, ne_eq, beq_iff_eq, bne_eq_false_iff_eq, beq_eq_false_iff_ne] at h) <;> (try (exfalso; omega))) | refine awp_ret ?_))
    ((first | (refine nextB (k + 1) ?_ ?_ ?_) | (refine nextA (k + 1) ?_ ?_ ?_)); rotate_left; (· (try dsimp only); (first | omega | (simp only [List.length_drop, List.length_cons, List.length_append]; omega) | (simp; done) | (simp; omega))); (· (refine emb [] ?_ ?_ rfl ?_ ?_ ?_ ?_ <;> simp [okM, okO, lk, ren, renL, renNd, by_, hE, hft] <;> (try omega))))
    omega
  · obtain rfl : k = ls.length := by omega
    rw [List.take_of_length_le (Nat.le_refl _)] at hle ⊢
    have gc := growT_con E.G ls.flatten.length hp (by omega)
    obtain ⟨fl, hfe⟩ : ∃ fl, fl = ls.flatten := ⟨_, rfl⟩
    rw [← hfe] at hp hfl hle gc ⊢
    (repeat' (first | refine awp_seq ?_ | refine awp_block ?_ | refine awp_skip ?_ | refine awp_exit ?_ | ((first | refine awp_r (by kernel_rfl) (fun K kp hK hkp => ?_) | ((first | apply callR_i (gc) | apply callD_i (gc) | apply callX_i (gc)); (case hb => (simp (implicitDefEqProofs := false) (maxSteps := 2000000) (disch := omega) only [go_sem]; first | done | rfl)); (case hp => (first | (simp [-List.map_drop, -List.map_take]; done) | exact .ro _ _ (pt_map _ _))); (case hq => (first | (simp [-List.map_drop, -List.map_take]; done) | (intro _ h; simp only [List.mem_singleton] at h; subst h; exact pt_map _ _))))); simp (implicitDefEqProofs := false) (maxSteps := 2000000) (disch := omega) only [go_sem]; (repeat' (first | (refine hK _ ?_; clear hK hkp kp K) | (with_reducible refine And.intro ?_ ?_) | omega))) | ((first | refine goG_ask (fun h => ?_) (fun h => ?_) | refine goGD_ask (fun h => ?_) (fun h => ?_) | refine goGX_ask (fun h => ?_) (fun h => ?_)) <;> (simp (implicitDefEqProofs := false) (maxSteps := 2000000) (disch := omega) only [go_sem, h]; (repeat' (first | (refine hK _ ?_; clear hK hkp kp K) | (with_reducible refine And.intro ?_ ?_) | omega)))) | refine awp_cond_t rfl ?_ | refine awp_cond_f rfl ?_ | ((refine awp_cond rfl (fun h => ?_) (fun h => ?_) <;> try simp only [decide_eq_true_eq, decide_eq_false_iff_not, Int.not_lt, Int.not_le, Bool.not_eq_true, Bool.not_eq_false, bne_iff_ne, ne_eq, beq_iff_eq, bne_eq_false_iff_eq, beq_eq_false_iff_ne] at h) <;> (try (exfalso; omega))) | refine awp_ret ?_))
    refine awp_loop (fun q : Nat × List (List AV) => ⟨[(27, .r (.int .i64 q.1)), (26, .r (.int .i64 ls.length)), (25, .ro t 1 (ls.map eTs)), (6, .s 0 0 (ls.take q.1).flatten.length)], [(0, .lst 61 3 ((ls.take q.1).flatten.map eT ++ q.2))], 1⟩) (fun q => q.1 ≤ ls.length ∧ (q.1 = 0 ∨ q.2 = [])) (fun q => ls.length - q.1) (0, List.replicate fl.length zT) ?_ ?_ ?_
    · exact ⟨by simp, .inl rfl⟩
    · (refine emb [0] ?_ ?_ rfl ?_ ?_ ?_ ?_ <;> simp [okM, okO, lk, ren, renL, renNd, by_, hE] <;> (try omega))
    rintro ⟨k, jz⟩ ⟨hkl, hjz⟩
    simp only at hkl hjz ⊢
    have hle : (ls.take k).flatten.length ≤ 1000 * 100 := by
      have := flat_len (ls := ls.take k) (fun x hx => hs x (List.mem_of_mem_take hx))
      simp only [List.length_take] at this; omega
    by_cases hlt : k < ls.length
    · obtain ⟨x, hx⟩ : ∃ x, ls[k]? = some x := ⟨ls[k], by simp [hlt]⟩
      have hft := flat_take hx
      have hxl := hs x (List.mem_of_getElem? hx)
      generalize (ls.take k).flatten = q at hft hle ⊢
      have htk : List.take q.length (List.map eT q ++ jz) = List.map eT q := List.take_left' (by simp)
      (repeat' (first | refine awp_seq ?_ | refine awp_block ?_ | refine awp_skip ?_ | refine awp_exit ?_ | ((first | refine awp_r (by kernel_rfl) (fun K kp hK hkp => ?_)); simp (implicitDefEqProofs := false) (maxSteps := 2000000) (disch := omega) only [go_sem, hx, eTs, htk]; (repeat' (first | (refine hK _ ?_; clear hK hkp kp K) | (with_reducible refine And.intro ?_ ?_) | omega))) | ((first | refine goG_ask (fun h => ?_) (fun h => ?_) | refine goGD_ask (fun h => ?_) (fun h => ?_) | refine goGX_ask (fun h => ?_) (fun h => ?_)) <;> (simp (implicitDefEqProofs := false) (maxSteps := 2000000) (disch := omega) only [go_sem, hx, eTs, htk, h]; (repeat' (first | (refine hK _ ?_; clear hK hkp kp K) | (with_reducible refine And.intro ?_ ?_) | omega)))) | refine awp_cond_t rfl ?_ | refine awp_cond_f rfl ?_ | ((refine awp_cond rfl (fun h => ?_) (fun h => ?_) <;> try simp only [decide_eq_true_eq, decide_eq_false_iff_not, Int.not_lt, Int.not_le, Bool.not_eq_true, Bool.not_eq_false, bne_iff_ne, ne_eq, beq_iff_eq, bne_eq_false_iff_eq, beq_eq_false_iff_ne] at h) <;> (try (exfalso; omega))) | refine awp_ret ?_))
      ((first | (refine nextB ((k + 1, [])) ?_ ?_ ?_) | (refine nextA ((k + 1, [])) ?_ ?_ ?_)); rotate_left; (· (try dsimp only); (first | omega | (simp only [List.length_drop, List.length_cons, List.length_append]; omega) | (simp; done) | (simp; omega))); (· (refine emb [1] ?_ ?_ rfl ?_ ?_ ?_ ?_ <;> simp [okM, okO, lk, ren, renL, renNd, by_, hE, hft] <;> (try omega))))
      exact ⟨by omega, .inr rfl⟩
    · obtain rfl : k = ls.length := by omega
      have hjz : jz = [] := by
        rcases hjz with h0 | h0
        · rw [List.length_eq_zero_iff.1 h0] at hfe; rw [hfe] at hp; simp at hp
        · exact h0
      subst hjz
      rw [List.take_of_length_le (Nat.le_refl _), ← hfe]
      (repeat' (first | refine awp_seq ?_ | refine awp_block ?_ | refine awp_skip ?_ | refine awp_exit ?_ | ((first | refine awp_r (by kernel_rfl) (fun K kp hK hkp => ?_)); simp (implicitDefEqProofs := false) (maxSteps := 2000000) (disch := omega) only [go_sem]; (repeat' (first | (refine hK _ ?_; clear hK hkp kp K) | (with_reducible refine And.intro ?_ ?_) | omega))) | ((first | refine goG_ask (fun h => ?_) (fun h => ?_) | refine goGD_ask (fun h => ?_) (fun h => ?_) | refine goGX_ask (fun h => ?_) (fun h => ?_)) <;> (simp (implicitDefEqProofs := false) (maxSteps := 2000000) (disch := omega) only [go_sem, h]; (repeat' (first | (refine hK _ ?_; clear hK hkp kp K) | (with_reducible refine And.intro ?_ ?_) | omega)))) | refine awp_cond_t rfl ?_ | refine awp_cond_f rfl ?_ | ((refine awp_cond rfl (fun h => ?_) (fun h => ?_) <;> try simp only [decide_eq_true_eq, decide_eq_false_iff_not, Int.not_lt, Int.not_le, Bool.not_eq_true, Bool.not_eq_false, bne_iff_ne, ne_eq, beq_iff_eq, bne_eq_false_iff_eq, beq_eq_false_iff_ne] at h) <;> (try (exfalso; omega))) | refine awp_ret ?_))
      (refine retA_is (by (simp (implicitDefEqProofs := false) (maxSteps := 2000000) (disch := omega) only [go_sem, Go.Proofs.Tryd.results68, List.append_nil]); rfl) ?_; refine embS_frz (by simp only [oneA]; simp (implicitDefEqProofs := false) (maxSteps := 2000000) (disch := omega) only [go_sem, List.append_nil]; rfl) ?_; refine (embV_nil hE (by simp) ?_).s; simp [oneA, ren, renL, List.append_nil])
end Go.AM
/- Statements: ops as tokens: parse.showOps. -/
namespace Go.AM
open Go Go.RowKit
open Go.Proofs.YtoecmmpjndcolaaDoor (OP nameM litM exprM marksS wordsS StrsAt str SlAt letB wrdB digB bt vcheck popsM)
attribute [local irreducible] AWP retA
def betT (k : Int) : TK0 :=
  if k = 3 then wordT (str [65, 78, 68]) else if k = 4 then wordT (str [79, 82]) else if k = 6 then markT (str [61]) else if k = 7 then markT (str [60]) else if k = 8 then markT (str [43]) else if k = 9 then markT (str [45]) else markT (str [42])
set_option maxRecDepth 100000 in
theorem between_con (G : List (Nat × List Value)) (k : Int) (h : k = 3 ∨ k = 4 ∨ k = 6 ∨ k = 7 ∨ k = 8 ∨ k = 9 ∨ k = 10) : Con Go.Proofs.Tryd.prog G 115 [.r (.int .i64 k)] [] 0 (Is (.agg (eT (betT k))) [] 0) No := by
  rcases h with rfl | rfl | rfl | rfl | rfl | rfl | rfl
  all_goals
    refine con_of_awp Go.Proofs.Tryd.func115 rfl (by kernel_rfl) (of_decide_eq_true (by kernel_rfl)) ?_; intro E hG hE; subst hG; simp only [ent]
    (repeat' (first | refine awp_seq ?_ | refine awp_block ?_ | refine awp_skip ?_ | refine awp_exit ?_ | ((first | refine awp_r (by kernel_rfl) (fun K kp hK hkp => ?_) | ((first | apply callR_i (word_con _ _) | apply callD_i (word_con _ _) | apply callX_i (word_con _ _)); (case hb => (simp (implicitDefEqProofs := false) (maxSteps := 2000000) (disch := omega) only [go_sem, eT, wordT, markT]; first | done | rfl)); (case hp => (first | (simp [-List.map_drop, -List.map_take, eT, wordT, markT]; done) | exact .ro _ _ (pt_map _ _))); (case hq => (first | (simp [-List.map_drop, -List.map_take]; done) | (intro _ h; simp only [List.mem_singleton] at h; subst h; exact pt_map _ _)))) | ((first | apply callR_i (mark_con _ _) | apply callD_i (mark_con _ _) | apply callX_i (mark_con _ _)); (case hb => (simp (implicitDefEqProofs := false) (maxSteps := 2000000) (disch := omega) only [go_sem, eT, wordT, markT]; first | done | rfl)); (case hp => (first | (simp [-List.map_drop, -List.map_take, eT, wordT, markT]; done) | exact .ro _ _ (pt_map _ _))); (case hq => (first | (simp [-List.map_drop, -List.map_take]; done) | (intro _ h; simp only [List.mem_singleton] at h; subst h; exact pt_map _ _))))); simp (implicitDefEqProofs := false) (maxSteps := 2000000) (disch := omega) only [go_sem, eT, wordT, markT]; (repeat' (first | (refine hK _ ?_; clear hK hkp kp K) | (with_reducible refine And.intro ?_ ?_) | omega))) | ((first | refine goG_ask (fun h => ?_) (fun h => ?_) | refine goGD_ask (fun h => ?_) (fun h => ?_) | refine goGX_ask (fun h => ?_) (fun h => ?_)) <;> (simp (implicitDefEqProofs := false) (maxSteps := 2000000) (disch := omega) only [go_sem, eT, wordT, markT, h]; (repeat' (first | (refine hK _ ?_; clear hK hkp kp K) | (with_reducible refine And.intro ?_ ?_) | omega)))) | refine awp_cond_t rfl ?_ | refine awp_cond_f rfl ?_ | ((refine awp_cond rfl (fun h => ?_) (fun h => ?_) <;> try simp only [decide_eq_true_eq, decide_eq_false_iff_not, Int.not_lt, Int.not_le, Bool.not_eq_true, Bool.not_eq_false, bne_iff_ne, ne_eq, beq_iff_eq, bne_eq_false_iff_eq, beq_eq_false_iff_ne] at h) <;> (try (exfalso; omega))) | refine awp_ret ?_))
    (refine retA_is (by (simp (implicitDefEqProofs := false) (maxSteps := 2000000) (disch := omega) only [go_sem, Go.Proofs.Tryd.results115, eT, betT, wordT, markT, str]); rfl) ?_; refine (embV_nil hE (by simp) ?_).s; simp [oneA, ren, renL, eT, betT, wordT, markT, str])
def lparT : TK0 := markT (str [40])
def rparT : TK0 := markT (str [41])
/-- What an op makes of the tokens of what it works on. -/
def stepT (o : OP) (a b : List TK0) : List TK0 :=
  if o.k = 1 then valT ⟨o.vk, o.vn, o.vs⟩ else if o.k = 2 then [wordT o.nm] else if o.k = 5 then [lparT, wordT (str [78, 79, 84])] ++ a ++ [rparT]
  else if o.k = 11 then [lparT] ++ a ++ [wordT (str [73, 83]), wordT nullS] ++ [rparT] else [lparT] ++ a ++ [betT o.k] ++ b ++ [rparT]
def stepF (o : OP) (a b : List TK0) : Except Int (List TK0) := .ok (stepT o a b)
theorem stepT_len (o : OP) (a b : List TK0) : (stepT o a b).length ≤ a.length + b.length + 4 := by
  unfold stepT
  split
  · have := valT_len ⟨o.vk, o.vn, o.vs⟩; omega
  repeat' split
  all_goals (simp <;> omega)
def okO2 (o : OP) : Prop := (1 ≤ o.k ∧ o.k ≤ 11) ∧ (o.k = 1 → GoodV ⟨o.vk, o.vn, o.vs⟩ ∧ o.vn ≤ 9223372036854775807)
theorem mem_flat_len {st : List (List TK0)} {x : List TK0} (h : x ∈ st) : x.length ≤ st.flatten.length := by
  induction st with
  | nil => cases h
  | cons y r ih =>
    rw [List.flatten_cons, List.length_append]
    rcases List.mem_cons.1 h with rfl | h
    · omega
    · have := ih h; omega
theorem take_flat_len (st : List (List TK0)) (n : Nat) : (st.take n).flatten.length + ((st.drop n).flatten.length) = st.flatten.length := by
  rw [← List.length_append, ← List.flatten_append, List.take_append_drop]
def foldT (x : Except Int (List (List TK0))) : List TK0 := match x with
  | .error _ => []
  | .ok st => st.getD 0 []
theorem pops_con (G : List (Nat × List Value)) (k : Int) : Con Go.Proofs.Tryd.prog G 106 [.r (.int .i64 k)] [] 0 (Is (.r (.int .i64 (popsM k))) [] 0) No :=
  con_of_calls (by kernel_rfl) (fun w z vs hz hr hG => by
    obtain ⟨v, r, rfl, h1, h2⟩ := hr.head
    obtain rfl := h1.r_inv
    obtain rfl := h2.of_nil
    exact (Go.Proofs.YtoecmmpjndcolaaDoor.pops_any k w).mono (fun e w' ⟨he, hw⟩ => by subst hw; exact ⟨he, Below.refl _ _⟩))
theorem hgtT_step {o : OP} {r : List OP} {n m : Nat} (h : hgt arO (o :: r) n = some m) : arO o ≤ n ∧ hgt arO r (n + 1 - arO o) = some m := by
  unfold hgt at h
  split at h
  · cases h
  · exact ⟨by omega, h⟩
theorem arT_ks {o : OP} (h1 : 1 ≤ o.k) (h11 : o.k ≤ 11) : (arO o = 0 → o.k = 1 ∨ o.k = 2) ∧ (arO o = 1 → o.k = 5 ∨ o.k = 11) ∧ (arO o = 2 → o.k = 3 ∨ o.k = 4 ∨ o.k = 6 ∨ o.k = 7 ∨ o.k = 8 ∨ o.k = 9 ∨ o.k = 10) := by
  obtain h | h | h | h | h | h | h | h | h | h | h : o.k = 1 ∨ o.k = 2 ∨ o.k = 3 ∨ o.k = 4 ∨ o.k = 5 ∨ o.k = 6 ∨ o.k = 7 ∨ o.k = 8 ∨ o.k = 9 ∨ o.k = 10 ∨ o.k = 11 := by omega
  all_goals simp [arO, popsM, h]
set_option maxRecDepth 100000 in
set_option maxHeartbeats 16000000 in
theorem showOps_con (G : List (Nat × List Value)) (t : Bool) (ops : List OP) (ho : ops.length ≤ 40) (hk : ∀ o ∈ ops, okO2 o) (hh : hgt arO ops 0 = some 1) :
    Con Go.Proofs.Tryd.prog G 70 [.ro t 5 (ops.map eO)] [] 0 (Is (.ro true 3 ((foldT (foldS arO stepF [] ops [])).map eT)) [] 0) No := by
  refine con_of_awp Go.Proofs.Tryd.func70 rfl (by kernel_rfl) (of_decide_eq_true (by kernel_rfl)) ?_; intro E hG hE; subst hG; simp only [ent]
  (repeat' (first | refine awp_seq ?_ | refine awp_block ?_ | refine awp_skip ?_ | refine awp_exit ?_ | ((first | refine awp_r (by kernel_rfl) (fun K kp hK hkp => ?_)); simp (implicitDefEqProofs := false) (maxSteps := 2000000) (disch := omega) only [go_sem]; (repeat' (first | (refine hK _ ?_; clear hK hkp kp K) | (with_reducible refine And.intro ?_ ?_) | omega))) | ((first | refine goG_ask (fun h => ?_) (fun h => ?_) | refine goGD_ask (fun h => ?_) (fun h => ?_) | refine goGX_ask (fun h => ?_) (fun h => ?_)) <;> (simp (implicitDefEqProofs := false) (maxSteps := 2000000) (disch := omega) only [go_sem, h]; (repeat' (first | (refine hK _ ?_; clear hK hkp kp K) | (with_reducible refine And.intro ?_ ?_) | omega)))) | refine awp_cond_t rfl ?_ | refine awp_cond_f rfl ?_ | ((refine awp_cond rfl (fun h => ?_) (fun h => ?_) <;> try simp only [decide_eq_true_eq, decide_eq_false_iff_not, Int.not_lt, Int.not_le, Bool.not_eq_true, Bool.not_eq_false, bne_iff_ne, ne_eq, beq_iff_eq, bne_eq_false_iff_eq, beq_eq_false_iff_ne] at h) <;> (try (exfalso; omega))) | refine awp_ret ?_))
  (refine AWP.emb (emb_nil 3 42 1 ?_) ?_; (· rfl); dsimp only)
  refine awp_loop (fun q : Nat × List (List TK0) => ⟨[(10, .r (.int .i64 q.1)), (9, .r (.int .i64 ops.length)), (8, .ro t 5 (ops.map eO)), (3, .s 0 0 q.2.length)], [(0, .lst 42 1 (q.2.map eTs))], 1⟩)
    (fun q => q.1 ≤ ops.length ∧ q.2.length ≤ q.1 ∧ q.2.flatten.length ≤ 4 * q.1 ∧ foldS arO stepF [] (ops.drop q.1) q.2 = foldS arO stepF [] ops [] ∧ hgt arO (ops.drop q.1) q.2.length = some 1) (fun q => ops.length - q.1) (0, []) ?_ ?_ ?_
  · exact ⟨by simp, by simp, by simp, by simp, by simpa using hh⟩
  · (refine emb [0] ?_ ?_ rfl ?_ ?_ ?_ ?_ <;> simp [okM, okO, lk, ren, renL, renNd, by_, hE] <;> (try omega))
  rintro ⟨k, st⟩ ⟨hkl, hsl, hfl, hno, hg⟩
  simp only at hkl hsl hfl hno hg ⊢
  have ml := mark_con E.G (str [40])
  have mr := mark_con E.G (str [41])
  simp only [eT, markT, str] at ml mr
  by_cases hlt : k < ops.length
  · obtain ⟨o, hx⟩ : ∃ x, ops[k]? = some x := ⟨ops[k], by simp [hlt]⟩
    obtain ⟨⟨g1, g11⟩, gv⟩ := hk o (List.mem_of_getElem? hx)
    rw [drop_at hx] at hno hg
    obtain ⟨har, hg2⟩ := hgtT_step hg
    have wc := pops_con E.G o.k
    have hpb := Go.Proofs.YtoecmmpjndcolaaDoor.popsM_bd o.k
    have hpa : popsM o.k = (arO o : Nat) := by unfold arO; omega
    rw [hpa] at wc
    rw [foldS] at hno
    have h2 := arO_le o
    obtain h0 | h0 | h0 : arO o = 0 ∨ arO o = 1 ∨ arO o = 2 := by omega
    · rw [h0] at wc hno hg2
      simp only [Int.cast_ofNat_Int] at wc
      have em : ((st.length : Int) - 0) = (st.length : Int) := by omega
      simp only [Nat.lt_irrefl, if_false, Nat.sub_zero, List.take_length, show ¬ 1 < 0 by omega, stepF] at hno
      have hlen := stepT_len o [] []
      obtain h | h := (arT_ks g1 g11).1 h0
      · have sc := showValue_con E.G ⟨o.vk, o.vn, o.vs⟩ (gv h).1 (gv h).2
        have hst : stepT o [] [] = valT ⟨o.vk, o.vn, o.vs⟩ := by simp [stepT, h]
        rw [hst] at hno hlen
        generalize valT ⟨o.vk, o.vn, o.vs⟩ = vt at *
        simp only [eV] at sc
        (repeat' (first | refine awp_seq ?_ | refine awp_block ?_ | refine awp_skip ?_ | refine awp_exit ?_ | ((first | refine awp_r (by kernel_rfl) (fun K kp hK hkp => ?_) | ((first | apply callR_i (wc) | apply callD_i (wc) | apply callX_i (wc)); (case hb => (simp (implicitDefEqProofs := false) (maxSteps := 2000000) (disch := omega) only [go_sem, hx, eO, h, em]; first | done | rfl)); (case hp => (first | (simp [-List.map_drop, -List.map_take, hx, eO, h, em]; done) | exact .ro _ _ (pt_map _ _))); (case hq => (first | (simp [-List.map_drop, -List.map_take]; done) | (intro _ h; simp only [List.mem_singleton] at h; subst h; exact pt_map _ _)))) | ((first | apply callR_i (sc) | apply callD_i (sc) | apply callX_i (sc)); (case hb => (simp (implicitDefEqProofs := false) (maxSteps := 2000000) (disch := omega) only [go_sem, hx, eO, h, em]; first | done | rfl)); (case hp => (first | (simp [-List.map_drop, -List.map_take, hx, eO, h, em]; done) | exact .ro _ _ (pt_map _ _))); (case hq => (first | (simp [-List.map_drop, -List.map_take]; done) | (intro _ h; simp only [List.mem_singleton] at h; subst h; exact pt_map _ _))))); simp (implicitDefEqProofs := false) (maxSteps := 2000000) (disch := omega) only [go_sem, hx, eO, h, em]; (repeat' (first | (refine hK _ ?_; clear hK hkp kp K) | (with_reducible refine And.intro ?_ ?_) | omega))) | ((first | refine goG_ask (fun h => ?_) (fun h => ?_) | refine goGD_ask (fun h => ?_) (fun h => ?_) | refine goGX_ask (fun h => ?_) (fun h => ?_)) <;> (simp (implicitDefEqProofs := false) (maxSteps := 2000000) (disch := omega) only [go_sem, hx, eO, h, em, h]; (repeat' (first | (refine hK _ ?_; clear hK hkp kp K) | (with_reducible refine And.intro ?_ ?_) | omega)))) | refine awp_cond_t rfl ?_ | refine awp_cond_f rfl ?_ | ((refine awp_cond rfl (fun h => ?_) (fun h => ?_) <;> try simp only [decide_eq_true_eq, decide_eq_false_iff_not, Int.not_lt, Int.not_le, Bool.not_eq_true, Bool.not_eq_false, bne_iff_ne, ne_eq, beq_iff_eq, bne_eq_false_iff_eq, beq_eq_false_iff_ne] at h) <;> (try (exfalso; omega))) | refine awp_ret ?_))
        ((first | (refine nextB ((k + 1, st ++ [vt])) ?_ ?_ ?_) | (refine nextA ((k + 1, st ++ [vt])) ?_ ?_ ?_)); rotate_left; (· (try dsimp only); (first | omega | (simp only [List.length_drop, List.length_cons, List.length_append]; omega) | (simp; done) | (simp; omega))); (· (refine emb [3] ?_ ?_ rfl ?_ ?_ ?_ ?_ <;> simp [okM, okO, lk, ren, renL, renNd, by_, hE, eTs] <;> (try omega))))
        exact ⟨by omega, by simp; omega, by simp only [List.flatten_append, List.length_append, List.flatten_cons, List.flatten_nil, List.length_nil, List.append_nil] at hlen ⊢; omega, hno, by first | (rw [← hg2]; congr 1; simp; done) | (rw [← hg2]; congr 1; simp; omega)⟩
      · have ac := all_con E.G false [o.nm] (by simp)
        simp only [List.map_cons, List.map_nil, eStr, eT, wordT] at ac
        obtain ⟨vt, hvt⟩ : ∃ vt, vt = [wordT o.nm] := ⟨_, rfl⟩
        have hst : stepT o [] [] = vt := by simp [stepT, h, hvt]
        rw [hst] at hno hlen
        (repeat' (first | refine awp_seq ?_ | refine awp_block ?_ | refine awp_skip ?_ | refine awp_exit ?_ | ((first | refine awp_r (by kernel_rfl) (fun K kp hK hkp => ?_) | ((first | apply callR_i (wc) | apply callD_i (wc) | apply callX_i (wc)); (case hb => (simp (implicitDefEqProofs := false) (maxSteps := 2000000) (disch := omega) only [go_sem, hx, eO, h, em]; first | done | rfl)); (case hp => (first | (simp [-List.map_drop, -List.map_take, hx, eO, h, em]; done) | exact .ro _ _ (pt_map _ _))); (case hq => (first | (simp [-List.map_drop, -List.map_take]; done) | (intro _ h; simp only [List.mem_singleton] at h; subst h; exact pt_map _ _)))) | ((first | apply callR_i (ac) | apply callD_i (ac) | apply callX_i (ac)); (case hb => (simp (implicitDefEqProofs := false) (maxSteps := 2000000) (disch := omega) only [go_sem, hx, eO, h, em]; first | done | rfl)); (case hp => (first | (simp [-List.map_drop, -List.map_take, hx, eO, h, em]; done) | exact .ro _ _ (pt_map _ _))); (case hq => (first | (simp [-List.map_drop, -List.map_take]; done) | (intro _ h; simp only [List.mem_singleton] at h; subst h; exact pt_map _ _))))); simp (implicitDefEqProofs := false) (maxSteps := 2000000) (disch := omega) only [go_sem, hx, eO, h, em]; (repeat' (first | (refine hK _ ?_; clear hK hkp kp K) | (with_reducible refine And.intro ?_ ?_) | omega))) | ((first | refine goG_ask (fun h => ?_) (fun h => ?_) | refine goGD_ask (fun h => ?_) (fun h => ?_) | refine goGX_ask (fun h => ?_) (fun h => ?_)) <;> (simp (implicitDefEqProofs := false) (maxSteps := 2000000) (disch := omega) only [go_sem, hx, eO, h, em, h]; (repeat' (first | (refine hK _ ?_; clear hK hkp kp K) | (with_reducible refine And.intro ?_ ?_) | omega)))) | refine awp_cond_t rfl ?_ | refine awp_cond_f rfl ?_ | ((refine awp_cond rfl (fun h => ?_) (fun h => ?_) <;> try simp only [decide_eq_true_eq, decide_eq_false_iff_not, Int.not_lt, Int.not_le, Bool.not_eq_true, Bool.not_eq_false, bne_iff_ne, ne_eq, beq_iff_eq, bne_eq_false_iff_eq, beq_eq_false_iff_ne] at h) <;> (try (exfalso; omega))) | refine awp_ret ?_))
        ((first | (refine nextB ((k + 1, st ++ [vt])) ?_ ?_ ?_) | (refine nextA ((k + 1, st ++ [vt])) ?_ ?_ ?_)); rotate_left; (· (try dsimp only); (first | omega | (simp only [List.length_drop, List.length_cons, List.length_append]; omega) | (simp; done) | (simp; omega))); (· (refine emb [4] ?_ ?_ rfl ?_ ?_ ?_ ?_ <;> simp [okM, okO, lk, ren, renL, renNd, by_, hE, eTs, eT, wordT, hvt] <;> (try omega))))
        exact ⟨by omega, by simp; omega, by simp only [List.flatten_append, List.length_append, List.flatten_cons, List.flatten_nil, List.length_nil, List.append_nil] at hlen ⊢; omega, hno, by first | (rw [← hg2]; congr 1; simp; done) | (rw [← hg2]; congr 1; simp; omega)⟩
    · rw [h0] at wc hno hg2
      simp only [Int.cast_ofNat_Int] at wc
      obtain ⟨m, hm0⟩ : ∃ m, st.length = m + 1 := ⟨st.length - 1, by omega⟩
      have em : ((st.length : Int) - 1) = (m : Int) := by omega
      have em2 : st.length - 1 = m := by omega
      obtain ⟨a, ha⟩ : ∃ a, st[m]? = some a := ⟨st[m]'(by omega), by simp⟩
      have l1 : ((m : Int) < (st.length : Int)) = True := eq_true (by omega)
      have l2 : ((m : Int) ≤ (st.length : Int)) = True := eq_true (by omega)
      have ga : st.getD m [] = a := by rw [List.getD, ha]; rfl
      simp only [em2, show 0 < 1 by omega, Nat.lt_irrefl, if_true, if_false, ga, stepF] at hno
      have hfa := take_flat_len st m
      have hda : (st.drop m).flatten = a := by rw [drop_at ha, List.drop_of_length_le (by omega)]; simp
      rw [hda] at hfa
      have hlen := stepT_len o a []
      obtain ⟨vt, hvt⟩ : ∃ vt, vt = stepT o a [] := ⟨_, rfl⟩
      rw [← hvt] at hno hlen
      have hal : a.length ≤ 160 := by omega
      have fin : k + 1 ≤ ops.length ∧ (st.take m ++ [vt]).length ≤ k + 1 ∧ (st.take m ++ [vt]).flatten.length ≤ 4 * (k + 1) ∧ foldS arO stepF [] (ops.drop (k + 1)) (st.take m ++ [vt]) = foldS arO stepF [] ops [] ∧ hgt arO (ops.drop (k + 1)) (st.take m ++ [vt]).length = some 1 := by
        refine ⟨by omega, by simp; omega, ?_, hno, by first | (rw [← hg2]; congr 1; simp; done) | (rw [← hg2]; congr 1; simp; omega)⟩
        simp only [List.flatten_append, List.length_append, List.flatten_cons, List.flatten_nil, List.length_nil, List.append_nil] at hlen ⊢; omega
      obtain h | h := (arT_ks g1 g11).2.1 h0
      · have cc := concatT_con E.G false [[lparT, wordT (str [78, 79, 84])], a, [rparT]] (by simp) (by intro x hx; simp at hx; rcases hx with rfl | rfl | rfl <;> first | omega | simp) (by simp)
        have hv2 : [[lparT, wordT (str [78, 79, 84])], a, [rparT]].flatten = vt := by rw [hvt]; simp [stepT, h]
        rw [hv2] at cc
        have wd := word_con E.G (str [78, 79, 84])
        simp only [List.map_cons, List.map_nil, eTs, eT, wordT, lparT, rparT, markT, str] at cc wd
        clear hv2
        (repeat' (first | refine awp_seq ?_ | refine awp_block ?_ | refine awp_skip ?_ | refine awp_exit ?_ | ((first | refine awp_r (by kernel_rfl) (fun K kp hK hkp => ?_) | refine awp_du (id := 14) mixed 9 [⟨0, 0, [], [(0, 1), (1, 1)]⟩, ⟨0, 0, [0], [(0, 1), (1, 1)]⟩, ⟨0, 1, [0, 1], [(1, 1)]⟩, ⟨1, 0, [], [(0, 1), (1, 1)]⟩, ⟨1, 0, [], [(0, 1), (1, 1)]⟩, ⟨1, 0, [3, 4], [(0, 1), (1, 1)]⟩, ⟨1, 0, [3, 4, 5], [(0, 1), (1, 1)]⟩, ⟨1, 0, [0, 1], [(0, 1), (1, 1)]⟩, ⟨1, 1, [0, 1, 7], [(0, 1)]⟩] 2 [54, 55, 56, 57, 58, 59, 60, 61, 62] (by kernel_rfl) (by kernel_rfl) (by simp only [go_sem]; rfl) (by simp only [go_sem]; rfl) (by simp only [go_sem]; rfl) (by simp only [go_sem]; rfl) (by simp only [go_sem]; rfl) (by omega) (fun K kp hK hkp => ?_) | ((first | apply callR_i (wc) | apply callD_i (wc) | apply callX_i (wc) | (apply callU_i (wc); (case hx => (simp (disch := omega) [go_sem, hx, eO, h, em, ha, l1, l2, eTs]; done)))); (case hb => (simp (implicitDefEqProofs := false) (maxSteps := 2000000) (disch := omega) only [go_sem, hx, eO, h, em, ha, l1, l2, eTs]; first | done | rfl)); (case hp => (first | (simp [-List.map_drop, -List.map_take, hx, eO, h, em, ha, l1, l2, eTs]; done) | exact .ro _ _ (pt_map _ _))); (case hq => (first | (simp [-List.map_drop, -List.map_take]; done) | (intro _ h; simp only [List.mem_singleton] at h; subst h; exact pt_map _ _)))) | ((first | apply callR_i (ml) | apply callD_i (ml) | apply callX_i (ml) | (apply callU_i (ml); (case hx => (simp (disch := omega) [go_sem, hx, eO, h, em, ha, l1, l2, eTs]; done)))); (case hb => (simp (implicitDefEqProofs := false) (maxSteps := 2000000) (disch := omega) only [go_sem, hx, eO, h, em, ha, l1, l2, eTs]; first | done | rfl)); (case hp => (first | (simp [-List.map_drop, -List.map_take, hx, eO, h, em, ha, l1, l2, eTs]; done) | exact .ro _ _ (pt_map _ _))); (case hq => (first | (simp [-List.map_drop, -List.map_take]; done) | (intro _ h; simp only [List.mem_singleton] at h; subst h; exact pt_map _ _)))) | ((first | apply callR_i (mr) | apply callD_i (mr) | apply callX_i (mr) | (apply callU_i (mr); (case hx => (simp (disch := omega) [go_sem, hx, eO, h, em, ha, l1, l2, eTs]; done)))); (case hb => (simp (implicitDefEqProofs := false) (maxSteps := 2000000) (disch := omega) only [go_sem, hx, eO, h, em, ha, l1, l2, eTs]; first | done | rfl)); (case hp => (first | (simp [-List.map_drop, -List.map_take, hx, eO, h, em, ha, l1, l2, eTs]; done) | exact .ro _ _ (pt_map _ _))); (case hq => (first | (simp [-List.map_drop, -List.map_take]; done) | (intro _ h; simp only [List.mem_singleton] at h; subst h; exact pt_map _ _)))) | ((first | apply callR_i (wd) | apply callD_i (wd) | apply callX_i (wd) | (apply callU_i (wd); (case hx => (simp (disch := omega) [go_sem, hx, eO, h, em, ha, l1, l2, eTs]; done)))); (case hb => (simp (implicitDefEqProofs := false) (maxSteps := 2000000) (disch := omega) only [go_sem, hx, eO, h, em, ha, l1, l2, eTs]; first | done | rfl)); (case hp => (first | (simp [-List.map_drop, -List.map_take, hx, eO, h, em, ha, l1, l2, eTs]; done) | exact .ro _ _ (pt_map _ _))); (case hq => (first | (simp [-List.map_drop, -List.map_take]; done) | (intro _ h; simp only [List.mem_singleton] at h; subst h; exact pt_map _ _)))) | ((first | apply callR_i (cc) | apply callD_i (cc) | apply callX_i (cc) | (apply callU_i (cc); (case hx => (simp (disch := omega) [go_sem, hx, eO, h, em, ha, l1, l2, eTs]; done)))); (case hb => (simp (implicitDefEqProofs := false) (maxSteps := 2000000) (disch := omega) only [go_sem, hx, eO, h, em, ha, l1, l2, eTs]; first | done | rfl)); (case hp => (first | (simp [-List.map_drop, -List.map_take, hx, eO, h, em, ha, l1, l2, eTs]; done) | exact .ro _ _ (pt_map _ _))); (case hq => (first | (simp [-List.map_drop, -List.map_take]; done) | (intro _ h; simp only [List.mem_singleton] at h; subst h; exact pt_map _ _))))); simp (implicitDefEqProofs := false) (maxSteps := 2000000) (disch := omega) only [go_sem, hx, eO, h, em, ha, l1, l2, eTs]; (repeat' (first | (refine hK _ ?_; clear hK hkp kp K) | (with_reducible refine And.intro ?_ ?_) | omega))) | ((first | refine goG_ask (fun h => ?_) (fun h => ?_) | refine goGD_ask (fun h => ?_) (fun h => ?_) | refine goGX_ask (fun h => ?_) (fun h => ?_)) <;> (simp (implicitDefEqProofs := false) (maxSteps := 2000000) (disch := omega) only [go_sem, hx, eO, h, em, ha, l1, l2, eTs, h]; (repeat' (first | (refine hK _ ?_; clear hK hkp kp K) | (with_reducible refine And.intro ?_ ?_) | omega)))) | refine awp_cond_t rfl ?_ | refine awp_cond_f rfl ?_ | ((refine awp_cond rfl (fun h => ?_) (fun h => ?_) <;> try simp only [decide_eq_true_eq, decide_eq_false_iff_not, Int.not_lt, Int.not_le, Bool.not_eq_true, Bool.not_eq_false, bne_iff_ne, ne_eq, beq_iff_eq, bne_eq_false_iff_eq, beq_eq_false_iff_ne] at h) <;> (try (exfalso; omega))) | refine awp_ret ?_))
        ((first | (refine nextB ((k + 1, st.take m ++ [vt])) ?_ ?_ ?_) | (refine nextA ((k + 1, st.take m ++ [vt])) ?_ ?_ ?_)); rotate_left; (· (try dsimp only); (first | omega | (simp only [List.length_drop, List.length_cons, List.length_append]; omega) | (simp; done) | (simp; omega))); (· (refine emb [6] ?_ ?_ rfl ?_ ?_ ?_ ?_ <;> simp [okM, okO, lk, ren, renL, renNd, by_, hE, eTs, List.map_take] <;> (try omega))))
        exact fin
      · have cc := concatT_con E.G false [[lparT], a, [wordT (str [73, 83]), wordT nullS], [rparT]] (by simp) (by intro x hx; simp at hx; rcases hx with rfl | rfl | rfl | rfl <;> first | omega | simp) (by simp)
        have hv2 : [[lparT], a, [wordT (str [73, 83]), wordT nullS], [rparT]].flatten = vt := by rw [hvt]; simp [stepT, h]
        rw [hv2] at cc
        have ac := all_con E.G false [str [73, 83], nullS] (by simp)
        simp only [List.map_cons, List.map_nil, eTs, eT, eStr, wordT, lparT, rparT, markT, nullS, str] at cc ac
        clear hv2
        (repeat' (first | refine awp_seq ?_ | refine awp_block ?_ | refine awp_skip ?_ | refine awp_exit ?_ | ((first | refine awp_r (by kernel_rfl) (fun K kp hK hkp => ?_) | refine awp_du (id := 16) mixed 10 [⟨0, 0, [], [(0, 1), (1, 1), (2, 1)]⟩, ⟨0, 1, [0], [(1, 1), (2, 1)]⟩, ⟨1, 0, [], [(0, 1), (1, 1), (2, 1)]⟩, ⟨1, 0, [], [(0, 1), (1, 1), (2, 1)]⟩, ⟨1, 0, [2, 3], [(0, 1), (1, 1), (2, 1)]⟩, ⟨1, 0, [2, 3, 4], [(0, 1), (1, 1), (2, 1)]⟩, ⟨1, 1, [], [(0, 1), (2, 1)]⟩, ⟨2, 0, [0, 6], [(0, 1), (2, 1)]⟩, ⟨2, 0, [0, 6, 7], [(0, 1), (2, 1)]⟩, ⟨2, 1, [0, 6, 7, 8], [(0, 1)]⟩] 3 [67, 68, 69, 70, 71, 72, 73, 74, 75, 76] (by kernel_rfl) (by kernel_rfl) (by simp only [go_sem]; rfl) (by simp only [go_sem]; rfl) (by simp only [go_sem]; rfl) (by simp only [go_sem]; rfl) (by simp only [go_sem]; rfl) (by omega) (fun K kp hK hkp => ?_) | ((first | apply callR_i (wc) | apply callD_i (wc) | apply callX_i (wc) | (apply callU_i (wc); (case hx => (simp (disch := omega) [go_sem, hx, eO, h, em, ha, l1, l2, eTs]; done)))); (case hb => (simp (implicitDefEqProofs := false) (maxSteps := 2000000) (disch := omega) only [go_sem, hx, eO, h, em, ha, l1, l2, eTs]; first | done | rfl)); (case hp => (first | (simp [-List.map_drop, -List.map_take, hx, eO, h, em, ha, l1, l2, eTs]; done) | exact .ro _ _ (pt_map _ _))); (case hq => (first | (simp [-List.map_drop, -List.map_take]; done) | (intro _ h; simp only [List.mem_singleton] at h; subst h; exact pt_map _ _)))) | ((first | apply callR_i (ml) | apply callD_i (ml) | apply callX_i (ml) | (apply callU_i (ml); (case hx => (simp (disch := omega) [go_sem, hx, eO, h, em, ha, l1, l2, eTs]; done)))); (case hb => (simp (implicitDefEqProofs := false) (maxSteps := 2000000) (disch := omega) only [go_sem, hx, eO, h, em, ha, l1, l2, eTs]; first | done | rfl)); (case hp => (first | (simp [-List.map_drop, -List.map_take, hx, eO, h, em, ha, l1, l2, eTs]; done) | exact .ro _ _ (pt_map _ _))); (case hq => (first | (simp [-List.map_drop, -List.map_take]; done) | (intro _ h; simp only [List.mem_singleton] at h; subst h; exact pt_map _ _)))) | ((first | apply callR_i (mr) | apply callD_i (mr) | apply callX_i (mr) | (apply callU_i (mr); (case hx => (simp (disch := omega) [go_sem, hx, eO, h, em, ha, l1, l2, eTs]; done)))); (case hb => (simp (implicitDefEqProofs := false) (maxSteps := 2000000) (disch := omega) only [go_sem, hx, eO, h, em, ha, l1, l2, eTs]; first | done | rfl)); (case hp => (first | (simp [-List.map_drop, -List.map_take, hx, eO, h, em, ha, l1, l2, eTs]; done) | exact .ro _ _ (pt_map _ _))); (case hq => (first | (simp [-List.map_drop, -List.map_take]; done) | (intro _ h; simp only [List.mem_singleton] at h; subst h; exact pt_map _ _)))) | ((first | apply callR_i (ac) | apply callD_i (ac) | apply callX_i (ac) | (apply callU_i (ac); (case hx => (simp (disch := omega) [go_sem, hx, eO, h, em, ha, l1, l2, eTs]; done)))); (case hb => (simp (implicitDefEqProofs := false) (maxSteps := 2000000) (disch := omega) only [go_sem, hx, eO, h, em, ha, l1, l2, eTs]; first | done | rfl)); (case hp => (first | (simp [-List.map_drop, -List.map_take, hx, eO, h, em, ha, l1, l2, eTs]; done) | exact .ro _ _ (pt_map _ _))); (case hq => (first | (simp [-List.map_drop, -List.map_take]; done) | (intro _ h; simp only [List.mem_singleton] at h; subst h; exact pt_map _ _)))) | ((first | apply callR_i (cc) | apply callD_i (cc) | apply callX_i (cc) | (apply callU_i (cc); (case hx => (simp (disch := omega) [go_sem, hx, eO, h, em, ha, l1, l2, eTs]; done)))); (case hb => (simp (implicitDefEqProofs := false) (maxSteps := 2000000) (disch := omega) only [go_sem, hx, eO, h, em, ha, l1, l2, eTs]; first | done | rfl)); (case hp => (first | (simp [-List.map_drop, -List.map_take, hx, eO, h, em, ha, l1, l2, eTs]; done) | exact .ro _ _ (pt_map _ _))); (case hq => (first | (simp [-List.map_drop, -List.map_take]; done) | (intro _ h; simp only [List.mem_singleton] at h; subst h; exact pt_map _ _))))); simp (implicitDefEqProofs := false) (maxSteps := 2000000) (disch := omega) only [go_sem, hx, eO, h, em, ha, l1, l2, eTs]; (repeat' (first | (refine hK _ ?_; clear hK hkp kp K) | (with_reducible refine And.intro ?_ ?_) | omega))) | ((first | refine goG_ask (fun h => ?_) (fun h => ?_) | refine goGD_ask (fun h => ?_) (fun h => ?_) | refine goGX_ask (fun h => ?_) (fun h => ?_)) <;> (simp (implicitDefEqProofs := false) (maxSteps := 2000000) (disch := omega) only [go_sem, hx, eO, h, em, ha, l1, l2, eTs, h]; (repeat' (first | (refine hK _ ?_; clear hK hkp kp K) | (with_reducible refine And.intro ?_ ?_) | omega)))) | refine awp_cond_t rfl ?_ | refine awp_cond_f rfl ?_ | ((refine awp_cond rfl (fun h => ?_) (fun h => ?_) <;> try simp only [decide_eq_true_eq, decide_eq_false_iff_not, Int.not_lt, Int.not_le, Bool.not_eq_true, Bool.not_eq_false, bne_iff_ne, ne_eq, beq_iff_eq, bne_eq_false_iff_eq, beq_eq_false_iff_ne] at h) <;> (try (exfalso; omega))) | refine awp_ret ?_))
        ((first | (refine nextB ((k + 1, st.take m ++ [vt])) ?_ ?_ ?_) | (refine nextA ((k + 1, st.take m ++ [vt])) ?_ ?_ ?_)); rotate_left; (· (try dsimp only); (first | omega | (simp only [List.length_drop, List.length_cons, List.length_append]; omega) | (simp; done) | (simp; omega))); (· (refine emb [7] ?_ ?_ rfl ?_ ?_ ?_ ?_ <;> simp [okM, okO, lk, ren, renL, renNd, by_, hE, eTs, List.map_take] <;> (try omega))))
        exact fin
    · rw [h0] at wc hno hg2
      simp only [Int.cast_ofNat_Int] at wc
      obtain ⟨m, hm0⟩ : ∃ m, st.length = m + 2 := ⟨st.length - 2, by omega⟩
      have em : ((st.length : Int) - 2) = (m : Int) := by omega
      have em2 : st.length - 2 = m := by omega
      obtain ⟨a, ha⟩ : ∃ a, st[m]? = some a := ⟨st[m]'(by omega), by simp⟩
      have l1 : ((m : Int) < (st.length : Int)) = True := eq_true (by omega)
      have l2 : ((m : Int) ≤ (st.length : Int)) = True := eq_true (by omega)
      have ga : st.getD m [] = a := by rw [List.getD, ha]; rfl
      obtain ⟨b, hb⟩ : ∃ b, st[m + 1]? = some b := ⟨st[m + 1]'(by omega), by simp⟩
      have l3 : ((m : Int) + 1 < (st.length : Int)) = True := eq_true (by omega)
      have gb : st.getD (m + 1) [] = b := by rw [List.getD, hb]; rfl
      simp only [em2, show 0 < 2 by omega, show 1 < 2 by omega, if_true, ga, gb, stepF] at hno
      have hfa := take_flat_len st m
      have hda : (st.drop m).flatten = a ++ b := by rw [drop_at ha, drop_at hb, List.drop_of_length_le (by omega)]; simp
      rw [hda, List.length_append] at hfa
      have hlen := stepT_len o a b
      obtain ⟨vt, hvt⟩ : ∃ vt, vt = stepT o a b := ⟨_, rfl⟩
      rw [← hvt] at hno hlen
      have hal : a.length ≤ 160 := by omega
      have hbl : b.length ≤ 160 := by omega
      have fin : k + 1 ≤ ops.length ∧ (st.take m ++ [vt]).length ≤ k + 1 ∧ (st.take m ++ [vt]).flatten.length ≤ 4 * (k + 1) ∧ foldS arO stepF [] (ops.drop (k + 1)) (st.take m ++ [vt]) = foldS arO stepF [] ops [] ∧ hgt arO (ops.drop (k + 1)) (st.take m ++ [vt]).length = some 1 := by
        refine ⟨by omega, by simp; omega, ?_, hno, by first | (rw [← hg2]; congr 1; simp; done) | (rw [← hg2]; congr 1; simp; omega)⟩
        simp only [List.flatten_append, List.length_append, List.flatten_cons, List.flatten_nil, List.length_nil, List.append_nil] at hlen ⊢; omega
      have hks := (arT_ks g1 g11).2.2 h0
      have n1 : ¬ o.k = 1 := by omega
      have n2 : ¬ o.k = 2 := by omega
      have n5 : ¬ o.k = 5 := by omega
      have n11 : ¬ o.k = 11 := by omega
      have b1 : (o.k == 1) = false := by simpa using n1
      have b2 : (o.k == 2) = false := by simpa using n2
      have b5 : (o.k == 5) = false := by simpa using n5
      have b11 : (o.k == 11) = false := by simpa using n11
      have bc := between_con E.G o.k hks
      have cc := concatT_con E.G false [[lparT], a, [betT o.k], b, [rparT]] (by simp) (by intro x hx; simp at hx; rcases hx with rfl | rfl | rfl | rfl | rfl <;> first | omega | simp) (by simp)
      have hv2 : [[lparT], a, [betT o.k], b, [rparT]].flatten = vt := by rw [hvt]; simp [stepT, n1, n2, n5, n11]
      rw [hv2] at cc
      generalize betT o.k = bt at bc cc
      simp only [List.map_cons, List.map_nil, eTs, eT, lparT, rparT, markT, str] at cc bc
      clear hv2
      (repeat' (first | refine awp_seq ?_ | refine awp_block ?_ | refine awp_skip ?_ | refine awp_exit ?_ | ((first | refine awp_r (by kernel_rfl) (fun K kp hK hkp => ?_) | refine awp_du (id := 8) mixed 17 [⟨0, 0, [], [(0, 1), (1, 1), (2, 1)]⟩, ⟨0, 1, [0], [(1, 1), (2, 1)]⟩, ⟨1, 0, [], [(0, 1), (1, 1), (2, 1)]⟩, ⟨1, 0, [], [(0, 1), (1, 1), (2, 1)]⟩, ⟨1, 0, [2, 3], [(0, 1), (1, 1), (2, 1)]⟩, ⟨1, 0, [2, 3, 4], [(0, 1), (1, 1), (2, 1)]⟩, ⟨1, 0, [], [(0, 1), (1, 1), (2, 1)]⟩, ⟨1, 0, [6], [(0, 1), (1, 1), (2, 1)]⟩, ⟨1, 0, [0, 6, 7], [(0, 1), (1, 1), (2, 1)]⟩, ⟨1, 1, [0, 6, 7, 8], [(0, 1), (2, 1)]⟩, ⟨2, 0, [], [(0, 1), (1, 1), (2, 1)]⟩, ⟨2, 0, [], [(0, 1), (1, 1), (2, 1)]⟩, ⟨2, 0, [11], [(0, 1), (1, 1), (2, 1)]⟩, ⟨2, 0, [10, 11, 12], [(0, 1), (1, 1), (2, 1)]⟩, ⟨2, 0, [10, 11, 12, 13], [(0, 1), (1, 1), (2, 1)]⟩, ⟨2, 0, [0, 6, 7, 8], [(0, 1), (1, 1), (2, 1)]⟩, ⟨2, 1, [0, 6, 7, 8, 15], [(0, 1), (1, 1)]⟩] 3 [22, 23, 24, 25, 26, 27, 28, 29, 30, 31, 32, 33, 34, 35, 36, 37, 38] (by kernel_rfl) (by kernel_rfl) (by simp only [go_sem]; rfl) (by simp only [go_sem]; rfl) (by simp only [go_sem]; rfl) (by simp only [go_sem]; rfl) (by simp only [go_sem]; rfl) (by omega) (fun K kp hK hkp => ?_) | ((first | apply callR_i (wc) | apply callD_i (wc) | apply callX_i (wc) | (apply callU_i (wc); (case hx => (simp (disch := omega) [go_sem, hx, eO, b1, b2, b5, b11, em, ha, hb, l1, l2, l3, eTs]; done)))); (case hb => (simp (implicitDefEqProofs := false) (maxSteps := 2000000) (disch := omega) only [go_sem, hx, eO, b1, b2, b5, b11, em, ha, hb, l1, l2, l3, eTs]; first | done | rfl)); (case hp => (first | (simp [-List.map_drop, -List.map_take, hx, eO, b1, b2, b5, b11, em, ha, hb, l1, l2, l3, eTs]; done) | exact .ro _ _ (pt_map _ _))); (case hq => (first | (simp [-List.map_drop, -List.map_take]; done) | (intro _ h; simp only [List.mem_singleton] at h; subst h; exact pt_map _ _)))) | ((first | apply callR_i (ml) | apply callD_i (ml) | apply callX_i (ml) | (apply callU_i (ml); (case hx => (simp (disch := omega) [go_sem, hx, eO, b1, b2, b5, b11, em, ha, hb, l1, l2, l3, eTs]; done)))); (case hb => (simp (implicitDefEqProofs := false) (maxSteps := 2000000) (disch := omega) only [go_sem, hx, eO, b1, b2, b5, b11, em, ha, hb, l1, l2, l3, eTs]; first | done | rfl)); (case hp => (first | (simp [-List.map_drop, -List.map_take, hx, eO, b1, b2, b5, b11, em, ha, hb, l1, l2, l3, eTs]; done) | exact .ro _ _ (pt_map _ _))); (case hq => (first | (simp [-List.map_drop, -List.map_take]; done) | (intro _ h; simp only [List.mem_singleton] at h; subst h; exact pt_map _ _)))) | ((first | apply callR_i (mr) | apply callD_i (mr) | apply callX_i (mr) | (apply callU_i (mr); (case hx => (simp (disch := omega) [go_sem, hx, eO, b1, b2, b5, b11, em, ha, hb, l1, l2, l3, eTs]; done)))); (case hb => (simp (implicitDefEqProofs := false) (maxSteps := 2000000) (disch := omega) only [go_sem, hx, eO, b1, b2, b5, b11, em, ha, hb, l1, l2, l3, eTs]; first | done | rfl)); (case hp => (first | (simp [-List.map_drop, -List.map_take, hx, eO, b1, b2, b5, b11, em, ha, hb, l1, l2, l3, eTs]; done) | exact .ro _ _ (pt_map _ _))); (case hq => (first | (simp [-List.map_drop, -List.map_take]; done) | (intro _ h; simp only [List.mem_singleton] at h; subst h; exact pt_map _ _)))) | ((first | apply callR_i (bc) | apply callD_i (bc) | apply callX_i (bc) | (apply callU_i (bc); (case hx => (simp (disch := omega) [go_sem, hx, eO, b1, b2, b5, b11, em, ha, hb, l1, l2, l3, eTs]; done)))); (case hb => (simp (implicitDefEqProofs := false) (maxSteps := 2000000) (disch := omega) only [go_sem, hx, eO, b1, b2, b5, b11, em, ha, hb, l1, l2, l3, eTs]; first | done | rfl)); (case hp => (first | (simp [-List.map_drop, -List.map_take, hx, eO, b1, b2, b5, b11, em, ha, hb, l1, l2, l3, eTs]; done) | exact .ro _ _ (pt_map _ _))); (case hq => (first | (simp [-List.map_drop, -List.map_take]; done) | (intro _ h; simp only [List.mem_singleton] at h; subst h; exact pt_map _ _)))) | ((first | apply callR_i (cc) | apply callD_i (cc) | apply callX_i (cc) | (apply callU_i (cc); (case hx => (simp (disch := omega) [go_sem, hx, eO, b1, b2, b5, b11, em, ha, hb, l1, l2, l3, eTs]; done)))); (case hb => (simp (implicitDefEqProofs := false) (maxSteps := 2000000) (disch := omega) only [go_sem, hx, eO, b1, b2, b5, b11, em, ha, hb, l1, l2, l3, eTs]; first | done | rfl)); (case hp => (first | (simp [-List.map_drop, -List.map_take, hx, eO, b1, b2, b5, b11, em, ha, hb, l1, l2, l3, eTs]; done) | exact .ro _ _ (pt_map _ _))); (case hq => (first | (simp [-List.map_drop, -List.map_take]; done) | (intro _ h; simp only [List.mem_singleton] at h; subst h; exact pt_map _ _))))); simp (implicitDefEqProofs := false) (maxSteps := 2000000) (disch := omega) only [go_sem, hx, eO, b1, b2, b5, b11, em, ha, hb, l1, l2, l3, eTs]; (repeat' (first | (refine hK _ ?_; clear hK hkp kp K) | (with_reducible refine And.intro ?_ ?_) | omega))) | ((first | refine goG_ask (fun h => ?_) (fun h => ?_) | refine goGD_ask (fun h => ?_) (fun h => ?_) | refine goGX_ask (fun h => ?_) (fun h => ?_)) <;> (simp (implicitDefEqProofs := false) (maxSteps := 2000000) (disch := omega) only [go_sem, hx, eO, b1, b2, b5, b11, em, ha, hb, l1, l2, l3, eTs, h]; (repeat' (first | (refine hK _ ?_; clear hK hkp kp K) | (with_reducible refine And.intro ?_ ?_) | omega)))) | refine awp_cond_t rfl ?_ | refine awp_cond_f rfl ?_ | ((refine awp_cond rfl (fun h => ?_) (fun h => ?_) <;> try simp only [decide_eq_true_eq, decide_eq_false_iff_not, Int.not_lt, Int.not_le, Bool.not_eq_true, Bool.not_eq_false, bne_iff_ne, ne_eq, beq_iff_eq, bne_eq_false_iff_eq, beq_eq_false_iff_ne] at h) <;> (try (exfalso; omega))) | refine awp_ret ?_))
      ((first | (refine nextB ((k + 1, st.take m ++ [vt])) ?_ ?_ ?_) | (refine nextA ((k + 1, st.take m ++ [vt])) ?_ ?_ ?_)); rotate_left; (· (try dsimp only); (first | omega | (simp only [List.length_drop, List.length_cons, List.length_append]; omega) | (simp; done) | (simp; omega))); (· (refine emb [7] ?_ ?_ rfl ?_ ?_ ?_ ?_ <;> simp [okM, okO, lk, ren, renL, renNd, by_, hE, eTs, List.map_take] <;> (try omega))))
      exact fin
  · have hgz : st.length = 1 := by rw [List.drop_of_length_le (by omega)] at hg; simpa [hgt] using hg
    obtain ⟨x, rfl⟩ : ∃ x, st = [x] := List.length_eq_one_iff.1 hgz
    rw [List.drop_of_length_le (by omega), foldS] at hno
    rw [← hno]
    simp only [foldT]
    (repeat' (first | refine awp_seq ?_ | refine awp_block ?_ | refine awp_skip ?_ | refine awp_exit ?_ | ((first | refine awp_r (by kernel_rfl) (fun K kp hK hkp => ?_)); simp (implicitDefEqProofs := false) (maxSteps := 2000000) (disch := omega) only [go_sem, eTs]; (repeat' (first | (refine hK _ ?_; clear hK hkp kp K) | (with_reducible refine And.intro ?_ ?_) | omega))) | ((first | refine goG_ask (fun h => ?_) (fun h => ?_) | refine goGD_ask (fun h => ?_) (fun h => ?_) | refine goGX_ask (fun h => ?_) (fun h => ?_)) <;> (simp (implicitDefEqProofs := false) (maxSteps := 2000000) (disch := omega) only [go_sem, eTs, h]; (repeat' (first | (refine hK _ ?_; clear hK hkp kp K) | (with_reducible refine And.intro ?_ ?_) | omega)))) | refine awp_cond_t rfl ?_ | refine awp_cond_f rfl ?_ | ((refine awp_cond rfl (fun h => ?_) (fun h => ?_) <;> try simp only [decide_eq_true_eq, decide_eq_false_iff_not, Int.not_lt, Int.not_le, Bool.not_eq_true, Bool.not_eq_false, bne_iff_ne, ne_eq, beq_iff_eq, bne_eq_false_iff_eq, beq_eq_false_iff_ne] at h) <;> (try (exfalso; omega))) | refine awp_ret ?_))
    (refine retA_is (by (simp (implicitDefEqProofs := false) (maxSteps := 2000000) (disch := omega) only [go_sem, Go.Proofs.Tryd.results70, eTs]); rfl) ?_; refine embS_frz (by simp only [oneA]; simp (implicitDefEqProofs := false) (maxSteps := 2000000) (disch := omega) only [go_sem, eTs]; rfl) ?_; refine (embV_nil hE (by simp) ?_).s; simp [oneA, ren, renL, eTs])
end Go.AM
/- Statements: the reference's ops as tokens. -/
namespace Go.AM
open Go Go.RowKit
open Go.Proofs.YtoecmmpjndcolaaDoor (OP nameM litM exprM marksS wordsS StrsAt str SlAt letB wrdB digB bt vcheck popsM)
attribute [local irreducible] AWP retA
theorem embS_nil {E : Env} {N : Nat} {st : AS} (hE : E.th0.length = 0) (hb : st.n ≤ 1000000000) (k : Nat) : EmbS E N st (.r (.slice none 0 0)) [] 0 (.ro true k []) := by
  intro th z a w v hs hr
  obtain ⟨th', z', h1, h2⟩ := (embV_nil (E := E) (st := st) (x := .r (.slice none 0 0)) (y := .r (.slice none 0 0)) hE hb rfl).s (N := N) th z a w v hs hr
  exact ⟨th', z', h1, nil_ro _ _ h2⟩
set_option maxRecDepth 100000 in
set_option maxHeartbeats 4000000 in
theorem joinToks_con (G : List (Nat × List Value)) (t : Bool) (ls : List (List TK0)) (hl : ls.length ≤ 100) (hs : ∀ x ∈ ls, x.length ≤ 1000) : Con Go.Proofs.Tryd.prog G 77 [.ro t 1 (ls.map eTs)] [] 0 (Is (.ro true 3 (ls.flatten.map eT)) [] 0) No := by
  refine con_of_awp Go.Proofs.Tryd.func77 rfl (by kernel_rfl) (of_decide_eq_true (by kernel_rfl)) ?_; intro E hG hE; subst hG; simp only [ent]
  (repeat' (first | refine awp_seq ?_ | refine awp_block ?_ | refine awp_skip ?_ | refine awp_exit ?_ | ((first | refine awp_r (by kernel_rfl) (fun K kp hK hkp => ?_)); simp (implicitDefEqProofs := false) (maxSteps := 2000000) (disch := omega) only [go_sem]; (repeat' (first | (refine hK _ ?_; clear hK hkp kp K) | (with_reducible refine And.intro ?_ ?_) | omega))) | ((first | refine goG_ask (fun h => ?_) (fun h => ?_) | refine goGD_ask (fun h => ?_) (fun h => ?_) | refine goGX_ask (fun h => ?_) (fun h => ?_)) <;> (simp (implicitDefEqProofs := false) (maxSteps := 2000000) (disch := omega) only [go_sem, h]; (repeat' (first | (refine hK _ ?_; clear hK hkp kp K) | (with_reducible refine And.intro ?_ ?_) | omega)))) | refine awp_cond_t rfl ?_ | refine awp_cond_f rfl ?_ | ((refine awp_cond rfl (fun h => ?_) (fun h => ?_) <;> try simp only [decide_eq_true_eq, decide_eq_false_iff_not, Int.not_lt, Int.not_le, Bool.not_eq_true, Bool.not_eq_false, bne_iff_ne, ne_eq, beq_iff_eq, bne_eq_false_iff_eq, beq_eq_false_iff_ne] at h) <;> (try (exfalso; omega))) | refine awp_ret ?_))
  (refine AWP.emb (emb_nil 3 61 3 ?_) ?_; (· rfl); dsimp only)
  refine awp_loop (fun k : Nat => ⟨[(4, .r (.int .i64 k)), (0, .ro t 1 (ls.map eTs)), (3, .s 0 0 (ls.take k).flatten.length)], [(0, .lst 61 3 ((ls.take k).flatten.map eT))], 1⟩) (fun k => k ≤ ls.length) (fun k => ls.length - k) 0 ?_ ?_ ?_
  · simp
  · (refine emb [0] ?_ ?_ rfl ?_ ?_ ?_ ?_ <;> simp [okM, okO, lk, ren, renL, renNd, by_, hE] <;> (try omega))
  intro k hk
  have hle : (ls.take k).flatten.length ≤ 1000 * 100 := by
    have := flat_len (ls := ls.take k) (fun x hx => hs x (List.mem_of_mem_take hx))
    simp only [List.length_take] at this; omega
  by_cases hlt : k < ls.length
  · obtain ⟨x, hx⟩ : ∃ x, ls[k]? = some x := ⟨ls[k], by simp [hlt]⟩
    have hft := flat_take hx
    have hxl := hs x (List.mem_of_getElem? hx)
    generalize (ls.take k).flatten = q at hft hle ⊢
    have d1 : decide ((k : Int) < (ls.length : Int)) = true := decide_eq_true (by omega)
    (repeat' (first | refine awp_seq ?_ | refine awp_block ?_ | refine awp_skip ?_ | refine awp_exit ?_ | ((first | refine awp_r (by kernel_rfl) (fun K kp hK hkp => ?_)); simp (implicitDefEqProofs := false) (maxSteps := 2000000) (disch := omega) only [go_sem, hx, eTs, d1]; (repeat' (first | (refine hK _ ?_; clear hK hkp kp K) | (with_reducible refine And.intro ?_ ?_) | omega))) | ((first | refine goG_ask (fun h => ?_) (fun h => ?_) | refine goGD_ask (fun h => ?_) (fun h => ?_) | refine goGX_ask (fun h => ?_) (fun h => ?_)) <;> (simp (implicitDefEqProofs := false) (maxSteps := 2000000) (disch := omega) only [go_sem, hx, eTs, d1, h]; (repeat' (first | (refine hK _ ?_; clear hK hkp kp K) | (with_reducible refine And.intro ?_ ?_) | omega)))) | refine awp_cond_t rfl ?_ | refine awp_cond_f rfl ?_ | ((refine awp_cond rfl (fun h => ?_) (fun h => ?_) <;> try simp only [decide_eq_true_eq, decide_eq_false_iff_not, Int.not_lt, Int.not_le, Bool.not_eq_true, Bool.not_eq_false, bne_iff_ne, ne_eq, beq_iff_eq, bne_eq_false_iff_eq, beq_eq_false_iff_ne] at h) <;> (try (exfalso; omega))) | refine awp_ret ?_))
    refine awp_loop (fun j : Nat => ⟨[(5, .r (.int .i64 j)), (4, .r (.int .i64 k)), (0, .ro t 1 (ls.map eTs)), (3, .s 0 0 (q ++ x.take j).length)], [(0, .lst 61 3 ((q ++ x.take j).map eT))], 1⟩) (fun j => j ≤ x.length) (fun j => x.length - j) 0 ?_ ?_ ?_
    · simp
    · (refine emb [0] ?_ ?_ rfl ?_ ?_ ?_ ?_ <;> simp [okM, okO, lk, ren, renL, renNd, by_, hE] <;> (try omega))
    intro j hj
    have hlj : (q ++ x.take j).length ≤ 1000 * 101 := by simp; omega
    by_cases hjl : j < x.length
    · obtain ⟨y, hy⟩ : ∃ y, x[j]? = some y := ⟨x[j], by simp [hjl]⟩
      have htj : q ++ x.take (j + 1) = q ++ x.take j ++ [y] := by rw [List.take_add_one, hy]; simp
      generalize q ++ x.take j = qj at htj hlj ⊢
      have d2 : decide ((j : Int) < (x.length : Int)) = true := decide_eq_true (by omega)
      (repeat' (first | refine awp_seq ?_ | refine awp_block ?_ | refine awp_skip ?_ | refine awp_exit ?_ | ((first | refine awp_r (by kernel_rfl) (fun K kp hK hkp => ?_)); simp (implicitDefEqProofs := false) (maxSteps := 2000000) (disch := omega) only [go_sem, hx, hy, eTs, eT, d2]; (repeat' (first | (refine hK _ ?_; clear hK hkp kp K) | (with_reducible refine And.intro ?_ ?_) | omega))) | ((first | refine goG_ask (fun h => ?_) (fun h => ?_) | refine goGD_ask (fun h => ?_) (fun h => ?_) | refine goGX_ask (fun h => ?_) (fun h => ?_)) <;> (simp (implicitDefEqProofs := false) (maxSteps := 2000000) (disch := omega) only [go_sem, hx, hy, eTs, eT, d2, h]; (repeat' (first | (refine hK _ ?_; clear hK hkp kp K) | (with_reducible refine And.intro ?_ ?_) | omega)))) | refine awp_cond_t rfl ?_ | refine awp_cond_f rfl ?_ | ((refine awp_cond rfl (fun h => ?_) (fun h => ?_) <;> try simp only [decide_eq_true_eq, decide_eq_false_iff_not, Int.not_lt, Int.not_le, Bool.not_eq_true, Bool.not_eq_false, bne_iff_ne, ne_eq, beq_iff_eq, bne_eq_false_iff_eq, beq_eq_false_iff_ne] at h) <;> (try (exfalso; omega))) | refine awp_ret ?_))
      ((first | (refine nextB (j + 1) ?_ ?_ ?_) | (refine nextA (j + 1) ?_ ?_ ?_)); rotate_left; (· (try dsimp only); (first | omega | (simp only [List.length_drop, List.length_cons, List.length_append]; omega) | (simp; done) | (simp; omega))); (· (refine emb [2] ?_ ?_ rfl ?_ ?_ ?_ ?_ <;> simp [okM, okO, lk, ren, renL, renNd, by_, hE, htj, eT] <;> (try omega))))
      omega
    · obtain rfl : j = x.length := by omega
      rw [List.take_of_length_le (Nat.le_refl _), ← hft] at hlj ⊢
      have d2 : decide ((x.length : Int) < (x.length : Int)) = false := decide_eq_false (by omega)
      (repeat' (first | refine awp_seq ?_ | refine awp_block ?_ | refine awp_skip ?_ | refine awp_exit ?_ | ((first | refine awp_r (by kernel_rfl) (fun K kp hK hkp => ?_)); simp (implicitDefEqProofs := false) (maxSteps := 2000000) (disch := omega) only [go_sem, hx, eTs, d2]; (repeat' (first | (refine hK _ ?_; clear hK hkp kp K) | (with_reducible refine And.intro ?_ ?_) | omega))) | ((first | refine goG_ask (fun h => ?_) (fun h => ?_) | refine goGD_ask (fun h => ?_) (fun h => ?_) | refine goGX_ask (fun h => ?_) (fun h => ?_)) <;> (simp (implicitDefEqProofs := false) (maxSteps := 2000000) (disch := omega) only [go_sem, hx, eTs, d2, h]; (repeat' (first | (refine hK _ ?_; clear hK hkp kp K) | (with_reducible refine And.intro ?_ ?_) | omega)))) | refine awp_cond_t rfl ?_ | refine awp_cond_f rfl ?_ | ((refine awp_cond rfl (fun h => ?_) (fun h => ?_) <;> try simp only [decide_eq_true_eq, decide_eq_false_iff_not, Int.not_lt, Int.not_le, Bool.not_eq_true, Bool.not_eq_false, bne_iff_ne, ne_eq, beq_iff_eq, bne_eq_false_iff_eq, beq_eq_false_iff_ne] at h) <;> (try (exfalso; omega))) | refine awp_ret ?_))
      ((first | (refine nextB (k + 1) ?_ ?_ ?_) | (refine nextA (k + 1) ?_ ?_ ?_)); rotate_left; (· (try dsimp only); (first | omega | (simp only [List.length_drop, List.length_cons, List.length_append]; omega) | (simp; done) | (simp; omega))); (· (refine emb [0] ?_ ?_ rfl ?_ ?_ ?_ ?_ <;> simp [okM, okO, lk, ren, renL, renNd, by_, hE] <;> (try omega))))
      omega
  · obtain rfl : k = ls.length := by omega
    rw [List.take_of_length_le (Nat.le_refl _)]
    have d1 : decide ((ls.length : Int) < (ls.length : Int)) = false := decide_eq_false (by omega)
    (repeat' (first | refine awp_seq ?_ | refine awp_block ?_ | refine awp_skip ?_ | refine awp_exit ?_ | ((first | refine awp_r (by kernel_rfl) (fun K kp hK hkp => ?_)); simp (implicitDefEqProofs := false) (maxSteps := 2000000) (disch := omega) only [go_sem, d1]; (repeat' (first | (refine hK _ ?_; clear hK hkp kp K) | (with_reducible refine And.intro ?_ ?_) | omega))) | ((first | refine goG_ask (fun h => ?_) (fun h => ?_) | refine goGD_ask (fun h => ?_) (fun h => ?_) | refine goGX_ask (fun h => ?_) (fun h => ?_)) <;> (simp (implicitDefEqProofs := false) (maxSteps := 2000000) (disch := omega) only [go_sem, d1, h]; (repeat' (first | (refine hK _ ?_; clear hK hkp kp K) | (with_reducible refine And.intro ?_ ?_) | omega)))) | refine awp_cond_t rfl ?_ | refine awp_cond_f rfl ?_ | ((refine awp_cond rfl (fun h => ?_) (fun h => ?_) <;> try simp only [decide_eq_true_eq, decide_eq_false_iff_not, Int.not_lt, Int.not_le, Bool.not_eq_true, Bool.not_eq_false, bne_iff_ne, ne_eq, beq_iff_eq, bne_eq_false_iff_eq, beq_eq_false_iff_ne] at h) <;> (try (exfalso; omega))) | refine awp_ret ?_))
    (refine retA_is (by (simp (implicitDefEqProofs := false) (maxSteps := 2000000) (disch := omega) only [go_sem, Go.Proofs.Tryd.results77]); rfl) ?_; refine embS_frz (by simp only [oneA]; simp (implicitDefEqProofs := false) (maxSteps := 2000000) (disch := omega) only [go_sem]; rfl) ?_; refine (embV_nil hE (by simp) ?_).s; simp [oneA, ren, renL])
def showR : RT OP → List TK0
  | .l o => stepT o [] []
  | .u o t => stepT o (showR t) []
  | .b o s t => stepT o (showR s) (showR t)
theorem showR_len : ∀ tr : RT OP, (showR tr).length ≤ 4 * tr.flat.length
  | .l o => by have := stepT_len o [] []; simp [showR, RT.flat] at this ⊢; omega
  | .u o t => by have := stepT_len o (showR t) []; have := showR_len t; simp [showR, RT.flat] at this ⊢; simp at *; omega
  | .b o s t => by have := stepT_len o (showR s) (showR t); have := showR_len s; have := showR_len t; simp only [showR, RT.flat, List.length_append, List.length_cons, List.length_nil]; omega
theorem evT_show : ∀ tr : RT OP, evT stepF [] tr = .ok (showR tr)
  | .l o => rfl
  | .u o t => by rw [evT, evT_show t]; rfl
  | .b o s t => by rw [evT, evT_show s]; simp only; rw [evT_show t]; rfl
theorem foldT_tree {tr : RT OP} (h : tr.wf arO) : foldT (foldS arO stepF [] tr.flat []) = showR tr := by
  have := foldS_tree arO stepF [] tr [] [] h
  rw [List.append_nil, evT_show] at this
  rw [this]; rfl
theorem toks_word {s : ByteArray} (h : goodN s) : toksM s.toList = [wordT s] := by
  have e := toksG_word s.toList [] [] h.none
  rw [List.append_nil] at e
  rw [toksM, e, List.nil_append]
  exact emit_good h
def okO3 (o : OP) : Prop := okO2 o ∧ (o.k = 2 → goodN o.nm)
theorem toks_lnot : toksM [40, 32, 78, 79, 84] = [lparT, wordT (str [78, 79, 84])] := rfl
theorem toks_lpar : toksM [40] = [lparT] := rfl
theorem toks_rpar : toksM [41] = [rparT] := rfl
theorem toks_isnull : toksM [73, 83, 32, 78, 85, 76, 76, 32, 41] = [wordT (str [73, 83]), wordT nullS, rparT] := rfl
def sgnB (k : Int) : List UInt8 := if k = 3 then [65, 78, 68] else if k = 4 then [79, 82] else if k = 6 then [61] else if k = 7 then [60] else if k = 8 then [43] else if k = 9 then [45] else [42]
theorem sgnB_len (k : Int) : (sgnB k).length ≤ 1000000 := by
  unfold sgnB
  repeat' split
  all_goals simp
theorem toks_sgn (k : Int) : toksM (sgnB k) = [betT k] := by
  unfold sgnB betT
  repeat' split
  all_goals rfl
set_option maxRecDepth 100000 in
set_option maxHeartbeats 16000000 in
theorem opsToks_con (G : List (Nat × List Value)) (t : Bool) : ∀ tr : RT OP, tr.wf arO → (∀ o ∈ tr.flat, okO3 o) → tr.flat.length ≤ 40 → Con Go.Proofs.Tryd.prog G 79 [.ro t 5 (tr.flat.map eO)] [] 0 (Is (.ro true 3 ((showR tr).map eT)) [] 0) No
  | .l o, hw, hk, hn => by
    obtain ⟨⟨⟨k1, k11⟩, gv⟩, gn⟩ := hk o (by simp [RT.flat])
    simp only [RT.wf] at hw
    simp only [RT.flat, List.map_cons, List.map_nil, showR]
    refine con_of_awp Go.Proofs.Tryd.func79 rfl (by kernel_rfl) (of_decide_eq_true (by kernel_rfl)) ?_; intro E hG hE; subst hG; simp only [ent]
    obtain h | h := (arT_ks k1 k11).1 hw
    · have sc := valueToks_con E.G ⟨o.vk, o.vn, o.vs⟩ (gv h).1 (gv h).2
      have hst : stepT o [] [] = valT ⟨o.vk, o.vn, o.vs⟩ := by simp [stepT, h]
      rw [hst]
      generalize valT ⟨o.vk, o.vn, o.vs⟩ = vt at *
      simp only [eV] at sc
      (repeat' (first | refine awp_seq ?_ | refine awp_block ?_ | refine awp_skip ?_ | refine awp_exit ?_ | ((first | refine awp_r (by kernel_rfl) (fun K kp hK hkp => ?_) | refine awp_dr (id := 8) mixed 9 [1, 2, 3, 0, 4, 5, 6, 7, 8] (by kernel_rfl) (by kernel_rfl) (by kernel_rfl) (by simp only [go_sem]; rfl) (by simp only [go_sem]; rfl) (by simp only [go_sem]; rfl) (fun K kp hK hkp => ?_) | refine awp_dr (id := 10) mixed 9 [1, 2, 3, 0, 4, 5, 6, 7, 8] (by kernel_rfl) (by kernel_rfl) (by kernel_rfl) (by simp only [go_sem]; rfl) (by simp only [go_sem]; rfl) (by simp only [go_sem]; rfl) (fun K kp hK hkp => ?_) | refine awp_dr (id := 13) mixed 16 [1, 2, 3, 5, 7, 8, 9, 10, 0, 4, 6, 11, 12, 13, 14, 15] (by kernel_rfl) (by kernel_rfl) (by kernel_rfl) (by simp only [go_sem]; rfl) (by simp only [go_sem]; rfl) (by simp only [go_sem]; rfl) (fun K kp hK hkp => ?_) | ((first | apply callR_i (sc) | apply callD_i (sc) | apply callX_i (sc)); (case hb => (simp (implicitDefEqProofs := false) (maxSteps := 2000000) (disch := omega) only [go_sem, eO, h]; first | done | rfl)); (case hp => (first | (simp [-List.map_drop, -List.map_take, eO, h]; done) | exact .ro _ _ (pt_map _ _))); (case hq => (first | (simp [-List.map_drop, -List.map_take]; done) | (intro _ h; simp only [List.mem_singleton] at h; subst h; exact pt_map _ _))))); simp (implicitDefEqProofs := false) (maxSteps := 2000000) (disch := omega) only [go_sem, eO, h]; (repeat' (first | (refine hK _ ?_; clear hK hkp kp K) | (with_reducible refine And.intro ?_ ?_) | omega))) | ((first | refine goG_ask (fun h => ?_) (fun h => ?_) | refine goGD_ask (fun h => ?_) (fun h => ?_) | refine goGX_ask (fun h => ?_) (fun h => ?_)) <;> (simp (implicitDefEqProofs := false) (maxSteps := 2000000) (disch := omega) only [go_sem, eO, h, h]; (repeat' (first | (refine hK _ ?_; clear hK hkp kp K) | (with_reducible refine And.intro ?_ ?_) | omega)))) | refine awp_cond_t rfl ?_ | refine awp_cond_f rfl ?_ | ((refine awp_cond rfl (fun h => ?_) (fun h => ?_) <;> try simp only [decide_eq_true_eq, decide_eq_false_iff_not, Int.not_lt, Int.not_le, Bool.not_eq_true, Bool.not_eq_false, bne_iff_ne, ne_eq, beq_iff_eq, bne_eq_false_iff_eq, beq_eq_false_iff_ne] at h) <;> (try (exfalso; omega))) | refine awp_ret ?_))
      (refine retA_is (by (simp (implicitDefEqProofs := false) (maxSteps := 2000000) (disch := omega) only [go_sem, Go.Proofs.Tryd.results79]); rfl) ?_; refine (embV_nil hE (by simp) ?_).s; simp [oneA, ren, renL])
    · have hst : stepT o [] [] = [wordT o.nm] := by simp [stepT, h]
      have tc := toks_con E.G o.nm.toList (by have := (gn h).len; omega)
      rw [toks_word (gn h), ← Go.Proofs.YtoecmmpjndcolaaDoor.eq_str] at tc
      simp only [List.map_cons, List.map_nil, List.length_cons, List.length_nil, eT, wordT] at tc
      rw [hst]
      (repeat' (first | refine awp_seq ?_ | refine awp_block ?_ | refine awp_skip ?_ | refine awp_exit ?_ | ((first | refine awp_r (by kernel_rfl) (fun K kp hK hkp => ?_) | refine awp_dr (id := 8) mixed 9 [1, 2, 3, 0, 4, 5, 6, 7, 8] (by kernel_rfl) (by kernel_rfl) (by kernel_rfl) (by simp only [go_sem]; rfl) (by simp only [go_sem]; rfl) (by simp only [go_sem]; rfl) (fun K kp hK hkp => ?_) | refine awp_dr (id := 10) mixed 9 [1, 2, 3, 0, 4, 5, 6, 7, 8] (by kernel_rfl) (by kernel_rfl) (by kernel_rfl) (by simp only [go_sem]; rfl) (by simp only [go_sem]; rfl) (by simp only [go_sem]; rfl) (fun K kp hK hkp => ?_) | refine awp_dr (id := 13) mixed 16 [1, 2, 3, 5, 7, 8, 9, 10, 0, 4, 6, 11, 12, 13, 14, 15] (by kernel_rfl) (by kernel_rfl) (by kernel_rfl) (by simp only [go_sem]; rfl) (by simp only [go_sem]; rfl) (by simp only [go_sem]; rfl) (fun K kp hK hkp => ?_) | ((first | apply callR_i (tc) | apply callD_i (tc) | apply callX_i (tc)); (case hb => (simp (implicitDefEqProofs := false) (maxSteps := 2000000) (disch := omega) only [go_sem, eO, h]; first | done | rfl)); (case hp => (first | (simp [-List.map_drop, -List.map_take, eO, h]; done) | exact .ro _ _ (pt_map _ _))); (case hq => (first | (simp [-List.map_drop, -List.map_take]; done) | (intro _ h; simp only [List.mem_singleton] at h; subst h; exact pt_map _ _))))); simp (implicitDefEqProofs := false) (maxSteps := 2000000) (disch := omega) only [go_sem, eO, h]; (repeat' (first | (refine hK _ ?_; clear hK hkp kp K) | (with_reducible refine And.intro ?_ ?_) | omega))) | ((first | refine goG_ask (fun h => ?_) (fun h => ?_) | refine goGD_ask (fun h => ?_) (fun h => ?_) | refine goGX_ask (fun h => ?_) (fun h => ?_)) <;> (simp (implicitDefEqProofs := false) (maxSteps := 2000000) (disch := omega) only [go_sem, eO, h, h]; (repeat' (first | (refine hK _ ?_; clear hK hkp kp K) | (with_reducible refine And.intro ?_ ?_) | omega)))) | refine awp_cond_t rfl ?_ | refine awp_cond_f rfl ?_ | ((refine awp_cond rfl (fun h => ?_) (fun h => ?_) <;> try simp only [decide_eq_true_eq, decide_eq_false_iff_not, Int.not_lt, Int.not_le, Bool.not_eq_true, Bool.not_eq_false, bne_iff_ne, ne_eq, beq_iff_eq, bne_eq_false_iff_eq, beq_eq_false_iff_ne] at h) <;> (try (exfalso; omega))) | refine awp_ret ?_))
      (refine retA_is (by (simp (implicitDefEqProofs := false) (maxSteps := 2000000) (disch := omega) only [go_sem, Go.Proofs.Tryd.results79, eT, wordT]); rfl) ?_; refine embS_frz (by simp only [oneA]; simp (implicitDefEqProofs := false) (maxSteps := 2000000) (disch := omega) only [go_sem, eT, wordT]; rfl) ?_; refine (embV_nil hE (by simp) ?_).s; simp [oneA, ren, renL, eT, wordT])
  | .u o s, hw, hk, hn => by
    obtain ⟨hw1, hw2⟩ := hw
    obtain ⟨⟨⟨k1, k11⟩, gv⟩, gn⟩ := hk o (by simp [RT.flat])
    have ih := opsToks_con G t s hw2 (fun x hx => hk x (by simp [RT.flat, hx])) (by simp [RT.flat] at hn; omega)
    obtain ⟨ops, hops⟩ : ∃ ops, ops = (RT.u o s).flat := ⟨_, rfl⟩
    rw [← hops]
    obtain ⟨n, hne⟩ : ∃ n, n = s.flat.length := ⟨_, rfl⟩
    have hln : ops.length = n + 1 := by rw [hops, hne]; simp [RT.flat]
    have hx : ops[n]? = some o := by rw [hops, hne]; simp [RT.flat]
    have htk : ops.take n = s.flat := by rw [hops, hne]; simp [RT.flat]
    have e1 : (ops.length : Int) - 1 = (n : Nat) := by omega
    have hle : n ≤ 1000 := by rw [← hops] at hn; omega
    have hmt : s.flat.map eO = (ops.map eO).take n := by rw [← List.map_take, htk]
    rw [hmt] at ih
    have hle2 : (n : Int) ≤ ops.length := by omega
    have hsl := showR_len s
    obtain ⟨a, hae⟩ : ∃ a, a = showR s := ⟨_, rfl⟩
    have hst : showR (.u o s) = stepT o a [] := by rw [hae]; rfl
    rw [hst]
    rw [← hae] at ih hsl
    have hnn : s.flat.length ≤ 40 := by rw [← hops] at hn; omega
    have hal : a.length ≤ 200 := by omega
    have tl := toks_con G [40] (by simp)
    have tr := toks_con G [41] (by simp)
    have tn := toks_con G [40, 32, 78, 79, 84] (by simp)
    have ti := toks_con G [73, 83, 32, 78, 85, 76, 76, 32, 41] (by simp)
    rw [toks_lpar] at tl; rw [toks_rpar] at tr; rw [toks_lnot] at tn; rw [toks_isnull] at ti
    obtain ⟨vt, hvt⟩ : ∃ vt, vt = stepT o a [] := ⟨_, rfl⟩
    rw [← hvt]
    obtain h | h := (arT_ks k1 k11).2.1 hw1
    · have cc := joinToks_con G false [[lparT, wordT (str [78, 79, 84])], a, [rparT]] (by simp) (by intro x hx; simp at hx; rcases hx with rfl | rfl | rfl <;> first | omega | simp)
      have hv2 : [[lparT, wordT (str [78, 79, 84])], a, [rparT]].flatten = vt := by rw [hvt]; simp [stepT, h]
      rw [hv2] at cc
      simp only [List.map_cons, List.map_nil, List.length_cons, List.length_nil, eTs, eT, wordT, lparT, rparT, markT, nullS, str] at cc tl tr tn ti
      clear hv2
      refine con_of_awp Go.Proofs.Tryd.func79 rfl (by kernel_rfl) (of_decide_eq_true (by kernel_rfl)) ?_; intro E hG hE; subst hG; simp only [ent]
      (repeat' (first | refine awp_seq ?_ | refine awp_block ?_ | refine awp_skip ?_ | refine awp_exit ?_ | ((first | refine awp_r (by kernel_rfl) (fun K kp hK hkp => ?_) | refine awp_dr (id := 8) mixed 9 [1, 2, 3, 0, 4, 5, 6, 7, 8] (by kernel_rfl) (by kernel_rfl) (by kernel_rfl) (by simp only [go_sem]; rfl) (by simp only [go_sem]; rfl) (by simp only [go_sem]; rfl) (fun K kp hK hkp => ?_) | refine awp_dr (id := 10) mixed 9 [1, 2, 3, 0, 4, 5, 6, 7, 8] (by kernel_rfl) (by kernel_rfl) (by kernel_rfl) (by simp only [go_sem]; rfl) (by simp only [go_sem]; rfl) (by simp only [go_sem]; rfl) (fun K kp hK hkp => ?_) | refine awp_dr (id := 13) mixed 16 [1, 2, 3, 5, 7, 8, 9, 10, 0, 4, 6, 11, 12, 13, 14, 15] (by kernel_rfl) (by kernel_rfl) (by kernel_rfl) (by simp only [go_sem]; rfl) (by simp only [go_sem]; rfl) (by simp only [go_sem]; rfl) (fun K kp hK hkp => ?_) | ((first | apply callR_i (tl) | apply callD_i (tl) | apply callX_i (tl)); (case hb => (simp (implicitDefEqProofs := false) (maxSteps := 2000000) (disch := omega) only [go_sem, eO, h, hx, e1, eTs]; first | done | rfl)); (case hp => (first | (simp [-List.map_drop, -List.map_take, eO, h, hx, e1, eTs]; done) | exact .ro _ _ (pt_map _ _))); (case hq => (first | (simp [-List.map_drop, -List.map_take]; done) | (intro _ h; simp only [List.mem_singleton] at h; subst h; exact pt_map _ _)))) | ((first | apply callR_i (tr) | apply callD_i (tr) | apply callX_i (tr)); (case hb => (simp (implicitDefEqProofs := false) (maxSteps := 2000000) (disch := omega) only [go_sem, eO, h, hx, e1, eTs]; first | done | rfl)); (case hp => (first | (simp [-List.map_drop, -List.map_take, eO, h, hx, e1, eTs]; done) | exact .ro _ _ (pt_map _ _))); (case hq => (first | (simp [-List.map_drop, -List.map_take]; done) | (intro _ h; simp only [List.mem_singleton] at h; subst h; exact pt_map _ _)))) | ((first | apply callR_i (tn) | apply callD_i (tn) | apply callX_i (tn)); (case hb => (simp (implicitDefEqProofs := false) (maxSteps := 2000000) (disch := omega) only [go_sem, eO, h, hx, e1, eTs]; first | done | rfl)); (case hp => (first | (simp [-List.map_drop, -List.map_take, eO, h, hx, e1, eTs]; done) | exact .ro _ _ (pt_map _ _))); (case hq => (first | (simp [-List.map_drop, -List.map_take]; done) | (intro _ h; simp only [List.mem_singleton] at h; subst h; exact pt_map _ _)))) | ((first | apply callR_i (ti) | apply callD_i (ti) | apply callX_i (ti)); (case hb => (simp (implicitDefEqProofs := false) (maxSteps := 2000000) (disch := omega) only [go_sem, eO, h, hx, e1, eTs]; first | done | rfl)); (case hp => (first | (simp [-List.map_drop, -List.map_take, eO, h, hx, e1, eTs]; done) | exact .ro _ _ (pt_map _ _))); (case hq => (first | (simp [-List.map_drop, -List.map_take]; done) | (intro _ h; simp only [List.mem_singleton] at h; subst h; exact pt_map _ _)))) | ((first | apply callR_i (ih) | apply callD_i (ih) | apply callX_i (ih)); (case hb => (simp (implicitDefEqProofs := false) (maxSteps := 2000000) (disch := omega) only [go_sem, eO, h, hx, e1, eTs]; first | done | rfl)); (case hp => (first | (simp [-List.map_drop, -List.map_take, eO, h, hx, e1, eTs]; done) | exact .ro _ _ (pt_map _ _))); (case hq => (first | (simp [-List.map_drop, -List.map_take]; done) | (intro _ h; simp only [List.mem_singleton] at h; subst h; exact pt_map _ _)))) | ((first | apply callR_i (cc) | apply callD_i (cc) | apply callX_i (cc)); (case hb => (simp (implicitDefEqProofs := false) (maxSteps := 2000000) (disch := omega) only [go_sem, eO, h, hx, e1, eTs]; first | done | rfl)); (case hp => (first | (simp [-List.map_drop, -List.map_take, eO, h, hx, e1, eTs]; done) | exact .ro _ _ (pt_map _ _))); (case hq => (first | (simp [-List.map_drop, -List.map_take]; done) | (intro _ h; simp only [List.mem_singleton] at h; subst h; exact pt_map _ _))))); simp (implicitDefEqProofs := false) (maxSteps := 2000000) (disch := omega) only [go_sem, eO, h, hx, e1, eTs]; (repeat' (first | (refine hK _ ?_; clear hK hkp kp K) | (with_reducible refine And.intro ?_ ?_) | omega))) | ((first | refine goG_ask (fun h => ?_) (fun h => ?_) | refine goGD_ask (fun h => ?_) (fun h => ?_) | refine goGX_ask (fun h => ?_) (fun h => ?_)) <;> (simp (implicitDefEqProofs := false) (maxSteps := 2000000) (disch := omega) only [go_sem, eO, h, hx, e1, eTs, h]; (repeat' (first | (refine hK _ ?_; clear hK hkp kp K) | (with_reducible refine And.intro ?_ ?_) | omega)))) | refine awp_cond_t rfl ?_ | refine awp_cond_f rfl ?_ | ((refine awp_cond rfl (fun h => ?_) (fun h => ?_) <;> try simp only [decide_eq_true_eq, decide_eq_false_iff_not, Int.not_lt, Int.not_le, Bool.not_eq_true, Bool.not_eq_false, bne_iff_ne, ne_eq, beq_iff_eq, bne_eq_false_iff_eq, beq_eq_false_iff_ne] at h) <;> (try (exfalso; omega))) | refine awp_ret ?_))
      (refine retA_is (by (simp (implicitDefEqProofs := false) (maxSteps := 2000000) (disch := omega) only [go_sem, Go.Proofs.Tryd.results79]); rfl) ?_; refine (embV_nil hE (by simp) ?_).s; simp [oneA, ren, renL])
    · have cc := joinToks_con G false [[lparT], a, [wordT (str [73, 83]), wordT nullS, rparT]] (by simp) (by intro x hx; simp at hx; rcases hx with rfl | rfl | rfl <;> first | omega | simp)
      have hv2 : [[lparT], a, [wordT (str [73, 83]), wordT nullS, rparT]].flatten = vt := by rw [hvt]; simp [stepT, h]
      rw [hv2] at cc
      simp only [List.map_cons, List.map_nil, List.length_cons, List.length_nil, eTs, eT, wordT, lparT, rparT, markT, nullS, str] at cc tl tr tn ti
      clear hv2
      refine con_of_awp Go.Proofs.Tryd.func79 rfl (by kernel_rfl) (of_decide_eq_true (by kernel_rfl)) ?_; intro E hG hE; subst hG; simp only [ent]
      (repeat' (first | refine awp_seq ?_ | refine awp_block ?_ | refine awp_skip ?_ | refine awp_exit ?_ | ((first | refine awp_r (by kernel_rfl) (fun K kp hK hkp => ?_) | refine awp_dr (id := 8) mixed 9 [1, 2, 3, 0, 4, 5, 6, 7, 8] (by kernel_rfl) (by kernel_rfl) (by kernel_rfl) (by simp only [go_sem]; rfl) (by simp only [go_sem]; rfl) (by simp only [go_sem]; rfl) (fun K kp hK hkp => ?_) | refine awp_dr (id := 10) mixed 9 [1, 2, 3, 0, 4, 5, 6, 7, 8] (by kernel_rfl) (by kernel_rfl) (by kernel_rfl) (by simp only [go_sem]; rfl) (by simp only [go_sem]; rfl) (by simp only [go_sem]; rfl) (fun K kp hK hkp => ?_) | refine awp_dr (id := 13) mixed 16 [1, 2, 3, 5, 7, 8, 9, 10, 0, 4, 6, 11, 12, 13, 14, 15] (by kernel_rfl) (by kernel_rfl) (by kernel_rfl) (by simp only [go_sem]; rfl) (by simp only [go_sem]; rfl) (by simp only [go_sem]; rfl) (fun K kp hK hkp => ?_) | ((first | apply callR_i (tl) | apply callD_i (tl) | apply callX_i (tl)); (case hb => (simp (implicitDefEqProofs := false) (maxSteps := 2000000) (disch := omega) only [go_sem, eO, h, hx, e1, eTs]; first | done | rfl)); (case hp => (first | (simp [-List.map_drop, -List.map_take, eO, h, hx, e1, eTs]; done) | exact .ro _ _ (pt_map _ _))); (case hq => (first | (simp [-List.map_drop, -List.map_take]; done) | (intro _ h; simp only [List.mem_singleton] at h; subst h; exact pt_map _ _)))) | ((first | apply callR_i (tr) | apply callD_i (tr) | apply callX_i (tr)); (case hb => (simp (implicitDefEqProofs := false) (maxSteps := 2000000) (disch := omega) only [go_sem, eO, h, hx, e1, eTs]; first | done | rfl)); (case hp => (first | (simp [-List.map_drop, -List.map_take, eO, h, hx, e1, eTs]; done) | exact .ro _ _ (pt_map _ _))); (case hq => (first | (simp [-List.map_drop, -List.map_take]; done) | (intro _ h; simp only [List.mem_singleton] at h; subst h; exact pt_map _ _)))) | ((first | apply callR_i (tn) | apply callD_i (tn) | apply callX_i (tn)); (case hb => (simp (implicitDefEqProofs := false) (maxSteps := 2000000) (disch := omega) only [go_sem, eO, h, hx, e1, eTs]; first | done | rfl)); (case hp => (first | (simp [-List.map_drop, -List.map_take, eO, h, hx, e1, eTs]; done) | exact .ro _ _ (pt_map _ _))); (case hq => (first | (simp [-List.map_drop, -List.map_take]; done) | (intro _ h; simp only [List.mem_singleton] at h; subst h; exact pt_map _ _)))) | ((first | apply callR_i (ti) | apply callD_i (ti) | apply callX_i (ti)); (case hb => (simp (implicitDefEqProofs := false) (maxSteps := 2000000) (disch := omega) only [go_sem, eO, h, hx, e1, eTs]; first | done | rfl)); (case hp => (first | (simp [-List.map_drop, -List.map_take, eO, h, hx, e1, eTs]; done) | exact .ro _ _ (pt_map _ _))); (case hq => (first | (simp [-List.map_drop, -List.map_take]; done) | (intro _ h; simp only [List.mem_singleton] at h; subst h; exact pt_map _ _)))) | ((first | apply callR_i (ih) | apply callD_i (ih) | apply callX_i (ih)); (case hb => (simp (implicitDefEqProofs := false) (maxSteps := 2000000) (disch := omega) only [go_sem, eO, h, hx, e1, eTs]; first | done | rfl)); (case hp => (first | (simp [-List.map_drop, -List.map_take, eO, h, hx, e1, eTs]; done) | exact .ro _ _ (pt_map _ _))); (case hq => (first | (simp [-List.map_drop, -List.map_take]; done) | (intro _ h; simp only [List.mem_singleton] at h; subst h; exact pt_map _ _)))) | ((first | apply callR_i (cc) | apply callD_i (cc) | apply callX_i (cc)); (case hb => (simp (implicitDefEqProofs := false) (maxSteps := 2000000) (disch := omega) only [go_sem, eO, h, hx, e1, eTs]; first | done | rfl)); (case hp => (first | (simp [-List.map_drop, -List.map_take, eO, h, hx, e1, eTs]; done) | exact .ro _ _ (pt_map _ _))); (case hq => (first | (simp [-List.map_drop, -List.map_take]; done) | (intro _ h; simp only [List.mem_singleton] at h; subst h; exact pt_map _ _))))); simp (implicitDefEqProofs := false) (maxSteps := 2000000) (disch := omega) only [go_sem, eO, h, hx, e1, eTs]; (repeat' (first | (refine hK _ ?_; clear hK hkp kp K) | (with_reducible refine And.intro ?_ ?_) | omega))) | ((first | refine goG_ask (fun h => ?_) (fun h => ?_) | refine goGD_ask (fun h => ?_) (fun h => ?_) | refine goGX_ask (fun h => ?_) (fun h => ?_)) <;> (simp (implicitDefEqProofs := false) (maxSteps := 2000000) (disch := omega) only [go_sem, eO, h, hx, e1, eTs, h]; (repeat' (first | (refine hK _ ?_; clear hK hkp kp K) | (with_reducible refine And.intro ?_ ?_) | omega)))) | refine awp_cond_t rfl ?_ | refine awp_cond_f rfl ?_ | ((refine awp_cond rfl (fun h => ?_) (fun h => ?_) <;> try simp only [decide_eq_true_eq, decide_eq_false_iff_not, Int.not_lt, Int.not_le, Bool.not_eq_true, Bool.not_eq_false, bne_iff_ne, ne_eq, beq_iff_eq, bne_eq_false_iff_eq, beq_eq_false_iff_ne] at h) <;> (try (exfalso; omega))) | refine awp_ret ?_))
      (refine retA_is (by (simp (implicitDefEqProofs := false) (maxSteps := 2000000) (disch := omega) only [go_sem, Go.Proofs.Tryd.results79]); rfl) ?_; refine (embV_nil hE (by simp) ?_).s; simp [oneA, ren, renL])
  | .b o r s, hw, hk, hn => by
    obtain ⟨hw1, hw2, hw3⟩ := hw
    obtain ⟨⟨⟨k1, k11⟩, gv⟩, gn⟩ := hk o (by simp [RT.flat])
    have ihr := opsToks_con G t r hw2 (fun x hx => hk x (by simp [RT.flat, hx])) (by simp [RT.flat] at hn; omega)
    have ihs := opsToks_con G t s hw3 (fun x hx => hk x (by simp [RT.flat, hx])) (by simp [RT.flat] at hn; omega)
    obtain ⟨ops, hops⟩ : ∃ ops, ops = (RT.b o r s).flat := ⟨_, rfl⟩
    rw [← hops]
    obtain ⟨m, hme⟩ : ∃ m, m = r.flat.length := ⟨_, rfl⟩
    obtain ⟨n, hne⟩ : ∃ n, n = r.flat.length + s.flat.length := ⟨_, rfl⟩
    have hln : ops.length = n + 1 := by rw [hops, hne]; simp [RT.flat]; omega
    have hx : ops[n]? = some o := by rw [hops, hne, ← List.length_append]; simp only [RT.flat]; exact List.getElem?_concat_length
    have htk : ops.take n = r.flat ++ s.flat := by rw [hops, hne, ← List.length_append]; simp only [RT.flat]; exact List.take_left
    have htm : ops.take m = r.flat := by rw [hops, hme]; simp [RT.flat]
    have e1 : (ops.length : Int) - 1 = (n : Nat) := by omega
    have hle : n ≤ 1000 := by rw [← hops] at hn; omega
    have hmr : r.flat.map eO = (ops.map eO).take m := by rw [← List.map_take, htm]
    have hms : s.flat.map eO = ((ops.map eO).take n).drop m := by rw [← List.map_take, ← List.map_drop, htk, hme]; simp
    rw [hmr] at ihr
    rw [hms] at ihs
    have hbe : begM arO ops n = m := by rw [hops, hne, hme]; have := begM_tree (ar := arO) r.flat s [o] hw3; simpa [RT.flat] using this
    have bc := begins_con G t ops n (by rw [hops]; omega) (by omega) (by
      intro i k hi hc
      rcases Nat.eq_zero_or_pos i with rfl | h0
      · exfalso
        have hp := RT.flat_pos r
        unfold begM at hbe
        simp only [List.take_zero, List.reverse_nil, cnt, Nat.add_zero, Nat.sub_zero] at hc
        omega
      · exact h0)
    rw [hbe] at bc
    have hrl := showR_len r
    have hsl := showR_len s
    have hnn : r.flat.length + s.flat.length ≤ 40 := by rw [← hops] at hn; omega
    obtain ⟨a, hae⟩ : ∃ a, a = showR r := ⟨_, rfl⟩
    obtain ⟨b, hbe2⟩ : ∃ b, b = showR s := ⟨_, rfl⟩
    have hst : showR (.b o r s) = stepT o a b := by rw [hae, hbe2]; rfl
    rw [hst]
    rw [← hae] at ihr hrl
    rw [← hbe2] at ihs hsl
    have hal : a.length ≤ 200 := by omega
    have hbl : b.length ≤ 200 := by omega
    have tl := toks_con G [40] (by simp)
    have tr := toks_con G [41] (by simp)
    have tg := toks_con G (sgnB o.k) (sgnB_len o.k)
    rw [toks_lpar] at tl; rw [toks_rpar] at tr; rw [toks_sgn] at tg
    obtain ⟨vt, hvt⟩ : ∃ vt, vt = stepT o a b := ⟨_, rfl⟩
    rw [← hvt]
    have hks := (arT_ks k1 k11).2.2 hw1
    have cc := joinToks_con G false [[lparT], a, [betT o.k], b, [rparT]] (by simp) (by intro x hx; simp at hx; rcases hx with rfl | rfl | rfl | rfl | rfl <;> first | omega | simp)
    have hv2 : [[lparT], a, [betT o.k], b, [rparT]].flatten = vt := by
      rw [hvt]; simp [stepT, show ¬ o.k = 1 by omega, show ¬ o.k = 2 by omega, show ¬ o.k = 5 by omega, show ¬ o.k = 11 by omega]
    rw [hv2] at cc
    clear hv2
    generalize hbt : betT o.k = bt at tg cc
    simp only [List.map_cons, List.map_nil, List.length_cons, List.length_nil, eTs, eT, lparT, rparT, markT, str] at cc tl tr tg
    rcases hks with h | h | h | h | h | h | h
    all_goals
      simp only [sgnB, h] at tg
      refine con_of_awp Go.Proofs.Tryd.func79 rfl (by kernel_rfl) (of_decide_eq_true (by kernel_rfl)) ?_; intro E hG hE; subst hG; simp only [ent]
      (repeat' (first | refine awp_seq ?_ | refine awp_block ?_ | refine awp_skip ?_ | refine awp_exit ?_ | ((first | refine awp_r (by kernel_rfl) (fun K kp hK hkp => ?_) | refine awp_dr (id := 8) mixed 9 [1, 2, 3, 0, 4, 5, 6, 7, 8] (by kernel_rfl) (by kernel_rfl) (by kernel_rfl) (by simp only [go_sem]; rfl) (by simp only [go_sem]; rfl) (by simp only [go_sem]; rfl) (fun K kp hK hkp => ?_) | refine awp_dr (id := 10) mixed 9 [1, 2, 3, 0, 4, 5, 6, 7, 8] (by kernel_rfl) (by kernel_rfl) (by kernel_rfl) (by simp only [go_sem]; rfl) (by simp only [go_sem]; rfl) (by simp only [go_sem]; rfl) (fun K kp hK hkp => ?_) | refine awp_dr (id := 13) mixed 16 [1, 2, 3, 5, 7, 8, 9, 10, 0, 4, 6, 11, 12, 13, 14, 15] (by kernel_rfl) (by kernel_rfl) (by kernel_rfl) (by simp only [go_sem]; rfl) (by simp only [go_sem]; rfl) (by simp only [go_sem]; rfl) (fun K kp hK hkp => ?_) | ((first | apply callR_i (tl) | apply callD_i (tl) | apply callX_i (tl)); (case hb => (simp (implicitDefEqProofs := false) (maxSteps := 2000000) (disch := omega) only [go_sem, eO, h, hx, e1, eTs]; first | done | rfl)); (case hp => (first | (simp [-List.map_drop, -List.map_take, eO, h, hx, e1, eTs]; done) | exact .ro _ _ (pt_map _ _))); (case hq => (first | (simp [-List.map_drop, -List.map_take]; done) | (intro _ h; simp only [List.mem_singleton] at h; subst h; exact pt_map _ _)))) | ((first | apply callR_i (tr) | apply callD_i (tr) | apply callX_i (tr)); (case hb => (simp (implicitDefEqProofs := false) (maxSteps := 2000000) (disch := omega) only [go_sem, eO, h, hx, e1, eTs]; first | done | rfl)); (case hp => (first | (simp [-List.map_drop, -List.map_take, eO, h, hx, e1, eTs]; done) | exact .ro _ _ (pt_map _ _))); (case hq => (first | (simp [-List.map_drop, -List.map_take]; done) | (intro _ h; simp only [List.mem_singleton] at h; subst h; exact pt_map _ _)))) | ((first | apply callR_i (tg) | apply callD_i (tg) | apply callX_i (tg)); (case hb => (simp (implicitDefEqProofs := false) (maxSteps := 2000000) (disch := omega) only [go_sem, eO, h, hx, e1, eTs]; first | done | rfl)); (case hp => (first | (simp [-List.map_drop, -List.map_take, eO, h, hx, e1, eTs]; done) | exact .ro _ _ (pt_map _ _))); (case hq => (first | (simp [-List.map_drop, -List.map_take]; done) | (intro _ h; simp only [List.mem_singleton] at h; subst h; exact pt_map _ _)))) | ((first | apply callR_i (bc) | apply callD_i (bc) | apply callX_i (bc)); (case hb => (simp (implicitDefEqProofs := false) (maxSteps := 2000000) (disch := omega) only [go_sem, eO, h, hx, e1, eTs]; first | done | rfl)); (case hp => (first | (simp [-List.map_drop, -List.map_take, eO, h, hx, e1, eTs]; done) | exact .ro _ _ (pt_map _ _))); (case hq => (first | (simp [-List.map_drop, -List.map_take]; done) | (intro _ h; simp only [List.mem_singleton] at h; subst h; exact pt_map _ _)))) | ((first | apply callR_i (ihr) | apply callD_i (ihr) | apply callX_i (ihr)); (case hb => (simp (implicitDefEqProofs := false) (maxSteps := 2000000) (disch := omega) only [go_sem, eO, h, hx, e1, eTs]; first | done | rfl)); (case hp => (first | (simp [-List.map_drop, -List.map_take, eO, h, hx, e1, eTs]; done) | exact .ro _ _ (pt_map _ _))); (case hq => (first | (simp [-List.map_drop, -List.map_take]; done) | (intro _ h; simp only [List.mem_singleton] at h; subst h; exact pt_map _ _)))) | ((first | apply callR_i (ihs) | apply callD_i (ihs) | apply callX_i (ihs)); (case hb => (simp (implicitDefEqProofs := false) (maxSteps := 2000000) (disch := omega) only [go_sem, eO, h, hx, e1, eTs]; first | done | rfl)); (case hp => (first | (simp [-List.map_drop, -List.map_take, eO, h, hx, e1, eTs]; done) | exact .ro _ _ (pt_map _ _))); (case hq => (first | (simp [-List.map_drop, -List.map_take]; done) | (intro _ h; simp only [List.mem_singleton] at h; subst h; exact pt_map _ _)))) | ((first | apply callR_i (cc) | apply callD_i (cc) | apply callX_i (cc)); (case hb => (simp (implicitDefEqProofs := false) (maxSteps := 2000000) (disch := omega) only [go_sem, eO, h, hx, e1, eTs]; first | done | rfl)); (case hp => (first | (simp [-List.map_drop, -List.map_take, eO, h, hx, e1, eTs]; done) | exact .ro _ _ (pt_map _ _))); (case hq => (first | (simp [-List.map_drop, -List.map_take]; done) | (intro _ h; simp only [List.mem_singleton] at h; subst h; exact pt_map _ _))))); simp (implicitDefEqProofs := false) (maxSteps := 2000000) (disch := omega) only [go_sem, eO, h, hx, e1, eTs]; (repeat' (first | (refine hK _ ?_; clear hK hkp kp K) | (with_reducible refine And.intro ?_ ?_) | omega))) | ((first | refine goG_ask (fun h => ?_) (fun h => ?_) | refine goGD_ask (fun h => ?_) (fun h => ?_) | refine goGX_ask (fun h => ?_) (fun h => ?_)) <;> (simp (implicitDefEqProofs := false) (maxSteps := 2000000) (disch := omega) only [go_sem, eO, h, hx, e1, eTs, h]; (repeat' (first | (refine hK _ ?_; clear hK hkp kp K) | (with_reducible refine And.intro ?_ ?_) | omega)))) | refine awp_cond_t rfl ?_ | refine awp_cond_f rfl ?_ | ((refine awp_cond rfl (fun h => ?_) (fun h => ?_) <;> try simp only [decide_eq_true_eq, decide_eq_false_iff_not, Int.not_lt, Int.not_le, Bool.not_eq_true, Bool.not_eq_false, bne_iff_ne, ne_eq, beq_iff_eq, bne_eq_false_iff_eq, beq_eq_false_iff_ne] at h) <;> (try (exfalso; omega))) | refine awp_ret ?_))
      (refine retA_is (by (simp (implicitDefEqProofs := false) (maxSteps := 2000000) (disch := omega) only [go_sem, Go.Proofs.Tryd.results79]); rfl) ?_; refine (embV_nil hE (by simp) ?_).s; simp [oneA, ren, renL])
end Go.AM
/- Statements: parse.showWhere, parse.showPick. -/
namespace Go.AM
open Go Go.RowKit
open Go.Proofs.YtoecmmpjndcolaaDoor (OP nameM litM exprM marksS wordsS StrsAt str SlAt letB wrdB digB bt vcheck popsM)
attribute [local irreducible] AWP retA
/-- A WHERE as tokens. -/
def whT (l : List OP) (tr : RT OP) : List TK0 := if l = [] then [] else wordT (str [87, 72, 69, 82, 69]) :: showR tr
/-- A row of ops that may be none, with its tree. -/
structure WhOk (l : List OP) (tr : RT OP) : Prop where
  wf : l ≠ [] → tr.wf arO
  flat : l ≠ [] → tr.flat = l
  len : l.length ≤ 40
  ops : ∀ o ∈ l, okO3 o
  hgt : l ≠ [] → hgt arO l 0 = some 1
theorem WhOk.lenT {l : List OP} {tr : RT OP} (h : WhOk l tr) : (whT l tr).length ≤ 161 := by
  unfold whT
  split
  · simp
  · rename_i hne
    have := showR_len tr
    rw [h.flat hne] at this
    have := h.len
    simp; omega
set_option maxRecDepth 100000 in
theorem showWhere_con (G : List (Nat × List Value)) (l : List OP) (tr : RT OP) (h : WhOk l tr) : Con Go.Proofs.Tryd.prog G 71 [.ro true 5 (l.map eO)] [] 0 (Is (.ro true 3 ((whT l tr).map eT)) [] 0) No := by
  refine con_of_awp Go.Proofs.Tryd.func71 rfl (by kernel_rfl) (of_decide_eq_true (by kernel_rfl)) ?_; intro E hG hE; subst hG; simp only [ent]
  have hl := h.len
  by_cases h0 : l = []
  · subst h0
    (repeat' (first | refine awp_seq ?_ | refine awp_block ?_ | refine awp_skip ?_ | refine awp_exit ?_ | ((first | refine awp_r (by kernel_rfl) (fun K kp hK hkp => ?_)); simp (implicitDefEqProofs := false) (maxSteps := 2000000) (disch := omega) only [go_sem]; (repeat' (first | (refine hK _ ?_; clear hK hkp kp K) | (with_reducible refine And.intro ?_ ?_) | omega))) | ((first | refine goG_ask (fun h => ?_) (fun h => ?_) | refine goGD_ask (fun h => ?_) (fun h => ?_) | refine goGX_ask (fun h => ?_) (fun h => ?_)) <;> (simp (implicitDefEqProofs := false) (maxSteps := 2000000) (disch := omega) only [go_sem, h]; (repeat' (first | (refine hK _ ?_; clear hK hkp kp K) | (with_reducible refine And.intro ?_ ?_) | omega)))) | refine awp_cond_t rfl ?_ | refine awp_cond_f rfl ?_ | ((refine awp_cond rfl (fun h => ?_) (fun h => ?_) <;> try simp only [decide_eq_true_eq, decide_eq_false_iff_not, Int.not_lt, Int.not_le, Bool.not_eq_true, Bool.not_eq_false, bne_iff_ne, ne_eq, beq_iff_eq, bne_eq_false_iff_eq, beq_eq_false_iff_ne] at h) <;> (try (exfalso; omega))) | refine awp_ret ?_))
    refine retA_is (by (simp (implicitDefEqProofs := false) (maxSteps := 2000000) (disch := omega) only [go_sem, Go.Proofs.Tryd.results71]); rfl) ?_
    exact embS_nil hE (by simp) 3
  · have hp : 0 < l.length := List.length_pos_iff.2 h0
    have ac := allO_con E.G false [str [87, 72, 69, 82, 69]] (by simp)
    have sc := showOps_con E.G true l hl (fun o ho => (h.ops o ho).1) (h.hgt h0)
    have hf := foldT_tree (h.wf h0)
    rw [h.flat h0] at hf
    rw [hf] at sc
    have hw : whT l tr = [wordT (str [87, 72, 69, 82, 69])] ++ showR tr := by simp [whT, h0]
    have hsl := showR_len tr
    rw [h.flat h0] at hsl
    rw [hw]
    generalize showR tr = rt at *
    simp only [List.map_cons, List.map_nil, List.length_cons, List.length_nil, eStr, eT, wordT, str] at ac
    (repeat' (first | refine awp_seq ?_ | refine awp_block ?_ | refine awp_skip ?_ | refine awp_exit ?_ | ((first | refine awp_r (by kernel_rfl) (fun K kp hK hkp => ?_) | ((first | apply callR_i (ac) | apply callD_i (ac) | apply callX_i (ac)); (case hb => (simp (implicitDefEqProofs := false) (maxSteps := 2000000) (disch := omega) only [go_sem]; first | done | rfl)); (case hp => (first | (simp [-List.map_drop, -List.map_take]; done) | exact .ro _ _ (pt_map _ _))); (case hq => (first | (simp [-List.map_drop, -List.map_take]; done) | (intro _ h; simp only [List.mem_singleton] at h; subst h; exact pt_map _ _)))) | ((first | apply callR_i (sc) | apply callD_i (sc) | apply callX_i (sc)); (case hb => (simp (implicitDefEqProofs := false) (maxSteps := 2000000) (disch := omega) only [go_sem]; first | done | rfl)); (case hp => (first | (simp [-List.map_drop, -List.map_take]; done) | exact .ro _ _ (pt_map _ _))); (case hq => (first | (simp [-List.map_drop, -List.map_take]; done) | (intro _ h; simp only [List.mem_singleton] at h; subst h; exact pt_map _ _))))); simp (implicitDefEqProofs := false) (maxSteps := 2000000) (disch := omega) only [go_sem]; (repeat' (first | (refine hK _ ?_; clear hK hkp kp K) | (with_reducible refine And.intro ?_ ?_) | omega))) | ((first | refine goG_ask (fun h => ?_) (fun h => ?_) | refine goGD_ask (fun h => ?_) (fun h => ?_) | refine goGX_ask (fun h => ?_) (fun h => ?_)) <;> (simp (implicitDefEqProofs := false) (maxSteps := 2000000) (disch := omega) only [go_sem, h]; (repeat' (first | (refine hK _ ?_; clear hK hkp kp K) | (with_reducible refine And.intro ?_ ?_) | omega)))) | refine awp_cond_t rfl ?_ | refine awp_cond_f rfl ?_ | ((refine awp_cond rfl (fun h => ?_) (fun h => ?_) <;> try simp only [decide_eq_true_eq, decide_eq_false_iff_not, Int.not_lt, Int.not_le, Bool.not_eq_true, Bool.not_eq_false, bne_iff_ne, ne_eq, beq_iff_eq, bne_eq_false_iff_eq, beq_eq_false_iff_ne] at h) <;> (try (exfalso; omega))) | refine awp_ret ?_))
    all_goals first | (exfalso; omega) | (refine retA_is (by (simp (implicitDefEqProofs := false) (maxSteps := 2000000) (disch := omega) only [go_sem, Go.Proofs.Tryd.results71, eT, wordT, str]); rfl) ?_; refine embS_frz (by simp only [oneA]; simp (implicitDefEqProofs := false) (maxSteps := 2000000) (disch := omega) only [go_sem, List.length_take, List.length_cons, List.length_append, List.length_map, List.length_nil, eT, wordT, str]; rfl) ?_; refine (embV_nil hE (by simp) ?_).s; simp (disch := (first | omega | (simp; omega))) [oneA, ren, renL, List.take_of_length_le, eT, wordT, str])
theorem eq_strs (s : ByteArray) : (s.toList == ByteArray.toList ⟨#[]⟩) = decide (s.toList = []) := by
  have : ByteArray.toList ⟨#[]⟩ = [] := by simp [ByteArray.toList_eq]
  rw [this]
  cases s.toList <;> rfl
def selS : ByteArray := str [83, 69, 76, 69, 67, 84]
def cntS : ByteArray := str [67, 79, 85, 78, 84]
def fromS : ByteArray := str [70, 82, 79, 77]
def ordS : ByteArray := str [79, 82, 68, 69, 82]
def byS : ByteArray := str [66, 89]
def descS : ByteArray := str [68, 69, 83, 67]
def limS : ByteArray := str [76, 73, 77, 73, 84]
def whatT (s : ST) : List TK0 := if s.count = true then [wordT cntS, lparT, markT (str [42]), rparT] else if s.names = [] then [markT (str [42])] else commas (s.names.map fun n => [wordT n])
def ordT (s : ST) : List TK0 := if s.ord.toList = [] then [] else [wordT ordS, wordT byS, wordT s.ord] ++ (if s.down = true then [wordT descS] else [])
def limT (s : ST) : List TK0 := if s.lim ≥ 0 then [wordT limS, ⟨2, str [], s.lim⟩] else []
def selC (l : List (List TK0)) : List TK0 := [wordT selS] ++ commas l
def pickT (s : ST) (wt : List TK0) : List TK0 := [wordT selS] ++ whatT s ++ [wordT fromS, wordT s.tab] ++ wt ++ ordT s ++ limT s
set_option maxRecDepth 100000 in
set_option maxHeartbeats 16000000 in
theorem showPick_con (G : List (Nat × List Value)) (s : ST) (tr : RT OP) (hw : WhOk s.wh tr) (hn : s.names.length ≤ 6) : Con Go.Proofs.Tryd.prog G 67 [.agg (eST s)] [] 0 (Is (.ro true 3 ((pickT s (whT s.wh tr)).map eT)) [] 0) No := by
  refine con_of_awp Go.Proofs.Tryd.func67 rfl (by kernel_rfl) (of_decide_eq_true (by kernel_rfl)) ?_; intro E hG hE; subst hG; simp only [ent]
  have a1 := allO_con E.G false [selS] (by simp)
  have a2 := all_con E.G false [fromS, s.tab] (by simp)
  have a3 := all_con E.G false [ordS, byS, s.ord] (by simp)
  have wcon := showWhere_con E.G s.wh tr hw
  have hwl := hw.lenT
  have he := eq_strs s.ord
  simp only [List.map_cons, List.map_nil, List.length_cons, List.length_nil, eStr, eT, wordT, selS, fromS, ordS, byS, str] at a1 a2 a3
  generalize whT s.wh tr = wt at *
  have tk1 : ∀ d : Bool, decide (s.ord.toList = []) = d → ordT s = if d = true then [] else [wordT ordS, wordT byS, wordT s.ord] ++ (if s.down = true then [wordT descS] else []) := by
    intro d hd; cases d
    · simp [ordT, of_decide_eq_false hd]
    · simp [ordT, of_decide_eq_true hd]
  have tk2 : ∀ d : Bool, decide (s.lim ≥ 0) = d → limT s = if d = true then [wordT limS, ⟨2, str [], s.lim⟩] else [] := by
    intro d hd; cases d
    · rw [limT, if_neg (of_decide_eq_false hd)]; simp
    · rw [limT, if_pos (of_decide_eq_true hd)]; simp
  cases hc : s.count with
  | true =>
    cases ho : decide (s.ord.toList = []) <;> cases hl : decide (s.lim ≥ 0) <;> cases hd : s.down
    all_goals
      have tk1 := tk1 _ ho
      have tk2 := tk2 _ hl
      (repeat' (first | refine awp_seq ?_ | refine awp_block ?_ | refine awp_skip ?_ | refine awp_exit ?_ | ((first | refine awp_r (by kernel_rfl) (fun K kp hK hkp => ?_) | refine awp_dr (id := 20) mixed 6 [0, 2, 3, 4, 1, 5] (by kernel_rfl) (by kernel_rfl) (by kernel_rfl) (by simp only [go_sem]; rfl) (by simp only [go_sem]; rfl) (by simp only [go_sem]; rfl) (fun K kp hK hkp => ?_) | ((first | apply callR_i (a1) | apply callD_i (a1) | apply callX_i (a1)); (case hb => (simp (implicitDefEqProofs := false) (maxSteps := 2000000) (disch := omega) only [go_sem, eST, hc, he, ho, hl, hd, eT, wordT, markT, List.length_take, List.length_cons, List.length_append, List.length_map, List.length_nil]; first | done | rfl)); (case hp => (first | (simp [-List.map_drop, -List.map_take, eST, hc, he, ho, hl, hd, eT, wordT, markT, List.length_take, List.length_cons, List.length_append, List.length_map, List.length_nil]; done) | exact .ro _ _ (pt_map _ _))); (case hq => (first | (simp [-List.map_drop, -List.map_take]; done) | (intro _ h; simp only [List.mem_singleton] at h; subst h; exact pt_map _ _)))) | ((first | apply callR_i (a2) | apply callD_i (a2) | apply callX_i (a2)); (case hb => (simp (implicitDefEqProofs := false) (maxSteps := 2000000) (disch := omega) only [go_sem, eST, hc, he, ho, hl, hd, eT, wordT, markT, List.length_take, List.length_cons, List.length_append, List.length_map, List.length_nil]; first | done | rfl)); (case hp => (first | (simp [-List.map_drop, -List.map_take, eST, hc, he, ho, hl, hd, eT, wordT, markT, List.length_take, List.length_cons, List.length_append, List.length_map, List.length_nil]; done) | exact .ro _ _ (pt_map _ _))); (case hq => (first | (simp [-List.map_drop, -List.map_take]; done) | (intro _ h; simp only [List.mem_singleton] at h; subst h; exact pt_map _ _)))) | ((first | apply callR_i (a3) | apply callD_i (a3) | apply callX_i (a3)); (case hb => (simp (implicitDefEqProofs := false) (maxSteps := 2000000) (disch := omega) only [go_sem, eST, hc, he, ho, hl, hd, eT, wordT, markT, List.length_take, List.length_cons, List.length_append, List.length_map, List.length_nil]; first | done | rfl)); (case hp => (first | (simp [-List.map_drop, -List.map_take, eST, hc, he, ho, hl, hd, eT, wordT, markT, List.length_take, List.length_cons, List.length_append, List.length_map, List.length_nil]; done) | exact .ro _ _ (pt_map _ _))); (case hq => (first | (simp [-List.map_drop, -List.map_take]; done) | (intro _ h; simp only [List.mem_singleton] at h; subst h; exact pt_map _ _)))) | ((first | apply callR_i (wcon) | apply callD_i (wcon) | apply callX_i (wcon)); (case hb => (simp (implicitDefEqProofs := false) (maxSteps := 2000000) (disch := omega) only [go_sem, eST, hc, he, ho, hl, hd, eT, wordT, markT, List.length_take, List.length_cons, List.length_append, List.length_map, List.length_nil]; first | done | rfl)); (case hp => (first | (simp [-List.map_drop, -List.map_take, eST, hc, he, ho, hl, hd, eT, wordT, markT, List.length_take, List.length_cons, List.length_append, List.length_map, List.length_nil]; done) | exact .ro _ _ (pt_map _ _))); (case hq => (first | (simp [-List.map_drop, -List.map_take]; done) | (intro _ h; simp only [List.mem_singleton] at h; subst h; exact pt_map _ _)))) | ((first | apply callR_i (word_con _ _) | apply callD_i (word_con _ _) | apply callX_i (word_con _ _)); (case hb => (simp (implicitDefEqProofs := false) (maxSteps := 2000000) (disch := omega) only [go_sem, eST, hc, he, ho, hl, hd, eT, wordT, markT, List.length_take, List.length_cons, List.length_append, List.length_map, List.length_nil]; first | done | rfl)); (case hp => (first | (simp [-List.map_drop, -List.map_take, eST, hc, he, ho, hl, hd, eT, wordT, markT, List.length_take, List.length_cons, List.length_append, List.length_map, List.length_nil]; done) | exact .ro _ _ (pt_map _ _))); (case hq => (first | (simp [-List.map_drop, -List.map_take]; done) | (intro _ h; simp only [List.mem_singleton] at h; subst h; exact pt_map _ _)))) | ((first | apply callR_i (mark_con _ _) | apply callD_i (mark_con _ _) | apply callX_i (mark_con _ _)); (case hb => (simp (implicitDefEqProofs := false) (maxSteps := 2000000) (disch := omega) only [go_sem, eST, hc, he, ho, hl, hd, eT, wordT, markT, List.length_take, List.length_cons, List.length_append, List.length_map, List.length_nil]; first | done | rfl)); (case hp => (first | (simp [-List.map_drop, -List.map_take, eST, hc, he, ho, hl, hd, eT, wordT, markT, List.length_take, List.length_cons, List.length_append, List.length_map, List.length_nil]; done) | exact .ro _ _ (pt_map _ _))); (case hq => (first | (simp [-List.map_drop, -List.map_take]; done) | (intro _ h; simp only [List.mem_singleton] at h; subst h; exact pt_map _ _))))); simp (implicitDefEqProofs := false) (maxSteps := 2000000) (disch := omega) only [go_sem, eST, hc, he, ho, hl, hd, eT, wordT, markT, List.length_take, List.length_cons, List.length_append, List.length_map, List.length_nil]; (repeat' (first | (refine hK _ ?_; clear hK hkp kp K) | (with_reducible refine And.intro ?_ ?_) | omega))) | ((first | refine goG_ask (fun h => ?_) (fun h => ?_) | refine goGD_ask (fun h => ?_) (fun h => ?_) | refine goGX_ask (fun h => ?_) (fun h => ?_)) <;> (simp (implicitDefEqProofs := false) (maxSteps := 2000000) (disch := omega) only [go_sem, eST, hc, he, ho, hl, hd, eT, wordT, markT, List.length_take, List.length_cons, List.length_append, List.length_map, List.length_nil, h]; (repeat' (first | (refine hK _ ?_; clear hK hkp kp K) | (with_reducible refine And.intro ?_ ?_) | omega)))) | refine awp_cond_t rfl ?_ | refine awp_cond_f rfl ?_ | ((refine awp_cond rfl (fun h => ?_) (fun h => ?_) <;> try simp only [decide_eq_true_eq, decide_eq_false_iff_not, Int.not_lt, Int.not_le, Bool.not_eq_true, Bool.not_eq_false, bne_iff_ne, ne_eq, beq_iff_eq, bne_eq_false_iff_eq, beq_eq_false_iff_ne] at h) <;> (try (exfalso; omega))) | refine awp_ret ?_))
      all_goals first | (exfalso; omega) | (refine retA_is (by (simp (implicitDefEqProofs := false) (maxSteps := 2000000) (disch := omega) only [go_sem, Go.Proofs.Tryd.results67, pickT, whatT, tk1, tk2, hd, hc, eT, wordT, markT, lparT, rparT, selS, cntS, fromS, ordS, byS, descS, limS, str]); rfl) ?_; refine embS_frz (by simp only [oneA]; simp (implicitDefEqProofs := false) (maxSteps := 2000000) (disch := omega) only [go_sem, List.length_take, List.length_cons, List.length_append, List.length_map, List.length_nil, pickT, whatT, tk1, tk2, hd, hc, eT, wordT, markT, lparT, rparT, selS, cntS, fromS, ordS, byS, descS, limS, str]; rfl) ?_; refine (embV_nil hE (by simp) ?_).s; simp (disch := (first | omega | (simp; omega))) [oneA, ren, renL, List.take_of_length_le, pickT, whatT, tk1, tk2, hd, hc, eT, wordT, markT, lparT, rparT, selS, cntS, fromS, ordS, byS, descS, limS, str])
  | false =>
    by_cases hnn : s.names = []
    · cases ho : decide (s.ord.toList = []) <;> cases hl : decide (s.lim ≥ 0) <;> cases hd : s.down
      all_goals
        have tk1 := tk1 _ ho
        have tk2 := tk2 _ hl
        (repeat' (first | refine awp_seq ?_ | refine awp_block ?_ | refine awp_skip ?_ | refine awp_exit ?_ | ((first | refine awp_r (by kernel_rfl) (fun K kp hK hkp => ?_) | refine awp_dr (id := 20) mixed 6 [0, 2, 3, 4, 1, 5] (by kernel_rfl) (by kernel_rfl) (by kernel_rfl) (by simp only [go_sem]; rfl) (by simp only [go_sem]; rfl) (by simp only [go_sem]; rfl) (fun K kp hK hkp => ?_) | ((first | apply callR_i (a1) | apply callD_i (a1) | apply callX_i (a1)); (case hb => (simp (implicitDefEqProofs := false) (maxSteps := 2000000) (disch := omega) only [go_sem, eST, hc, hnn, he, ho, hl, hd, eT, wordT, markT, List.map_nil, List.length_take, List.length_cons, List.length_append, List.length_map, List.length_nil]; first | done | rfl)); (case hp => (first | (simp [-List.map_drop, -List.map_take, eST, hc, hnn, he, ho, hl, hd, eT, wordT, markT, List.map_nil, List.length_take, List.length_cons, List.length_append, List.length_map, List.length_nil]; done) | exact .ro _ _ (pt_map _ _))); (case hq => (first | (simp [-List.map_drop, -List.map_take]; done) | (intro _ h; simp only [List.mem_singleton] at h; subst h; exact pt_map _ _)))) | ((first | apply callR_i (a2) | apply callD_i (a2) | apply callX_i (a2)); (case hb => (simp (implicitDefEqProofs := false) (maxSteps := 2000000) (disch := omega) only [go_sem, eST, hc, hnn, he, ho, hl, hd, eT, wordT, markT, List.map_nil, List.length_take, List.length_cons, List.length_append, List.length_map, List.length_nil]; first | done | rfl)); (case hp => (first | (simp [-List.map_drop, -List.map_take, eST, hc, hnn, he, ho, hl, hd, eT, wordT, markT, List.map_nil, List.length_take, List.length_cons, List.length_append, List.length_map, List.length_nil]; done) | exact .ro _ _ (pt_map _ _))); (case hq => (first | (simp [-List.map_drop, -List.map_take]; done) | (intro _ h; simp only [List.mem_singleton] at h; subst h; exact pt_map _ _)))) | ((first | apply callR_i (a3) | apply callD_i (a3) | apply callX_i (a3)); (case hb => (simp (implicitDefEqProofs := false) (maxSteps := 2000000) (disch := omega) only [go_sem, eST, hc, hnn, he, ho, hl, hd, eT, wordT, markT, List.map_nil, List.length_take, List.length_cons, List.length_append, List.length_map, List.length_nil]; first | done | rfl)); (case hp => (first | (simp [-List.map_drop, -List.map_take, eST, hc, hnn, he, ho, hl, hd, eT, wordT, markT, List.map_nil, List.length_take, List.length_cons, List.length_append, List.length_map, List.length_nil]; done) | exact .ro _ _ (pt_map _ _))); (case hq => (first | (simp [-List.map_drop, -List.map_take]; done) | (intro _ h; simp only [List.mem_singleton] at h; subst h; exact pt_map _ _)))) | ((first | apply callR_i (wcon) | apply callD_i (wcon) | apply callX_i (wcon)); (case hb => (simp (implicitDefEqProofs := false) (maxSteps := 2000000) (disch := omega) only [go_sem, eST, hc, hnn, he, ho, hl, hd, eT, wordT, markT, List.map_nil, List.length_take, List.length_cons, List.length_append, List.length_map, List.length_nil]; first | done | rfl)); (case hp => (first | (simp [-List.map_drop, -List.map_take, eST, hc, hnn, he, ho, hl, hd, eT, wordT, markT, List.map_nil, List.length_take, List.length_cons, List.length_append, List.length_map, List.length_nil]; done) | exact .ro _ _ (pt_map _ _))); (case hq => (first | (simp [-List.map_drop, -List.map_take]; done) | (intro _ h; simp only [List.mem_singleton] at h; subst h; exact pt_map _ _)))) | ((first | apply callR_i (word_con _ _) | apply callD_i (word_con _ _) | apply callX_i (word_con _ _)); (case hb => (simp (implicitDefEqProofs := false) (maxSteps := 2000000) (disch := omega) only [go_sem, eST, hc, hnn, he, ho, hl, hd, eT, wordT, markT, List.map_nil, List.length_take, List.length_cons, List.length_append, List.length_map, List.length_nil]; first | done | rfl)); (case hp => (first | (simp [-List.map_drop, -List.map_take, eST, hc, hnn, he, ho, hl, hd, eT, wordT, markT, List.map_nil, List.length_take, List.length_cons, List.length_append, List.length_map, List.length_nil]; done) | exact .ro _ _ (pt_map _ _))); (case hq => (first | (simp [-List.map_drop, -List.map_take]; done) | (intro _ h; simp only [List.mem_singleton] at h; subst h; exact pt_map _ _)))) | ((first | apply callR_i (mark_con _ _) | apply callD_i (mark_con _ _) | apply callX_i (mark_con _ _)); (case hb => (simp (implicitDefEqProofs := false) (maxSteps := 2000000) (disch := omega) only [go_sem, eST, hc, hnn, he, ho, hl, hd, eT, wordT, markT, List.map_nil, List.length_take, List.length_cons, List.length_append, List.length_map, List.length_nil]; first | done | rfl)); (case hp => (first | (simp [-List.map_drop, -List.map_take, eST, hc, hnn, he, ho, hl, hd, eT, wordT, markT, List.map_nil, List.length_take, List.length_cons, List.length_append, List.length_map, List.length_nil]; done) | exact .ro _ _ (pt_map _ _))); (case hq => (first | (simp [-List.map_drop, -List.map_take]; done) | (intro _ h; simp only [List.mem_singleton] at h; subst h; exact pt_map _ _))))); simp (implicitDefEqProofs := false) (maxSteps := 2000000) (disch := omega) only [go_sem, eST, hc, hnn, he, ho, hl, hd, eT, wordT, markT, List.map_nil, List.length_take, List.length_cons, List.length_append, List.length_map, List.length_nil]; (repeat' (first | (refine hK _ ?_; clear hK hkp kp K) | (with_reducible refine And.intro ?_ ?_) | omega))) | ((first | refine goG_ask (fun h => ?_) (fun h => ?_) | refine goGD_ask (fun h => ?_) (fun h => ?_) | refine goGX_ask (fun h => ?_) (fun h => ?_)) <;> (simp (implicitDefEqProofs := false) (maxSteps := 2000000) (disch := omega) only [go_sem, eST, hc, hnn, he, ho, hl, hd, eT, wordT, markT, List.map_nil, List.length_take, List.length_cons, List.length_append, List.length_map, List.length_nil, h]; (repeat' (first | (refine hK _ ?_; clear hK hkp kp K) | (with_reducible refine And.intro ?_ ?_) | omega)))) | refine awp_cond_t rfl ?_ | refine awp_cond_f rfl ?_ | ((refine awp_cond rfl (fun h => ?_) (fun h => ?_) <;> try simp only [decide_eq_true_eq, decide_eq_false_iff_not, Int.not_lt, Int.not_le, Bool.not_eq_true, Bool.not_eq_false, bne_iff_ne, ne_eq, beq_iff_eq, bne_eq_false_iff_eq, beq_eq_false_iff_ne] at h) <;> (try (exfalso; omega))) | refine awp_ret ?_))
        all_goals first | (exfalso; omega) | (refine retA_is (by (simp (implicitDefEqProofs := false) (maxSteps := 2000000) (disch := omega) only [go_sem, Go.Proofs.Tryd.results67, pickT, whatT, tk1, tk2, hd, hc, hnn, eT, wordT, markT, lparT, rparT, selS, cntS, fromS, ordS, byS, descS, limS, str]); rfl) ?_; refine embS_frz (by simp only [oneA]; simp (implicitDefEqProofs := false) (maxSteps := 2000000) (disch := omega) only [go_sem, List.length_take, List.length_cons, List.length_append, List.length_map, List.length_nil, pickT, whatT, tk1, tk2, hd, hc, hnn, eT, wordT, markT, lparT, rparT, selS, cntS, fromS, ordS, byS, descS, limS, str]; rfl) ?_; refine (embV_nil hE (by simp) ?_).s; simp (disch := (first | omega | (simp; omega))) [oneA, ren, renL, List.take_of_length_le, pickT, whatT, tk1, tk2, hd, hc, hnn, eT, wordT, markT, lparT, rparT, selS, cntS, fromS, ordS, byS, descS, limS, str])
    · have hp : 0 < s.names.length := List.length_pos_iff.2 hnn
      have dn : ((s.names.length : Int) == 0) = false := by simp; omega
      obtain ⟨ns, hns⟩ : ∃ ns, ns = s.names.map fun n => [wordT n] := ⟨_, rfl⟩
      have hnl : ns.length = s.names.length := by rw [hns]; simp
      (repeat' (first | refine awp_seq ?_ | refine awp_block ?_ | refine awp_skip ?_ | refine awp_exit ?_ | ((first | refine awp_r (by kernel_rfl) (fun K kp hK hkp => ?_) | refine awp_dr (id := 20) mixed 6 [0, 2, 3, 4, 1, 5] (by kernel_rfl) (by kernel_rfl) (by kernel_rfl) (by simp only [go_sem]; rfl) (by simp only [go_sem]; rfl) (by simp only [go_sem]; rfl) (fun K kp hK hkp => ?_) | ((first | apply callR_i (a1) | apply callD_i (a1) | apply callX_i (a1)); (case hb => (simp (implicitDefEqProofs := false) (maxSteps := 2000000) (disch := omega) only [go_sem, eST, hc, dn]; first | done | rfl)); (case hp => (first | (simp [-List.map_drop, -List.map_take, eST, hc, dn]; done) | exact .ro _ _ (pt_map _ _))); (case hq => (first | (simp [-List.map_drop, -List.map_take]; done) | (intro _ h; simp only [List.mem_singleton] at h; subst h; exact pt_map _ _))))); simp (implicitDefEqProofs := false) (maxSteps := 2000000) (disch := omega) only [go_sem, eST, hc, dn]; (repeat' (first | (refine hK _ ?_; clear hK hkp kp K) | (with_reducible refine And.intro ?_ ?_) | omega))) | ((first | refine goG_ask (fun h => ?_) (fun h => ?_) | refine goGD_ask (fun h => ?_) (fun h => ?_) | refine goGX_ask (fun h => ?_) (fun h => ?_)) <;> (simp (implicitDefEqProofs := false) (maxSteps := 2000000) (disch := omega) only [go_sem, eST, hc, dn, h]; (repeat' (first | (refine hK _ ?_; clear hK hkp kp K) | (with_reducible refine And.intro ?_ ?_) | omega)))) | refine awp_cond_t rfl ?_ | refine awp_cond_f rfl ?_ | ((refine awp_cond rfl (fun h => ?_) (fun h => ?_) <;> try simp only [decide_eq_true_eq, decide_eq_false_iff_not, Int.not_lt, Int.not_le, Bool.not_eq_true, Bool.not_eq_false, bne_iff_ne, ne_eq, beq_iff_eq, bne_eq_false_iff_eq, beq_eq_false_iff_ne] at h) <;> (try (exfalso; omega))) | refine awp_ret ?_))
      refine awp_loop (fun k : Nat => ⟨[(11, .r (.int .i64 k)), (10, .r (.int .i64 s.names.length)), (9, .ro true 1 (s.names.map eStr)), (3, .s 1 0 (selC (ns.take k)).length), (1, .p 0 0 0)],
        [(0, .box 38 (eST s)), (1, .lst 61 3 ((selC (ns.take k)).map eT))], 2⟩) (fun k => k ≤ s.names.length) (fun k => s.names.length - k) 0 ?_ ?_ ?_
      · simp
      · (refine emb [0, 2] ?_ ?_ rfl ?_ ?_ ?_ ?_ <;> simp [okM, okO, lk, ren, renL, renNd, by_, hE, eST, hc, selC, commas, eT, wordT, selS, str] <;> (try omega))
      intro k hk
      have hcl : (commas (ns.take k)).length ≤ 20 := by
        have key : ∀ l : List (List TK0), (∀ x ∈ l, x.length = 1) → (commas l).length ≤ 2 * l.length := by
          intro l
          induction l with
          | nil => intro _; simp [commas]
          | cons x r ih =>
            intro h
            have hx := h x (by simp)
            have := ih (fun y hy => h y (by simp [hy]))
            cases r with
            | nil => simp [commas, hx]
            | cons y z => rw [commas_cc]; simp at this ⊢; omega
        have := key (ns.take k) (fun x hx => by have := List.mem_of_mem_take hx; rw [hns] at this; obtain ⟨n, _, rfl⟩ := List.mem_map.1 this; rfl)
        simp only [List.length_take] at this; omega
      by_cases hlt : k < s.names.length
      · obtain ⟨nm, hx⟩ : ∃ x, s.names[k]? = some x := ⟨s.names[k], by simp [hlt]⟩
        have hx2 : ns[k]? = some [wordT nm] := by rw [hns, List.getElem?_map, hx]; rfl
        by_cases h0 : 0 < k
        · have d1 : decide ((k : Int) > 0) = true := decide_eq_true (by omega)
          have hm : selC (ns.take (k + 1)) = selC (ns.take k) ++ [markT (str [44])] ++ [wordT nm] := by
            have := listO_more hx2 h0
            simp only [listO, List.cons_append, List.cons.injEq, true_and] at this
            rw [selC, this]; simp [selC]
          have hq : (selC (ns.take k)).length ≤ 21 := by rw [selC, List.length_append]; simp only [List.length_cons, List.length_nil]; omega
          generalize selC (ns.take k) = q at hm hq ⊢
          (repeat' (first | refine awp_seq ?_ | refine awp_block ?_ | refine awp_skip ?_ | refine awp_exit ?_ | ((first | refine awp_r (by kernel_rfl) (fun K kp hK hkp => ?_) | refine awp_dr (id := 20) mixed 6 [0, 2, 3, 4, 1, 5] (by kernel_rfl) (by kernel_rfl) (by kernel_rfl) (by simp only [go_sem]; rfl) (by simp only [go_sem]; rfl) (by simp only [go_sem]; rfl) (fun K kp hK hkp => ?_) | ((first | apply callR_i (word_con _ _) | apply callD_i (word_con _ _) | apply callX_i (word_con _ _)); (case hb => (simp (implicitDefEqProofs := false) (maxSteps := 2000000) (disch := omega) only [go_sem, eST, hx, eStr, d1, eT, wordT, markT]; first | done | rfl)); (case hp => (first | (simp [-List.map_drop, -List.map_take, eST, hx, eStr, d1, eT, wordT, markT]; done) | exact .ro _ _ (pt_map _ _))); (case hq => (first | (simp [-List.map_drop, -List.map_take]; done) | (intro _ h; simp only [List.mem_singleton] at h; subst h; exact pt_map _ _)))) | ((first | apply callR_i (mark_con _ _) | apply callD_i (mark_con _ _) | apply callX_i (mark_con _ _)); (case hb => (simp (implicitDefEqProofs := false) (maxSteps := 2000000) (disch := omega) only [go_sem, eST, hx, eStr, d1, eT, wordT, markT]; first | done | rfl)); (case hp => (first | (simp [-List.map_drop, -List.map_take, eST, hx, eStr, d1, eT, wordT, markT]; done) | exact .ro _ _ (pt_map _ _))); (case hq => (first | (simp [-List.map_drop, -List.map_take]; done) | (intro _ h; simp only [List.mem_singleton] at h; subst h; exact pt_map _ _))))); simp (implicitDefEqProofs := false) (maxSteps := 2000000) (disch := omega) only [go_sem, eST, hx, eStr, d1, eT, wordT, markT]; (repeat' (first | (refine hK _ ?_; clear hK hkp kp K) | (with_reducible refine And.intro ?_ ?_) | omega))) | ((first | refine goG_ask (fun h => ?_) (fun h => ?_) | refine goGD_ask (fun h => ?_) (fun h => ?_) | refine goGX_ask (fun h => ?_) (fun h => ?_)) <;> (simp (implicitDefEqProofs := false) (maxSteps := 2000000) (disch := omega) only [go_sem, eST, hx, eStr, d1, eT, wordT, markT, h]; (repeat' (first | (refine hK _ ?_; clear hK hkp kp K) | (with_reducible refine And.intro ?_ ?_) | omega)))) | refine awp_cond_t rfl ?_ | refine awp_cond_f rfl ?_ | ((refine awp_cond rfl (fun h => ?_) (fun h => ?_) <;> try simp only [decide_eq_true_eq, decide_eq_false_iff_not, Int.not_lt, Int.not_le, Bool.not_eq_true, Bool.not_eq_false, bne_iff_ne, ne_eq, beq_iff_eq, bne_eq_false_iff_eq, beq_eq_false_iff_ne] at h) <;> (try (exfalso; omega))) | refine awp_ret ?_))
          ((first | (refine nextB (k + 1) ?_ ?_ ?_) | (refine nextA (k + 1) ?_ ?_ ?_)); rotate_left; (· (try dsimp only); (first | omega | (simp only [List.length_drop, List.length_cons, List.length_append]; omega) | (simp; done) | (simp; omega))); (· (refine emb [0, 5] ?_ ?_ rfl ?_ ?_ ?_ ?_ <;> simp [okM, okO, lk, ren, renL, renNd, by_, hE, hm, eT, wordT, markT, str, eST, hc] <;> (try omega))))
          omega
        · obtain rfl : k = 0 := by omega
          have hm : selC (ns.take (0 + 1)) = selC (ns.take 0) ++ [wordT nm] := by
            have := listO_one hx2
            simp only [listO, listO_nil, List.cons_append, List.nil_append, List.cons.injEq, true_and] at this
            rw [selC, this]; simp [commas, selC]
          have hq : (selC (ns.take 0)).length ≤ 21 := by rw [selC, List.length_append]; simp only [List.length_cons, List.length_nil]; omega
          generalize selC (ns.take 0) = q at hm hq ⊢
          (repeat' (first | refine awp_seq ?_ | refine awp_block ?_ | refine awp_skip ?_ | refine awp_exit ?_ | ((first | refine awp_r (by kernel_rfl) (fun K kp hK hkp => ?_) | refine awp_dr (id := 20) mixed 6 [0, 2, 3, 4, 1, 5] (by kernel_rfl) (by kernel_rfl) (by kernel_rfl) (by simp only [go_sem]; rfl) (by simp only [go_sem]; rfl) (by simp only [go_sem]; rfl) (fun K kp hK hkp => ?_) | ((first | apply callR_i (word_con _ _) | apply callD_i (word_con _ _) | apply callX_i (word_con _ _)); (case hb => (simp (implicitDefEqProofs := false) (maxSteps := 2000000) (disch := omega) only [go_sem, eST, hx, eStr, eT, wordT, markT]; first | done | rfl)); (case hp => (first | (simp [-List.map_drop, -List.map_take, eST, hx, eStr, eT, wordT, markT]; done) | exact .ro _ _ (pt_map _ _))); (case hq => (first | (simp [-List.map_drop, -List.map_take]; done) | (intro _ h; simp only [List.mem_singleton] at h; subst h; exact pt_map _ _)))) | ((first | apply callR_i (mark_con _ _) | apply callD_i (mark_con _ _) | apply callX_i (mark_con _ _)); (case hb => (simp (implicitDefEqProofs := false) (maxSteps := 2000000) (disch := omega) only [go_sem, eST, hx, eStr, eT, wordT, markT]; first | done | rfl)); (case hp => (first | (simp [-List.map_drop, -List.map_take, eST, hx, eStr, eT, wordT, markT]; done) | exact .ro _ _ (pt_map _ _))); (case hq => (first | (simp [-List.map_drop, -List.map_take]; done) | (intro _ h; simp only [List.mem_singleton] at h; subst h; exact pt_map _ _))))); simp (implicitDefEqProofs := false) (maxSteps := 2000000) (disch := omega) only [go_sem, eST, hx, eStr, eT, wordT, markT]; (repeat' (first | (refine hK _ ?_; clear hK hkp kp K) | (with_reducible refine And.intro ?_ ?_) | omega))) | ((first | refine goG_ask (fun h => ?_) (fun h => ?_) | refine goGD_ask (fun h => ?_) (fun h => ?_) | refine goGX_ask (fun h => ?_) (fun h => ?_)) <;> (simp (implicitDefEqProofs := false) (maxSteps := 2000000) (disch := omega) only [go_sem, eST, hx, eStr, eT, wordT, markT, h]; (repeat' (first | (refine hK _ ?_; clear hK hkp kp K) | (with_reducible refine And.intro ?_ ?_) | omega)))) | refine awp_cond_t rfl ?_ | refine awp_cond_f rfl ?_ | ((refine awp_cond rfl (fun h => ?_) (fun h => ?_) <;> try simp only [decide_eq_true_eq, decide_eq_false_iff_not, Int.not_lt, Int.not_le, Bool.not_eq_true, Bool.not_eq_false, bne_iff_ne, ne_eq, beq_iff_eq, bne_eq_false_iff_eq, beq_eq_false_iff_ne] at h) <;> (try (exfalso; omega))) | refine awp_ret ?_))
          ((first | (refine nextB (0 + 1) ?_ ?_ ?_) | (refine nextA (0 + 1) ?_ ?_ ?_)); rotate_left; (· (try dsimp only); (first | omega | (simp only [List.length_drop, List.length_cons, List.length_append]; omega) | (simp; done) | (simp; omega))); (· (refine emb [0, 3] ?_ ?_ rfl ?_ ?_ ?_ ?_ <;> simp [okM, okO, lk, ren, renL, renNd, by_, hE, hm, eT, wordT, markT, str, eST, hc] <;> (try omega))))
          omega
      · obtain rfl : k = s.names.length := by omega
        rw [← hnl, List.take_of_length_le (Nat.le_refl _)] at hcl ⊢
        have hq : (selC ns).length ≤ 21 := by rw [selC, List.length_append]; simp only [List.length_cons, List.length_nil]; omega
        have hwt : [wordT selS] ++ whatT s = selC ns := by simp [selC, whatT, hc, hnn, hns]
        have hpt : pickT s wt = (selC ns) ++ [wordT fromS, wordT s.tab] ++ wt ++ ordT s ++ limT s := by rw [pickT, hwt]
        generalize selC ns = q at hq hpt ⊢
        rw [hnl]
        cases ho : decide (s.ord.toList = []) <;> cases hl : decide (s.lim ≥ 0) <;> cases hd : s.down
        all_goals
          have tk1 := tk1 _ ho
          have tk2 := tk2 _ hl
          (repeat' (first | refine awp_seq ?_ | refine awp_block ?_ | refine awp_skip ?_ | refine awp_exit ?_ | ((first | refine awp_r (by kernel_rfl) (fun K kp hK hkp => ?_) | refine awp_dr (id := 20) mixed 6 [0, 2, 3, 4, 1, 5] (by kernel_rfl) (by kernel_rfl) (by kernel_rfl) (by simp only [go_sem]; rfl) (by simp only [go_sem]; rfl) (by simp only [go_sem]; rfl) (fun K kp hK hkp => ?_) | ((first | apply callR_i (a2) | apply callD_i (a2) | apply callX_i (a2)); (case hb => (simp (implicitDefEqProofs := false) (maxSteps := 2000000) (disch := omega) only [go_sem, eST, hc, he, ho, hl, hd, eT, wordT, markT, List.length_take, List.length_cons, List.length_append, List.length_map, List.length_nil]; first | done | rfl)); (case hp => (first | (simp [-List.map_drop, -List.map_take, eST, hc, he, ho, hl, hd, eT, wordT, markT, List.length_take, List.length_cons, List.length_append, List.length_map, List.length_nil]; done) | exact .ro _ _ (pt_map _ _))); (case hq => (first | (simp [-List.map_drop, -List.map_take]; done) | (intro _ h; simp only [List.mem_singleton] at h; subst h; exact pt_map _ _)))) | ((first | apply callR_i (a3) | apply callD_i (a3) | apply callX_i (a3)); (case hb => (simp (implicitDefEqProofs := false) (maxSteps := 2000000) (disch := omega) only [go_sem, eST, hc, he, ho, hl, hd, eT, wordT, markT, List.length_take, List.length_cons, List.length_append, List.length_map, List.length_nil]; first | done | rfl)); (case hp => (first | (simp [-List.map_drop, -List.map_take, eST, hc, he, ho, hl, hd, eT, wordT, markT, List.length_take, List.length_cons, List.length_append, List.length_map, List.length_nil]; done) | exact .ro _ _ (pt_map _ _))); (case hq => (first | (simp [-List.map_drop, -List.map_take]; done) | (intro _ h; simp only [List.mem_singleton] at h; subst h; exact pt_map _ _)))) | ((first | apply callR_i (wcon) | apply callD_i (wcon) | apply callX_i (wcon)); (case hb => (simp (implicitDefEqProofs := false) (maxSteps := 2000000) (disch := omega) only [go_sem, eST, hc, he, ho, hl, hd, eT, wordT, markT, List.length_take, List.length_cons, List.length_append, List.length_map, List.length_nil]; first | done | rfl)); (case hp => (first | (simp [-List.map_drop, -List.map_take, eST, hc, he, ho, hl, hd, eT, wordT, markT, List.length_take, List.length_cons, List.length_append, List.length_map, List.length_nil]; done) | exact .ro _ _ (pt_map _ _))); (case hq => (first | (simp [-List.map_drop, -List.map_take]; done) | (intro _ h; simp only [List.mem_singleton] at h; subst h; exact pt_map _ _)))) | ((first | apply callR_i (word_con _ _) | apply callD_i (word_con _ _) | apply callX_i (word_con _ _)); (case hb => (simp (implicitDefEqProofs := false) (maxSteps := 2000000) (disch := omega) only [go_sem, eST, hc, he, ho, hl, hd, eT, wordT, markT, List.length_take, List.length_cons, List.length_append, List.length_map, List.length_nil]; first | done | rfl)); (case hp => (first | (simp [-List.map_drop, -List.map_take, eST, hc, he, ho, hl, hd, eT, wordT, markT, List.length_take, List.length_cons, List.length_append, List.length_map, List.length_nil]; done) | exact .ro _ _ (pt_map _ _))); (case hq => (first | (simp [-List.map_drop, -List.map_take]; done) | (intro _ h; simp only [List.mem_singleton] at h; subst h; exact pt_map _ _)))) | ((first | apply callR_i (mark_con _ _) | apply callD_i (mark_con _ _) | apply callX_i (mark_con _ _)); (case hb => (simp (implicitDefEqProofs := false) (maxSteps := 2000000) (disch := omega) only [go_sem, eST, hc, he, ho, hl, hd, eT, wordT, markT, List.length_take, List.length_cons, List.length_append, List.length_map, List.length_nil]; first | done | rfl)); (case hp => (first | (simp [-List.map_drop, -List.map_take, eST, hc, he, ho, hl, hd, eT, wordT, markT, List.length_take, List.length_cons, List.length_append, List.length_map, List.length_nil]; done) | exact .ro _ _ (pt_map _ _))); (case hq => (first | (simp [-List.map_drop, -List.map_take]; done) | (intro _ h; simp only [List.mem_singleton] at h; subst h; exact pt_map _ _))))); simp (implicitDefEqProofs := false) (maxSteps := 2000000) (disch := omega) only [go_sem, eST, hc, he, ho, hl, hd, eT, wordT, markT, List.length_take, List.length_cons, List.length_append, List.length_map, List.length_nil]; (repeat' (first | (refine hK _ ?_; clear hK hkp kp K) | (with_reducible refine And.intro ?_ ?_) | omega))) | ((first | refine goG_ask (fun h => ?_) (fun h => ?_) | refine goGD_ask (fun h => ?_) (fun h => ?_) | refine goGX_ask (fun h => ?_) (fun h => ?_)) <;> (simp (implicitDefEqProofs := false) (maxSteps := 2000000) (disch := omega) only [go_sem, eST, hc, he, ho, hl, hd, eT, wordT, markT, List.length_take, List.length_cons, List.length_append, List.length_map, List.length_nil, h]; (repeat' (first | (refine hK _ ?_; clear hK hkp kp K) | (with_reducible refine And.intro ?_ ?_) | omega)))) | refine awp_cond_t rfl ?_ | refine awp_cond_f rfl ?_ | ((refine awp_cond rfl (fun h => ?_) (fun h => ?_) <;> try simp only [decide_eq_true_eq, decide_eq_false_iff_not, Int.not_lt, Int.not_le, Bool.not_eq_true, Bool.not_eq_false, bne_iff_ne, ne_eq, beq_iff_eq, bne_eq_false_iff_eq, beq_eq_false_iff_ne] at h) <;> (try (exfalso; omega))) | refine awp_ret ?_))
          all_goals first | (exfalso; omega) | (refine retA_is (by (simp (implicitDefEqProofs := false) (maxSteps := 2000000) (disch := omega) only [go_sem, Go.Proofs.Tryd.results67, hpt, tk1, tk2, hd, eT, wordT, markT, lparT, rparT, cntS, fromS, ordS, byS, descS, limS, str]); rfl) ?_; refine embS_frz (by simp only [oneA]; simp (implicitDefEqProofs := false) (maxSteps := 2000000) (disch := omega) only [go_sem, List.length_take, List.length_cons, List.length_append, List.length_map, List.length_nil, hpt, tk1, tk2, hd, eT, wordT, markT, lparT, rparT, cntS, fromS, ordS, byS, descS, limS, str]; rfl) ?_; refine (embV_nil hE (by simp) ?_).s; simp (disch := (first | omega | (simp; omega))) [oneA, ren, renL, List.take_of_length_le, hpt, tk1, tk2, hd, eT, wordT, markT, lparT, rparT, cntS, fromS, ordS, byS, descS, limS, str])
end Go.AM
/- Statements: parse.show, all kinds. -/
namespace Go.AM
open Go Go.RowKit
open Go.Proofs.YtoecmmpjndcolaaDoor (OP nameM litM exprM marksS wordsS StrsAt str SlAt letB wrdB digB bt vcheck popsM)
attribute [local irreducible] AWP retA
def okV (v : V) : Prop := GoodV v ∧ v.n ≤ 9223372036854775807
/-- A row of ops, with its tree. -/
structure ToOk (l : List OP) (tr : RT OP) : Prop where
  wf : tr.wf arO
  flat : tr.flat = l
  len : l.length ≤ 40
  ops : ∀ o ∈ l, okO3 o
  hgt : hgt arO l 0 = some 1
theorem ToOk.lenT {l : List OP} {tr : RT OP} (h : ToOk l tr) : (showR tr).length ≤ 160 := by
  have := showR_len tr
  rw [h.flat] at this
  have := h.len
  omega
/-- A statement whose parts may be. -/
structure OkSt (s : ST) (trW trT : RT OP) : Prop where
  lo : 1 ≤ s.k
  hi : s.k ≤ 9
  tab : s.k < 7 → goodN s.tab
  cols : s.k = 1 → s.cols.length ≤ 6 ∧ ∀ c ∈ s.cols, goodC c ∧ goodN c.nm
  row : s.k = 3 → s.row.length ≤ 6 ∧ ∀ v ∈ s.row, okV v
  names : s.k = 4 → s.names.length ≤ 6 ∧ ∀ n ∈ s.names, goodN n
  wh : s.k = 4 ∨ s.k = 5 ∨ s.k = 6 → WhOk s.wh trW
  cnt : s.k = 4 → s.count = true → s.names = []
  ord : s.k = 4 → s.ord.toList ≠ [] → goodN s.ord
  down : s.k = 4 → s.down = true → s.ord.toList ≠ []
  set : s.k = 5 → goodN s.set
  to : s.k = 5 → ToOk s.to trT
def rowT (s : ST) : List TK0 := [wordT (str [73, 78, 83, 69, 82, 84]), wordT (str [73, 78, 84, 79]), wordT s.tab, wordT (str [86, 65, 76, 85, 69, 83])] ++ listM (s.row.map valT)
def updT (s : ST) (tt wt : List TK0) : List TK0 := [wordT (str [85, 80, 68, 65, 84, 69]), wordT s.tab, wordT (str [83, 69, 84]), wordT s.set] ++ [markT (str [61])] ++ tt ++ wt
def delT (s : ST) (wt : List TK0) : List TK0 := [wordT (str [68, 69, 76, 69, 84, 69]), wordT fromS, wordT s.tab] ++ wt
def dropT (s : ST) : List TK0 := [wordT (str [68, 82, 79, 80]), wordT (str [84, 65, 66, 76, 69]), wordT s.tab]
def endS (k : Int) : ByteArray := if k = 7 then str [66, 69, 71, 73, 78] else if k = 8 then str [67, 79, 77, 77, 73, 84] else str [82, 79, 76, 76, 66, 65, 67, 75]
def showM (s : ST) (trW trT : RT OP) : List TK0 :=
  if s.k = 1 then createT s else if s.k = 2 then dropT s else if s.k = 3 then rowT s else if s.k = 4 then pickT s (whT s.wh trW) else if s.k = 5 then updT s (showR trT) (whT s.wh trW) else if s.k = 6 then delT s (whT s.wh trW) else [wordT (endS s.k)]
set_option maxRecDepth 100000 in
set_option maxHeartbeats 8000000 in
theorem show3_con (G : List (Nat × List Value)) (s : ST) (hk : s.k = 3) (hl : s.row.length ≤ 6) (hc : ∀ v ∈ s.row, okV v) : Con Go.Proofs.Tryd.prog G 35 [.agg (eST s)] [] 0 (Is (.ro true 3 ((rowT s).map eT)) [] 0) No := by
  refine con_of_awp Go.Proofs.Tryd.func35 rfl (by kernel_rfl) (of_decide_eq_true (by kernel_rfl)) ?_; intro E hG hE; subst hG; simp only [ent]
  (repeat' (first | refine awp_seq ?_ | refine awp_block ?_ | refine awp_skip ?_ | refine awp_exit ?_ | ((first | refine awp_r (by kernel_rfl) (fun K kp hK hkp => ?_) | refine awp_dr (id := 7) mixed 10 [0, 1, 2, 3, 4, 5, 6, 7, 8, 9] (by kernel_rfl) (by kernel_rfl) (by kernel_rfl) (by simp only [go_sem]; rfl) (by simp only [go_sem]; rfl) (by simp only [go_sem]; rfl) (fun K kp hK hkp => ?_) | refine awp_dr (id := 25) mixed 7 [0, 1, 4, 5, 2, 3, 6] (by kernel_rfl) (by kernel_rfl) (by kernel_rfl) (by simp only [go_sem]; rfl) (by simp only [go_sem]; rfl) (by simp only [go_sem]; rfl) (fun K kp hK hkp => ?_)); simp (implicitDefEqProofs := false) (maxSteps := 2000000) (disch := omega) only [go_sem, eST, hk]; (repeat' (first | (refine hK _ ?_; clear hK hkp kp K) | (with_reducible refine And.intro ?_ ?_) | omega))) | ((first | refine goG_ask (fun h => ?_) (fun h => ?_) | refine goGD_ask (fun h => ?_) (fun h => ?_) | refine goGX_ask (fun h => ?_) (fun h => ?_)) <;> (simp (implicitDefEqProofs := false) (maxSteps := 2000000) (disch := omega) only [go_sem, eST, hk, h]; (repeat' (first | (refine hK _ ?_; clear hK hkp kp K) | (with_reducible refine And.intro ?_ ?_) | omega)))) | refine awp_cond_t rfl ?_ | refine awp_cond_f rfl ?_ | ((refine awp_cond rfl (fun h => ?_) (fun h => ?_) <;> try simp only [decide_eq_true_eq, decide_eq_false_iff_not, Int.not_lt, Int.not_le, Bool.not_eq_true, Bool.not_eq_false, bne_iff_ne, ne_eq, beq_iff_eq, bne_eq_false_iff_eq, beq_eq_false_iff_ne] at h) <;> (try (exfalso; omega))) | refine awp_ret ?_))
  (refine AWP.emb (emb_nil 6 42 1 ?_) ?_; (· rfl); dsimp only)
  refine awp_loop (fun k : Nat => ⟨[(50, .r (.int .i64 k)), (49, .r (.int .i64 s.row.length)), (48, .ro true 3 (s.row.map eV)), (6, .s 1 0 ((s.row.take k).map valT).length), (1, .p 0 0 0)],
    [(0, .box 38 (eST s)), (1, .lst 42 1 (((s.row.take k).map valT).map eTs))], 2⟩) (fun k => k ≤ s.row.length) (fun k => s.row.length - k) 0 ?_ ?_ ?_
  · simp
  · (refine emb [0, 1] ?_ ?_ rfl ?_ ?_ ?_ ?_ <;> simp [okM, okO, lk, ren, renL, renNd, by_, hE, eST, hk] <;> (try omega))
  intro k hk'
  by_cases hlt : k < s.row.length
  · obtain ⟨v, hx⟩ : ∃ x, s.row[k]? = some x := ⟨s.row[k], by simp [hlt]⟩
    have hs : (s.row.take (k + 1)).map valT = (s.row.take k).map valT ++ [valT v] := by rw [List.take_add_one, hx]; simp
    have hle : ((s.row.take k).map valT).length ≤ 6 := by simp; omega
    generalize hq : (s.row.take k).map valT = q at hs hle ⊢
    obtain ⟨g1, g2⟩ := hc v (List.mem_of_getElem? hx)
    have sc := showValue_con E.G v g1 g2
    generalize valT v = vt at *
    simp only [eV] at sc
    (repeat' (first | refine awp_seq ?_ | refine awp_block ?_ | refine awp_skip ?_ | refine awp_exit ?_ | ((first | refine awp_r (by kernel_rfl) (fun K kp hK hkp => ?_) | refine awp_dr (id := 7) mixed 10 [0, 1, 2, 3, 4, 5, 6, 7, 8, 9] (by kernel_rfl) (by kernel_rfl) (by kernel_rfl) (by simp only [go_sem]; rfl) (by simp only [go_sem]; rfl) (by simp only [go_sem]; rfl) (fun K kp hK hkp => ?_) | refine awp_dr (id := 25) mixed 7 [0, 1, 4, 5, 2, 3, 6] (by kernel_rfl) (by kernel_rfl) (by kernel_rfl) (by simp only [go_sem]; rfl) (by simp only [go_sem]; rfl) (by simp only [go_sem]; rfl) (fun K kp hK hkp => ?_) | ((first | apply callR_i (sc) | apply callD_i (sc) | apply callX_i (sc)); (case hb => (simp (implicitDefEqProofs := false) (maxSteps := 2000000) (disch := omega) only [go_sem, hx, eV]; first | done | rfl)); (case hp => (first | (simp [-List.map_drop, -List.map_take, hx, eV]; done) | exact .ro _ _ (pt_map _ _))); (case hq => (first | (simp [-List.map_drop, -List.map_take]; done) | (intro _ h; simp only [List.mem_singleton] at h; subst h; exact pt_map _ _))))); simp (implicitDefEqProofs := false) (maxSteps := 2000000) (disch := omega) only [go_sem, hx, eV]; (repeat' (first | (refine hK _ ?_; clear hK hkp kp K) | (with_reducible refine And.intro ?_ ?_) | omega))) | ((first | refine goG_ask (fun h => ?_) (fun h => ?_) | refine goGD_ask (fun h => ?_) (fun h => ?_) | refine goGX_ask (fun h => ?_) (fun h => ?_)) <;> (simp (implicitDefEqProofs := false) (maxSteps := 2000000) (disch := omega) only [go_sem, hx, eV, h]; (repeat' (first | (refine hK _ ?_; clear hK hkp kp K) | (with_reducible refine And.intro ?_ ?_) | omega)))) | refine awp_cond_t rfl ?_ | refine awp_cond_f rfl ?_ | ((refine awp_cond rfl (fun h => ?_) (fun h => ?_) <;> try simp only [decide_eq_true_eq, decide_eq_false_iff_not, Int.not_lt, Int.not_le, Bool.not_eq_true, Bool.not_eq_false, bne_iff_ne, ne_eq, beq_iff_eq, bne_eq_false_iff_eq, beq_eq_false_iff_ne] at h) <;> (try (exfalso; omega))) | refine awp_ret ?_))
    ((first | (refine nextB (k + 1) ?_ ?_ ?_) | (refine nextA (k + 1) ?_ ?_ ?_)); rotate_left; (· (try dsimp only); (first | omega | (simp only [List.length_drop, List.length_cons, List.length_append]; omega) | (simp; done) | (simp; omega))); (· (refine emb [0, 4] ?_ ?_ rfl ?_ ?_ ?_ ?_ <;> simp [okM, okO, lk, ren, renL, renNd, by_, hE, hs, eTs, eST] <;> (try omega))))
    omega
  · obtain rfl : k = s.row.length := by omega
    rw [List.take_of_length_le (Nat.le_refl _)]
    have hml : ∀ x ∈ s.row.map valT, x.length ≤ 1000 := by intro x hx; obtain ⟨c, _, rfl⟩ := List.mem_map.1 hx; have := valT_len c; omega
    have lc := list_con E.G false (s.row.map valT) (by simp; omega) hml
    have ac := allO_con E.G false [str [73, 78, 83, 69, 82, 84], str [73, 78, 84, 79], s.tab, str [86, 65, 76, 85, 69, 83]] (by simp)
    simp only [List.map_cons, List.map_nil, List.length_cons, List.length_nil, eStr, eT, wordT, str] at ac
    have hlM : (listM (s.row.map valT)).length ≤ 8000 := by
      have := commas_len (s.row.map valT) hml
      simp [listM] at this ⊢; omega
    have hR : rowT s = [wordT (str [73, 78, 83, 69, 82, 84]), wordT (str [73, 78, 84, 79]), wordT s.tab, wordT (str [86, 65, 76, 85, 69, 83])] ++ listM (s.row.map valT) := rfl
    rw [hR]
    generalize hvs : listM (s.row.map valT) = lm at lc hlM ⊢
    have hll : (s.row.map valT).length = s.row.length := by simp
    generalize s.row.map valT = rv at *
    (repeat' (first | refine awp_seq ?_ | refine awp_block ?_ | refine awp_skip ?_ | refine awp_exit ?_ | ((first | refine awp_r (by kernel_rfl) (fun K kp hK hkp => ?_) | refine awp_dr (id := 7) mixed 10 [0, 1, 2, 3, 4, 5, 6, 7, 8, 9] (by kernel_rfl) (by kernel_rfl) (by kernel_rfl) (by simp only [go_sem]; rfl) (by simp only [go_sem]; rfl) (by simp only [go_sem]; rfl) (fun K kp hK hkp => ?_) | refine awp_dr (id := 25) mixed 7 [0, 1, 4, 5, 2, 3, 6] (by kernel_rfl) (by kernel_rfl) (by kernel_rfl) (by simp only [go_sem]; rfl) (by simp only [go_sem]; rfl) (by simp only [go_sem]; rfl) (fun K kp hK hkp => ?_) | ((first | apply callR_i (ac) | apply callD_i (ac) | apply callX_i (ac)); (case hb => (simp (implicitDefEqProofs := false) (maxSteps := 2000000) (disch := omega) only [go_sem, eST]; first | done | rfl)); (case hp => (first | (simp [-List.map_drop, -List.map_take, eST]; done) | exact .ro _ _ (pt_map _ _))); (case hq => (first | (simp [-List.map_drop, -List.map_take]; done) | (intro _ h; simp only [List.mem_singleton] at h; subst h; exact pt_map _ _)))) | ((first | apply callR_i (lc) | apply callD_i (lc) | apply callX_i (lc)); (case hb => (simp (implicitDefEqProofs := false) (maxSteps := 2000000) (disch := omega) only [go_sem, eST]; first | done | rfl)); (case hp => (first | (simp [-List.map_drop, -List.map_take, eST]; done) | exact .ro _ _ (pt_map _ _))); (case hq => (first | (simp [-List.map_drop, -List.map_take]; done) | (intro _ h; simp only [List.mem_singleton] at h; subst h; exact pt_map _ _))))); simp (implicitDefEqProofs := false) (maxSteps := 2000000) (disch := omega) only [go_sem, eST]; (repeat' (first | (refine hK _ ?_; clear hK hkp kp K) | (with_reducible refine And.intro ?_ ?_) | omega))) | ((first | refine goG_ask (fun h => ?_) (fun h => ?_) | refine goGD_ask (fun h => ?_) (fun h => ?_) | refine goGX_ask (fun h => ?_) (fun h => ?_)) <;> (simp (implicitDefEqProofs := false) (maxSteps := 2000000) (disch := omega) only [go_sem, eST, h]; (repeat' (first | (refine hK _ ?_; clear hK hkp kp K) | (with_reducible refine And.intro ?_ ?_) | omega)))) | refine awp_cond_t rfl ?_ | refine awp_cond_f rfl ?_ | ((refine awp_cond rfl (fun h => ?_) (fun h => ?_) <;> try simp only [decide_eq_true_eq, decide_eq_false_iff_not, Int.not_lt, Int.not_le, Bool.not_eq_true, Bool.not_eq_false, bne_iff_ne, ne_eq, beq_iff_eq, bne_eq_false_iff_eq, beq_eq_false_iff_ne] at h) <;> (try (exfalso; omega))) | refine awp_ret ?_))
    all_goals first | (exfalso; omega) | (refine retA_is (by (simp (implicitDefEqProofs := false) (maxSteps := 2000000) (disch := omega) only [go_sem, Go.Proofs.Tryd.results35, eT, wordT, str]); rfl) ?_; refine embS_frz (by simp only [oneA]; simp (implicitDefEqProofs := false) (maxSteps := 2000000) (disch := omega) only [go_sem, List.length_take, List.length_cons, List.length_append, List.length_map, List.length_nil, eT, wordT, str]; rfl) ?_; refine (embV_nil hE (by simp) ?_).s; simp (disch := (first | omega | (simp; omega))) [oneA, ren, renL, List.take_of_length_le, eT, wordT, str])
set_option maxRecDepth 100000 in
set_option maxHeartbeats 8000000 in
theorem show_con {G : List (Nat × List Value)} (T : Tabs G) (s : ST) (trW trT : RT OP) (h : OkSt s trW trT) : Con Go.Proofs.Tryd.prog G 35 [.agg (eST s)] [] 0 (Is (.ro true 3 ((showM s trW trT).map eT)) [] 0) No := by
  have h1 := h.lo
  have h9 := h.hi
  obtain hk | hk | hk | hk | hk | hk | hk | hk | hk : s.k = 1 ∨ s.k = 2 ∨ s.k = 3 ∨ s.k = 4 ∨ s.k = 5 ∨ s.k = 6 ∨ s.k = 7 ∨ s.k = 8 ∨ s.k = 9 := by omega
  · have hs : showM s trW trT = createT s := by simp [showM, hk]
    rw [hs]
    exact show1_con T s hk (h.cols hk).1 (fun c hc => ((h.cols hk).2 c hc).1)
  · have hs : showM s trW trT = dropT s := by simp [showM, hk]
    rw [hs]
    refine con_of_awp Go.Proofs.Tryd.func35 rfl (by kernel_rfl) (of_decide_eq_true (by kernel_rfl)) ?_; intro E hG hE; subst hG; simp only [ent]
    have ac := all_con E.G false [str [68, 82, 79, 80], str [84, 65, 66, 76, 69], s.tab] (by simp)
    simp only [List.map_cons, List.map_nil, List.length_cons, List.length_nil, eStr, eT, wordT, str] at ac
    (repeat' (first | refine awp_seq ?_ | refine awp_block ?_ | refine awp_skip ?_ | refine awp_exit ?_ | ((first | refine awp_r (by kernel_rfl) (fun K kp hK hkp => ?_) | refine awp_dr (id := 7) mixed 10 [0, 1, 2, 3, 4, 5, 6, 7, 8, 9] (by kernel_rfl) (by kernel_rfl) (by kernel_rfl) (by simp only [go_sem]; rfl) (by simp only [go_sem]; rfl) (by simp only [go_sem]; rfl) (fun K kp hK hkp => ?_) | refine awp_dr (id := 25) mixed 7 [0, 1, 4, 5, 2, 3, 6] (by kernel_rfl) (by kernel_rfl) (by kernel_rfl) (by simp only [go_sem]; rfl) (by simp only [go_sem]; rfl) (by simp only [go_sem]; rfl) (fun K kp hK hkp => ?_) | ((first | apply callR_i (ac) | apply callD_i (ac) | apply callX_i (ac)); (case hb => (simp (implicitDefEqProofs := false) (maxSteps := 2000000) (disch := omega) only [go_sem, eST, hk]; first | done | rfl)); (case hp => (first | (simp [-List.map_drop, -List.map_take, eST, hk]; done) | exact .ro _ _ (pt_map _ _))); (case hq => (first | (simp [-List.map_drop, -List.map_take]; done) | (intro _ h; simp only [List.mem_singleton] at h; subst h; exact pt_map _ _))))); simp (implicitDefEqProofs := false) (maxSteps := 2000000) (disch := omega) only [go_sem, eST, hk]; (repeat' (first | (refine hK _ ?_; clear hK hkp kp K) | (with_reducible refine And.intro ?_ ?_) | omega))) | ((first | refine goG_ask (fun h => ?_) (fun h => ?_) | refine goGD_ask (fun h => ?_) (fun h => ?_) | refine goGX_ask (fun h => ?_) (fun h => ?_)) <;> (simp (implicitDefEqProofs := false) (maxSteps := 2000000) (disch := omega) only [go_sem, eST, hk, h]; (repeat' (first | (refine hK _ ?_; clear hK hkp kp K) | (with_reducible refine And.intro ?_ ?_) | omega)))) | refine awp_cond_t rfl ?_ | refine awp_cond_f rfl ?_ | ((refine awp_cond rfl (fun h => ?_) (fun h => ?_) <;> try simp only [decide_eq_true_eq, decide_eq_false_iff_not, Int.not_lt, Int.not_le, Bool.not_eq_true, Bool.not_eq_false, bne_iff_ne, ne_eq, beq_iff_eq, bne_eq_false_iff_eq, beq_eq_false_iff_ne] at h) <;> (try (exfalso; omega))) | refine awp_ret ?_))
    (refine retA_is (by (simp (implicitDefEqProofs := false) (maxSteps := 2000000) (disch := omega) only [go_sem, Go.Proofs.Tryd.results35, dropT, eT, wordT, str]); rfl) ?_; refine (embV_nil hE (by simp) ?_).s; simp [oneA, ren, renL, dropT, eT, wordT, str])
  · have hs : showM s trW trT = rowT s := by simp [showM, hk]
    rw [hs]
    exact show3_con G s hk (h.row hk).1 (h.row hk).2
  · have hs : showM s trW trT = pickT s (whT s.wh trW) := by simp [showM, hk]
    rw [hs]
    refine con_of_awp Go.Proofs.Tryd.func35 rfl (by kernel_rfl) (of_decide_eq_true (by kernel_rfl)) ?_; intro E hG hE; subst hG; simp only [ent]
    have pc := showPick_con E.G s trW (h.wh (.inl hk)) (h.names hk).1
    simp only [eST, hk] at pc
    (repeat' (first | refine awp_seq ?_ | refine awp_block ?_ | refine awp_skip ?_ | refine awp_exit ?_ | ((first | refine awp_r (by kernel_rfl) (fun K kp hK hkp => ?_) | refine awp_dr (id := 7) mixed 10 [0, 1, 2, 3, 4, 5, 6, 7, 8, 9] (by kernel_rfl) (by kernel_rfl) (by kernel_rfl) (by simp only [go_sem]; rfl) (by simp only [go_sem]; rfl) (by simp only [go_sem]; rfl) (fun K kp hK hkp => ?_) | refine awp_dr (id := 25) mixed 7 [0, 1, 4, 5, 2, 3, 6] (by kernel_rfl) (by kernel_rfl) (by kernel_rfl) (by simp only [go_sem]; rfl) (by simp only [go_sem]; rfl) (by simp only [go_sem]; rfl) (fun K kp hK hkp => ?_) | ((first | apply callR_i (pc) | apply callD_i (pc) | apply callX_i (pc)); (case hb => (simp (implicitDefEqProofs := false) (maxSteps := 2000000) (disch := omega) only [go_sem, eST, hk]; first | done | rfl)); (case hp => (first | (simp [-List.map_drop, -List.map_take, eST, hk]; done) | exact .ro _ _ (pt_map _ _))); (case hq => (first | (simp [-List.map_drop, -List.map_take]; done) | (intro _ h; simp only [List.mem_singleton] at h; subst h; exact pt_map _ _))))); simp (implicitDefEqProofs := false) (maxSteps := 2000000) (disch := omega) only [go_sem, eST, hk]; (repeat' (first | (refine hK _ ?_; clear hK hkp kp K) | (with_reducible refine And.intro ?_ ?_) | omega))) | ((first | refine goG_ask (fun h => ?_) (fun h => ?_) | refine goGD_ask (fun h => ?_) (fun h => ?_) | refine goGX_ask (fun h => ?_) (fun h => ?_)) <;> (simp (implicitDefEqProofs := false) (maxSteps := 2000000) (disch := omega) only [go_sem, eST, hk, h]; (repeat' (first | (refine hK _ ?_; clear hK hkp kp K) | (with_reducible refine And.intro ?_ ?_) | omega)))) | refine awp_cond_t rfl ?_ | refine awp_cond_f rfl ?_ | ((refine awp_cond rfl (fun h => ?_) (fun h => ?_) <;> try simp only [decide_eq_true_eq, decide_eq_false_iff_not, Int.not_lt, Int.not_le, Bool.not_eq_true, Bool.not_eq_false, bne_iff_ne, ne_eq, beq_iff_eq, bne_eq_false_iff_eq, beq_eq_false_iff_ne] at h) <;> (try (exfalso; omega))) | refine awp_ret ?_))
    (refine retA_is (by (simp (implicitDefEqProofs := false) (maxSteps := 2000000) (disch := omega) only [go_sem, Go.Proofs.Tryd.results35]); rfl) ?_; refine (embV_nil hE (by simp) ?_).s; simp [oneA, ren, renL])
  · have hs : showM s trW trT = updT s (showR trT) (whT s.wh trW) := by simp [showM, hk]
    rw [hs]
    refine con_of_awp Go.Proofs.Tryd.func35 rfl (by kernel_rfl) (of_decide_eq_true (by kernel_rfl)) ?_; intro E hG hE; subst hG; simp only [ent]
    have hw := h.wh (.inr (.inl hk))
    have ht := h.to hk
    have ac := all_con E.G false [str [85, 80, 68, 65, 84, 69], s.tab, str [83, 69, 84], s.set] (by simp)
    have wcon := showWhere_con E.G s.wh trW hw
    have hwl := hw.lenT
    have hfo := foldT_tree ht.wf
    rw [ht.flat] at hfo
    have sc := showOps_con E.G true s.to ht.len (fun o ho => (ht.ops o ho).1) ht.hgt
    rw [hfo] at sc
    have htl := ht.lenT
    have mc := mark_con E.G (str [61])
    generalize whT s.wh trW = wt at *
    generalize showR trT = tt at *
    have cc := concatT_con E.G false [[wordT (str [85, 80, 68, 65, 84, 69]), wordT s.tab, wordT (str [83, 69, 84]), wordT s.set], [markT (str [61])], tt, wt] (by simp) (by intro x hx; simp at hx; rcases hx with rfl | rfl | rfl | rfl <;> first | omega | simp) (by simp)
    have hv2 : [[wordT (str [85, 80, 68, 65, 84, 69]), wordT s.tab, wordT (str [83, 69, 84]), wordT s.set], [markT (str [61])], tt, wt].flatten = updT s tt wt := by simp [updT]
    rw [hv2] at cc
    generalize updT s tt wt = ut at *
    simp only [List.map_cons, List.map_nil, List.length_cons, List.length_nil, eStr, eTs, eT, wordT, markT, str] at ac cc mc
    (repeat' (first | refine awp_seq ?_ | refine awp_block ?_ | refine awp_skip ?_ | refine awp_exit ?_ | ((first | refine awp_r (by kernel_rfl) (fun K kp hK hkp => ?_) | refine awp_dr (id := 7) mixed 10 [0, 1, 2, 3, 4, 5, 6, 7, 8, 9] (by kernel_rfl) (by kernel_rfl) (by kernel_rfl) (by simp only [go_sem]; rfl) (by simp only [go_sem]; rfl) (by simp only [go_sem]; rfl) (fun K kp hK hkp => ?_) | refine awp_du (id := 23) mixed 14 [⟨0, 0, [], [(0, 1), (1, 1)]⟩, ⟨0, 0, [0], [(0, 1), (1, 1)]⟩, ⟨0, 0, [], [(0, 1), (1, 1)]⟩, ⟨0, 0, [2], [(0, 1), (1, 1)]⟩, ⟨0, 1, [0, 1, 2, 3], [(1, 1)]⟩, ⟨1, 0, [0, 1, 2, 3, 4], [(1, 1)]⟩, ⟨1, 0, [0, 1, 2, 3, 4, 5], [(1, 1)]⟩, ⟨1, 1, [0, 1, 2, 3, 4, 5, 6], []⟩, ⟨2, 0, [], [(0, 1), (1, 1)]⟩, ⟨2, 0, [8], [(0, 1), (1, 1)]⟩, ⟨2, 0, [0, 1, 2, 3, 4, 5, 6, 8, 9], [(1, 1)]⟩, ⟨2, 0, [], [(0, 1), (1, 1)]⟩, ⟨2, 0, [11], [(0, 1), (1, 1)]⟩, ⟨2, 0, [0, 1, 2, 3, 4, 5, 6, 8, 9, 10, 11, 12], [(1, 1)]⟩] 2 [73, 74, 75, 76, 77, 78, 79, 80, 81, 82, 83, 84, 85, 86] (by kernel_rfl) (by kernel_rfl) (by simp only [go_sem]; rfl) (by simp only [go_sem]; rfl) (by simp only [go_sem]; rfl) (by simp only [go_sem]; rfl) (by simp only [go_sem]; rfl) (by omega) (fun K kp hK hkp => ?_) | refine awp_dr (id := 25) mixed 7 [0, 1, 4, 5, 2, 3, 6] (by kernel_rfl) (by kernel_rfl) (by kernel_rfl) (by simp only [go_sem]; rfl) (by simp only [go_sem]; rfl) (by simp only [go_sem]; rfl) (fun K kp hK hkp => ?_) | ((first | apply callR_i (ac) | apply callD_i (ac) | apply callX_i (ac) | (apply callU_i (ac); (case hx => (simp (disch := omega) [go_sem, eST, hk]; done)))); (case hb => (simp (implicitDefEqProofs := false) (maxSteps := 2000000) (disch := omega) only [go_sem, eST, hk]; first | done | rfl)); (case hp => (first | (simp [-List.map_drop, -List.map_take, eST, hk]; done) | exact .ro _ _ (pt_map _ _))); (case hq => (first | (simp [-List.map_drop, -List.map_take]; done) | (intro _ h; simp only [List.mem_singleton] at h; subst h; exact pt_map _ _)))) | ((first | apply callR_i (mc) | apply callD_i (mc) | apply callX_i (mc) | (apply callU_i (mc); (case hx => (simp (disch := omega) [go_sem, eST, hk]; done)))); (case hb => (simp (implicitDefEqProofs := false) (maxSteps := 2000000) (disch := omega) only [go_sem, eST, hk]; first | done | rfl)); (case hp => (first | (simp [-List.map_drop, -List.map_take, eST, hk]; done) | exact .ro _ _ (pt_map _ _))); (case hq => (first | (simp [-List.map_drop, -List.map_take]; done) | (intro _ h; simp only [List.mem_singleton] at h; subst h; exact pt_map _ _)))) | ((first | apply callR_i (sc) | apply callD_i (sc) | apply callX_i (sc) | (apply callU_i (sc); (case hx => (simp (disch := omega) [go_sem, eST, hk]; done)))); (case hb => (simp (implicitDefEqProofs := false) (maxSteps := 2000000) (disch := omega) only [go_sem, eST, hk]; first | done | rfl)); (case hp => (first | (simp [-List.map_drop, -List.map_take, eST, hk]; done) | exact .ro _ _ (pt_map _ _))); (case hq => (first | (simp [-List.map_drop, -List.map_take]; done) | (intro _ h; simp only [List.mem_singleton] at h; subst h; exact pt_map _ _)))) | ((first | apply callR_i (wcon) | apply callD_i (wcon) | apply callX_i (wcon) | (apply callU_i (wcon); (case hx => (simp (disch := omega) [go_sem, eST, hk]; done)))); (case hb => (simp (implicitDefEqProofs := false) (maxSteps := 2000000) (disch := omega) only [go_sem, eST, hk]; first | done | rfl)); (case hp => (first | (simp [-List.map_drop, -List.map_take, eST, hk]; done) | exact .ro _ _ (pt_map _ _))); (case hq => (first | (simp [-List.map_drop, -List.map_take]; done) | (intro _ h; simp only [List.mem_singleton] at h; subst h; exact pt_map _ _)))) | ((first | apply callR_i (cc) | apply callD_i (cc) | apply callX_i (cc) | (apply callU_i (cc); (case hx => (simp (disch := omega) [go_sem, eST, hk]; done)))); (case hb => (simp (implicitDefEqProofs := false) (maxSteps := 2000000) (disch := omega) only [go_sem, eST, hk]; first | done | rfl)); (case hp => (first | (simp [-List.map_drop, -List.map_take, eST, hk]; done) | exact .ro _ _ (pt_map _ _))); (case hq => (first | (simp [-List.map_drop, -List.map_take]; done) | (intro _ h; simp only [List.mem_singleton] at h; subst h; exact pt_map _ _))))); simp (implicitDefEqProofs := false) (maxSteps := 2000000) (disch := omega) only [go_sem, eST, hk]; (repeat' (first | (refine hK _ ?_; clear hK hkp kp K) | (with_reducible refine And.intro ?_ ?_) | omega))) | ((first | refine goG_ask (fun h => ?_) (fun h => ?_) | refine goGD_ask (fun h => ?_) (fun h => ?_) | refine goGX_ask (fun h => ?_) (fun h => ?_)) <;> (simp (implicitDefEqProofs := false) (maxSteps := 2000000) (disch := omega) only [go_sem, eST, hk, h]; (repeat' (first | (refine hK _ ?_; clear hK hkp kp K) | (with_reducible refine And.intro ?_ ?_) | omega)))) | refine awp_cond_t rfl ?_ | refine awp_cond_f rfl ?_ | ((refine awp_cond rfl (fun h => ?_) (fun h => ?_) <;> try simp only [decide_eq_true_eq, decide_eq_false_iff_not, Int.not_lt, Int.not_le, Bool.not_eq_true, Bool.not_eq_false, bne_iff_ne, ne_eq, beq_iff_eq, bne_eq_false_iff_eq, beq_eq_false_iff_ne] at h) <;> (try (exfalso; omega))) | refine awp_ret ?_))
    (refine retA_is (by (simp (implicitDefEqProofs := false) (maxSteps := 2000000) (disch := omega) only [go_sem, Go.Proofs.Tryd.results35]); rfl) ?_; refine (embV_nil hE (by simp) ?_).s; simp [oneA, ren, renL])
  · have hs : showM s trW trT = delT s (whT s.wh trW) := by simp [showM, hk]
    rw [hs]
    refine con_of_awp Go.Proofs.Tryd.func35 rfl (by kernel_rfl) (of_decide_eq_true (by kernel_rfl)) ?_; intro E hG hE; subst hG; simp only [ent]
    have hw := h.wh (.inr (.inr hk))
    have ac := allO_con E.G false [str [68, 69, 76, 69, 84, 69], str [70, 82, 79, 77], s.tab] (by simp)
    have wcon := showWhere_con E.G s.wh trW hw
    have hwl := hw.lenT
    generalize whT s.wh trW = wt at *
    simp only [List.map_cons, List.map_nil, List.length_cons, List.length_nil, eStr, eT, wordT, str] at ac
    (repeat' (first | refine awp_seq ?_ | refine awp_block ?_ | refine awp_skip ?_ | refine awp_exit ?_ | ((first | refine awp_r (by kernel_rfl) (fun K kp hK hkp => ?_) | refine awp_dr (id := 7) mixed 10 [0, 1, 2, 3, 4, 5, 6, 7, 8, 9] (by kernel_rfl) (by kernel_rfl) (by kernel_rfl) (by simp only [go_sem]; rfl) (by simp only [go_sem]; rfl) (by simp only [go_sem]; rfl) (fun K kp hK hkp => ?_) | refine awp_dr (id := 25) mixed 7 [0, 1, 4, 5, 2, 3, 6] (by kernel_rfl) (by kernel_rfl) (by kernel_rfl) (by simp only [go_sem]; rfl) (by simp only [go_sem]; rfl) (by simp only [go_sem]; rfl) (fun K kp hK hkp => ?_) | ((first | apply callR_i (ac) | apply callD_i (ac) | apply callX_i (ac)); (case hb => (simp (implicitDefEqProofs := false) (maxSteps := 2000000) (disch := omega) only [go_sem, eST, hk]; first | done | rfl)); (case hp => (first | (simp [-List.map_drop, -List.map_take, eST, hk]; done) | exact .ro _ _ (pt_map _ _))); (case hq => (first | (simp [-List.map_drop, -List.map_take]; done) | (intro _ h; simp only [List.mem_singleton] at h; subst h; exact pt_map _ _)))) | ((first | apply callR_i (wcon) | apply callD_i (wcon) | apply callX_i (wcon)); (case hb => (simp (implicitDefEqProofs := false) (maxSteps := 2000000) (disch := omega) only [go_sem, eST, hk]; first | done | rfl)); (case hp => (first | (simp [-List.map_drop, -List.map_take, eST, hk]; done) | exact .ro _ _ (pt_map _ _))); (case hq => (first | (simp [-List.map_drop, -List.map_take]; done) | (intro _ h; simp only [List.mem_singleton] at h; subst h; exact pt_map _ _))))); simp (implicitDefEqProofs := false) (maxSteps := 2000000) (disch := omega) only [go_sem, eST, hk]; (repeat' (first | (refine hK _ ?_; clear hK hkp kp K) | (with_reducible refine And.intro ?_ ?_) | omega))) | ((first | refine goG_ask (fun h => ?_) (fun h => ?_) | refine goGD_ask (fun h => ?_) (fun h => ?_) | refine goGX_ask (fun h => ?_) (fun h => ?_)) <;> (simp (implicitDefEqProofs := false) (maxSteps := 2000000) (disch := omega) only [go_sem, eST, hk, h]; (repeat' (first | (refine hK _ ?_; clear hK hkp kp K) | (with_reducible refine And.intro ?_ ?_) | omega)))) | refine awp_cond_t rfl ?_ | refine awp_cond_f rfl ?_ | ((refine awp_cond rfl (fun h => ?_) (fun h => ?_) <;> try simp only [decide_eq_true_eq, decide_eq_false_iff_not, Int.not_lt, Int.not_le, Bool.not_eq_true, Bool.not_eq_false, bne_iff_ne, ne_eq, beq_iff_eq, bne_eq_false_iff_eq, beq_eq_false_iff_ne] at h) <;> (try (exfalso; omega))) | refine awp_ret ?_))
    all_goals first | (exfalso; omega) | (refine retA_is (by (simp (implicitDefEqProofs := false) (maxSteps := 2000000) (disch := omega) only [go_sem, Go.Proofs.Tryd.results35, delT, eT, wordT, fromS, str]); rfl) ?_; refine embS_frz (by simp only [oneA]; simp (implicitDefEqProofs := false) (maxSteps := 2000000) (disch := omega) only [go_sem, List.length_take, List.length_cons, List.length_append, List.length_map, List.length_nil, delT, eT, wordT, fromS, str]; rfl) ?_; refine (embV_nil hE (by simp) ?_).s; simp (disch := (first | omega | (simp; omega))) [oneA, ren, renL, List.take_of_length_le, delT, eT, wordT, fromS, str])
  all_goals
    have hs : showM s trW trT = [wordT (endS s.k)] := by simp [showM, hk]
    rw [hs]
    refine con_of_awp Go.Proofs.Tryd.func35 rfl (by kernel_rfl) (of_decide_eq_true (by kernel_rfl)) ?_; intro E hG hE; subst hG; simp only [ent]
    have ac := all_con E.G false [endS s.k] (by simp)
    simp only [List.map_cons, List.map_nil, List.length_cons, List.length_nil, eStr, eT, wordT, endS, hk, str] at ac
    (repeat' (first | refine awp_seq ?_ | refine awp_block ?_ | refine awp_skip ?_ | refine awp_exit ?_ | ((first | refine awp_r (by kernel_rfl) (fun K kp hK hkp => ?_) | refine awp_dr (id := 7) mixed 10 [0, 1, 2, 3, 4, 5, 6, 7, 8, 9] (by kernel_rfl) (by kernel_rfl) (by kernel_rfl) (by simp only [go_sem]; rfl) (by simp only [go_sem]; rfl) (by simp only [go_sem]; rfl) (fun K kp hK hkp => ?_) | refine awp_dr (id := 25) mixed 7 [0, 1, 4, 5, 2, 3, 6] (by kernel_rfl) (by kernel_rfl) (by kernel_rfl) (by simp only [go_sem]; rfl) (by simp only [go_sem]; rfl) (by simp only [go_sem]; rfl) (fun K kp hK hkp => ?_) | ((first | apply callR_i (ac) | apply callD_i (ac) | apply callX_i (ac)); (case hb => (simp (implicitDefEqProofs := false) (maxSteps := 2000000) (disch := omega) only [go_sem, eST, hk]; first | done | rfl)); (case hp => (first | (simp [-List.map_drop, -List.map_take, eST, hk]; done) | exact .ro _ _ (pt_map _ _))); (case hq => (first | (simp [-List.map_drop, -List.map_take]; done) | (intro _ h; simp only [List.mem_singleton] at h; subst h; exact pt_map _ _))))); simp (implicitDefEqProofs := false) (maxSteps := 2000000) (disch := omega) only [go_sem, eST, hk]; (repeat' (first | (refine hK _ ?_; clear hK hkp kp K) | (with_reducible refine And.intro ?_ ?_) | omega))) | ((first | refine goG_ask (fun h => ?_) (fun h => ?_) | refine goGD_ask (fun h => ?_) (fun h => ?_) | refine goGX_ask (fun h => ?_) (fun h => ?_)) <;> (simp (implicitDefEqProofs := false) (maxSteps := 2000000) (disch := omega) only [go_sem, eST, hk, h]; (repeat' (first | (refine hK _ ?_; clear hK hkp kp K) | (with_reducible refine And.intro ?_ ?_) | omega)))) | refine awp_cond_t rfl ?_ | refine awp_cond_f rfl ?_ | ((refine awp_cond rfl (fun h => ?_) (fun h => ?_) <;> try simp only [decide_eq_true_eq, decide_eq_false_iff_not, Int.not_lt, Int.not_le, Bool.not_eq_true, Bool.not_eq_false, bne_iff_ne, ne_eq, beq_iff_eq, bne_eq_false_iff_eq, beq_eq_false_iff_ne] at h) <;> (try (exfalso; omega))) | refine awp_ret ?_))
    (refine retA_is (by (simp (implicitDefEqProofs := false) (maxSteps := 2000000) (disch := omega) only [go_sem, Go.Proofs.Tryd.results35, endS, hk, eT, wordT, str]); rfl) ?_; refine (embV_nil hE (by simp) ?_).s; simp [oneA, ren, renL, endS, hk, eT, wordT, str])
end Go.AM
/- Statements: parse.Check and parse.Show. -/
namespace Go.AM
open Go Go.RowKit
open Go.Proofs.YtoecmmpjndcolaaDoor (OP nameM litM exprM marksS wordsS StrsAt str SlAt letB wrdB digB bt vcheck popsM)
attribute [local irreducible] AWP retA
def inI (n : Int) : Prop := -9223372036854775808 ≤ n ∧ n ≤ 9223372036854775807
structure bdST (s : ST) : Prop where
  row : ∀ v ∈ s.row, inI v.n
  wh : ∀ o ∈ s.wh, inI o.vn
  to : ∀ o ∈ s.to, inI o.vn
theorem to_ok {l : List OP} (hb : ∀ o ∈ l, inI o.vn) (h : exprM l = 0) : ∃ tr, ToOk l tr := by
  obtain ⟨h1, h2, tr, h3, h4⟩ := tree_of_expr h
  refine ⟨tr, h3, h4, h1, fun o ho => ?_, ?_⟩
  · obtain ⟨g1, g2, g3, g4⟩ := h2 o ho
    obtain ⟨b1, b2⟩ := hb o ho
    exact ⟨⟨⟨g1, g2⟩, fun _ => ⟨good_lit (v := ⟨o.vk, o.vn, o.vs⟩) b1 g3, b2⟩⟩, fun hk => good_of_name (g4 hk)⟩
  · unfold exprM at h
    split at h
    · cases h
    · exact hgt_of_expr l 0 h
theorem wh_ok {l : List OP} (hb : ∀ o ∈ l, inI o.vn) (h : whereM l = 0) : ∃ tr, WhOk l tr := by
  by_cases h0 : l = []
  · subst h0
    exact ⟨.l ⟨0, 0, 0, ⟨#[]⟩, ⟨#[]⟩⟩, fun h => (h rfl).elim, fun h => (h rfl).elim, by simp, by simp, fun h => (h rfl).elim⟩
  · have hl : ¬ l.length = 0 := fun e => h0 (List.length_eq_zero_iff.1 e)
    rw [whereM, if_neg hl] at h
    obtain ⟨tr, ht⟩ := to_ok hb h
    exact ⟨tr, fun _ => ht.wf, fun _ => ht.flat, ht.len, ht.ops, fun _ => ht.hgt⟩
theorem names_ok : ∀ {l : List ByteArray}, namesM l = 0 → ∀ n ∈ l, goodN n
  | [], _, n, hn => by cases hn
  | s :: r, h, n, hn => by
    unfold namesM at h
    split at h
    · rename_i h1; exact (h1 h).elim
    · rename_i h1
      rcases List.mem_cons.1 hn with rfl | hn
      · exact good_of_name (by simpa using h1)
      · exact names_ok h n hn
theorem rowFrom_ok : ∀ {l : List V}, (∀ v ∈ l, inI v.n) → rowFrom l = 0 → ∀ v ∈ l, okV v
  | [], _, _, v, hv => by cases hv
  | x :: r, hb, h, v, hv => by
    unfold rowFrom at h
    split at h
    · rename_i h1; exact (h1 h).elim
    · rename_i h1
      rcases List.mem_cons.1 hv with rfl | hv
      · exact ⟨good_lit (hb _ (by simp)).1 (by simpa using h1), (hb _ (by simp)).2⟩
      · exact rowFrom_ok (fun y hy => hb y (by simp [hy])) h v hv
/-- The parts may be. -/
structure okP (s : ST) : Prop where
  lo : 1 ≤ s.k
  hi : s.k ≤ 9
  tab : s.k < 7 → nameM s.tab = 0
  parts : partsM s = 0
theorem okP_of_check {s : ST} (h1 : 1 ≤ s.k) (h9 : s.k ≤ 9) (h : checkM s = 0) : okP s := by
  have ht : s.k < 7 → nameM s.tab = 0 := by
    intro hk
    by_cases hn : nameM s.tab = 0
    · exact hn
    · rw [checkM_name hk hn] at h; exact h
  have hp : partsM s = 0 := by
    have hh : ¬ (s.k < 7 ∧ nameM s.tab ≠ 0) := fun ⟨a, b⟩ => b (ht a)
    by_cases hp : partsM s = 0
    · exact hp
    · rw [checkM_parts hh hp] at h; exact h
  exact ⟨h1, h9, ht, hp⟩
theorem st_ok {s : ST} (hb : bdST s) (h : okP s) : ∃ trW trT, OkSt s trW trT := by
  obtain ⟨h1, h9, ht, hp⟩ := h
  let T0 : RT OP := .l ⟨0, 0, 0, ⟨#[]⟩, ⟨#[]⟩⟩
  have hw : ∃ tr, (s.k = 4 ∨ s.k = 5 ∨ s.k = 6 → WhOk s.wh tr) := by
    by_cases hk : s.k = 4 ∨ s.k = 5 ∨ s.k = 6
    · have : whereM s.wh = 0 := by
        rcases hk with hk | hk | hk
        · simp only [partsM, hk, pickM] at hp
          simp only [show ¬ (4 : Int) = 1 by decide, show ¬ (4 : Int) = 3 by decide, if_true, if_false] at hp
          repeat' split at hp
          all_goals first | (exfalso; omega) | simp_all
        · simp only [partsM, hk] at hp
          simp only [show ¬ (5 : Int) = 1 by decide, show ¬ (5 : Int) = 3 by decide, show ¬ (5 : Int) = 4 by decide, if_true, if_false] at hp
          repeat' split at hp
          all_goals first | (exfalso; omega) | simp_all
        · simp only [partsM, hk] at hp
          simpa using hp
      obtain ⟨tr, h⟩ := wh_ok hb.wh this
      exact ⟨tr, fun _ => h⟩
    · exact ⟨T0, fun h => (hk h).elim⟩
  have hto : ∃ tr, (s.k = 5 → ToOk s.to tr) := by
    by_cases hk : s.k = 5
    · have : exprM s.to = 0 := by
        simp only [partsM, hk] at hp
        simp only [show ¬ (5 : Int) = 1 by decide, show ¬ (5 : Int) = 3 by decide, show ¬ (5 : Int) = 4 by decide, if_true, if_false] at hp
        repeat' split at hp
        all_goals first | (exfalso; omega) | simp_all
      obtain ⟨tr, h⟩ := to_ok hb.to this
      exact ⟨tr, fun _ => h⟩
    · exact ⟨T0, fun h => (hk h).elim⟩
  obtain ⟨trW, hw⟩ := hw
  obtain ⟨trT, hto⟩ := hto
  refine ⟨trW, trT, h1, h9, fun hk => good_of_name (ht hk), fun hk => ?_, fun hk => ?_, fun hk => ?_, hw, fun hk hd => ?_, fun hk ho => ?_, fun hk hd => ?_, fun hk => ?_, hto⟩
  · rw [partsM, if_pos hk] at hp
    obtain ⟨_, g2, g3⟩ := colsM_ok hp
    exact ⟨g2, g3⟩
  · have hr : rowM s.row = 0 := by simpa [partsM, hk] using hp
    unfold rowM at hr
    split at hr
    · cases hr
    · exact ⟨by omega, rowFrom_ok hb.row hr⟩
  · have hr : pickM s = 0 := by simpa [partsM, hk] using hp
    unfold pickM at hr
    repeat' split at hr
    all_goals first | (exfalso; omega) | skip
    all_goals exact ⟨by omega, names_ok (by simp_all)⟩
  · have hr : pickM s = 0 := by simpa [partsM, hk] using hp
    unfold pickM at hr
    repeat' split at hr
    all_goals first | (exfalso; omega) | skip
    all_goals
      rename_i h3 _ _ _
      cases hn : s.names with
      | nil => rfl
      | cons x r => exact (h3 (by simp [hd, hasN, hn])).elim
  · have hr : pickM s = 0 := by simpa [partsM, hk] using hp
    unfold pickM at hr
    repeat' split at hr
    all_goals first | (exfalso; omega) | skip
    · rename_i he; exact (ho (by simpa [emp] using he)).elim
    · exact good_of_name hr
  · have hr : pickM s = 0 := by simpa [partsM, hk] using hp
    unfold pickM at hr
    repeat' split at hr
    all_goals first | (exfalso; omega) | skip
    all_goals (rename_i h3 _ _ _; intro he; exact h3 (by simp [hd, emp, he]))
  · have hn : nameM s.set = 0 := by
      simp only [partsM, hk] at hp
      simp only [show ¬ (5 : Int) = 1 by decide, show ¬ (5 : Int) = 3 by decide, show ¬ (5 : Int) = 4 by decide, if_true, if_false] at hp
      repeat' split at hp
      all_goals first | (exfalso; omega) | simp_all
    exact good_of_name hn
/-- What is wrong with a statement. -/
def stM (s : ST) (n : Nat) : Int := if s.k < 1 ∨ 9 < s.k then 2 else if checkM s ≠ 0 then checkM s else if 100 < n then 10 else 0
set_option maxRecDepth 100000 in
set_option maxHeartbeats 8000000 in
theorem parseCheck_con {G : List (Nat × List Value)} (T : Tabs G) (s : ST) (o : okST s) (trW trT : RT OP) (h : okP s → OkSt s trW trT) : Con Go.Proofs.Tryd.prog G 18 [.agg (eST s)] [] 0 (Is (.r (.int .i64 (stM s (showM s trW trT).length))) [] 0) No := by
  refine con_of_awp Go.Proofs.Tryd.func18 rfl (by kernel_rfl) (of_decide_eq_true (by kernel_rfl)) ?_; intro E hG hE; subst hG; simp only [ent]
  by_cases h19 : s.k < 1 ∨ 9 < s.k
  · have hM : ∀ n, stM s n = 2 := fun n => by rw [stM, if_pos h19]
    rw [hM]
    by_cases h1 : s.k < 1
    · have d1 : decide (s.k < 1) = true := decide_eq_true h1
      (repeat' (first | refine awp_seq ?_ | refine awp_block ?_ | refine awp_skip ?_ | refine awp_exit ?_ | ((first | refine awp_r (by kernel_rfl) (fun K kp hK hkp => ?_)); simp (implicitDefEqProofs := false) (maxSteps := 2000000) (disch := omega) only [go_sem, eST, d1]; (repeat' (first | (refine hK _ ?_; clear hK hkp kp K) | (with_reducible refine And.intro ?_ ?_) | omega))) | ((first | refine goG_ask (fun h => ?_) (fun h => ?_) | refine goGD_ask (fun h => ?_) (fun h => ?_) | refine goGX_ask (fun h => ?_) (fun h => ?_)) <;> (simp (implicitDefEqProofs := false) (maxSteps := 2000000) (disch := omega) only [go_sem, eST, d1, h]; (repeat' (first | (refine hK _ ?_; clear hK hkp kp K) | (with_reducible refine And.intro ?_ ?_) | omega)))) | refine awp_cond_t rfl ?_ | refine awp_cond_f rfl ?_ | ((refine awp_cond rfl (fun h => ?_) (fun h => ?_) <;> try simp only [decide_eq_true_eq, decide_eq_false_iff_not, Int.not_lt, Int.not_le, Bool.not_eq_true, Bool.not_eq_false, bne_iff_ne, ne_eq, beq_iff_eq, bne_eq_false_iff_eq, beq_eq_false_iff_ne] at h) <;> (try (exfalso; omega))) | refine awp_ret ?_))
      all_goals (refine retA_is (by (simp (implicitDefEqProofs := false) (maxSteps := 2000000) (disch := omega) only [go_sem, Go.Proofs.Tryd.results18]); rfl) ?_; refine (embV_nil hE (by simp) ?_).s; simp [oneA, ren, renL])
    · have d1 : decide (s.k < 1) = false := decide_eq_false h1
      have d2 : decide (s.k > 9) = true := decide_eq_true (by omega)
      (repeat' (first | refine awp_seq ?_ | refine awp_block ?_ | refine awp_skip ?_ | refine awp_exit ?_ | ((first | refine awp_r (by kernel_rfl) (fun K kp hK hkp => ?_)); simp (implicitDefEqProofs := false) (maxSteps := 2000000) (disch := omega) only [go_sem, eST, d1, d2]; (repeat' (first | (refine hK _ ?_; clear hK hkp kp K) | (with_reducible refine And.intro ?_ ?_) | omega))) | ((first | refine goG_ask (fun h => ?_) (fun h => ?_) | refine goGD_ask (fun h => ?_) (fun h => ?_) | refine goGX_ask (fun h => ?_) (fun h => ?_)) <;> (simp (implicitDefEqProofs := false) (maxSteps := 2000000) (disch := omega) only [go_sem, eST, d1, d2, h]; (repeat' (first | (refine hK _ ?_; clear hK hkp kp K) | (with_reducible refine And.intro ?_ ?_) | omega)))) | refine awp_cond_t rfl ?_ | refine awp_cond_f rfl ?_ | ((refine awp_cond rfl (fun h => ?_) (fun h => ?_) <;> try simp only [decide_eq_true_eq, decide_eq_false_iff_not, Int.not_lt, Int.not_le, Bool.not_eq_true, Bool.not_eq_false, bne_iff_ne, ne_eq, beq_iff_eq, bne_eq_false_iff_eq, beq_eq_false_iff_ne] at h) <;> (try (exfalso; omega))) | refine awp_ret ?_))
      all_goals (refine retA_is (by (simp (implicitDefEqProofs := false) (maxSteps := 2000000) (disch := omega) only [go_sem, Go.Proofs.Tryd.results18]); rfl) ?_; refine (embV_nil hE (by simp) ?_).s; simp [oneA, ren, renL])
  have d1 : decide (s.k < 1) = false := decide_eq_false (by omega)
  have d2 : decide (s.k > 9) = false := decide_eq_false (by omega)
  have cc := check_con T s o (by omega)
  simp only [eST] at cc
  by_cases hc : checkM s = 0
  · have hok := h (okP_of_check (by omega) (by omega) hc)
    have sc := show_con T s trW trT hok
    simp only [eST] at sc
    rw [hc] at cc
    have hM : ∀ n, stM s n = if 100 < n then 10 else 0 := fun n => by rw [stM, if_neg h19, if_neg (by simp [hc])]
    generalize showM s trW trT = sm at *
    rw [hM]
    by_cases hl : 100 < sm.length
    · have d3 : decide ((sm.length : Int) > 100) = true := decide_eq_true (by omega)
      rw [if_pos hl]
      (repeat' (first | refine awp_seq ?_ | refine awp_block ?_ | refine awp_skip ?_ | refine awp_exit ?_ | ((first | refine awp_r (by kernel_rfl) (fun K kp hK hkp => ?_) | ((first | apply callR_i (cc) | apply callD_i (cc) | apply callX_i (cc)); (case hb => (simp (implicitDefEqProofs := false) (maxSteps := 2000000) (disch := omega) only [go_sem, eST, d1, d2, d3]; first | done | rfl)); (case hp => (first | (simp [-List.map_drop, -List.map_take, eST, d1, d2, d3]; done) | exact .ro _ _ (pt_map _ _))); (case hq => (first | (simp [-List.map_drop, -List.map_take]; done) | (intro _ h; simp only [List.mem_singleton] at h; subst h; exact pt_map _ _)))) | ((first | apply callR_i (sc) | apply callD_i (sc) | apply callX_i (sc)); (case hb => (simp (implicitDefEqProofs := false) (maxSteps := 2000000) (disch := omega) only [go_sem, eST, d1, d2, d3]; first | done | rfl)); (case hp => (first | (simp [-List.map_drop, -List.map_take, eST, d1, d2, d3]; done) | exact .ro _ _ (pt_map _ _))); (case hq => (first | (simp [-List.map_drop, -List.map_take]; done) | (intro _ h; simp only [List.mem_singleton] at h; subst h; exact pt_map _ _))))); simp (implicitDefEqProofs := false) (maxSteps := 2000000) (disch := omega) only [go_sem, eST, d1, d2, d3]; (repeat' (first | (refine hK _ ?_; clear hK hkp kp K) | (with_reducible refine And.intro ?_ ?_) | omega))) | ((first | refine goG_ask (fun h => ?_) (fun h => ?_) | refine goGD_ask (fun h => ?_) (fun h => ?_) | refine goGX_ask (fun h => ?_) (fun h => ?_)) <;> (simp (implicitDefEqProofs := false) (maxSteps := 2000000) (disch := omega) only [go_sem, eST, d1, d2, d3, h]; (repeat' (first | (refine hK _ ?_; clear hK hkp kp K) | (with_reducible refine And.intro ?_ ?_) | omega)))) | refine awp_cond_t rfl ?_ | refine awp_cond_f rfl ?_ | ((refine awp_cond rfl (fun h => ?_) (fun h => ?_) <;> try simp only [decide_eq_true_eq, decide_eq_false_iff_not, Int.not_lt, Int.not_le, Bool.not_eq_true, Bool.not_eq_false, bne_iff_ne, ne_eq, beq_iff_eq, bne_eq_false_iff_eq, beq_eq_false_iff_ne] at h) <;> (try (exfalso; omega))) | refine awp_ret ?_))
      all_goals (refine retA_is (by (simp (implicitDefEqProofs := false) (maxSteps := 2000000) (disch := omega) only [go_sem, Go.Proofs.Tryd.results18]); rfl) ?_; refine (embV_nil hE (by simp) ?_).s; simp [oneA, ren, renL])
    · have d3 : decide ((sm.length : Int) > 100) = false := decide_eq_false (by omega)
      rw [if_neg hl]
      (repeat' (first | refine awp_seq ?_ | refine awp_block ?_ | refine awp_skip ?_ | refine awp_exit ?_ | ((first | refine awp_r (by kernel_rfl) (fun K kp hK hkp => ?_) | ((first | apply callR_i (cc) | apply callD_i (cc) | apply callX_i (cc)); (case hb => (simp (implicitDefEqProofs := false) (maxSteps := 2000000) (disch := omega) only [go_sem, eST, d1, d2, d3]; first | done | rfl)); (case hp => (first | (simp [-List.map_drop, -List.map_take, eST, d1, d2, d3]; done) | exact .ro _ _ (pt_map _ _))); (case hq => (first | (simp [-List.map_drop, -List.map_take]; done) | (intro _ h; simp only [List.mem_singleton] at h; subst h; exact pt_map _ _)))) | ((first | apply callR_i (sc) | apply callD_i (sc) | apply callX_i (sc)); (case hb => (simp (implicitDefEqProofs := false) (maxSteps := 2000000) (disch := omega) only [go_sem, eST, d1, d2, d3]; first | done | rfl)); (case hp => (first | (simp [-List.map_drop, -List.map_take, eST, d1, d2, d3]; done) | exact .ro _ _ (pt_map _ _))); (case hq => (first | (simp [-List.map_drop, -List.map_take]; done) | (intro _ h; simp only [List.mem_singleton] at h; subst h; exact pt_map _ _))))); simp (implicitDefEqProofs := false) (maxSteps := 2000000) (disch := omega) only [go_sem, eST, d1, d2, d3]; (repeat' (first | (refine hK _ ?_; clear hK hkp kp K) | (with_reducible refine And.intro ?_ ?_) | omega))) | ((first | refine goG_ask (fun h => ?_) (fun h => ?_) | refine goGD_ask (fun h => ?_) (fun h => ?_) | refine goGX_ask (fun h => ?_) (fun h => ?_)) <;> (simp (implicitDefEqProofs := false) (maxSteps := 2000000) (disch := omega) only [go_sem, eST, d1, d2, d3, h]; (repeat' (first | (refine hK _ ?_; clear hK hkp kp K) | (with_reducible refine And.intro ?_ ?_) | omega)))) | refine awp_cond_t rfl ?_ | refine awp_cond_f rfl ?_ | ((refine awp_cond rfl (fun h => ?_) (fun h => ?_) <;> try simp only [decide_eq_true_eq, decide_eq_false_iff_not, Int.not_lt, Int.not_le, Bool.not_eq_true, Bool.not_eq_false, bne_iff_ne, ne_eq, beq_iff_eq, bne_eq_false_iff_eq, beq_eq_false_iff_ne] at h) <;> (try (exfalso; omega))) | refine awp_ret ?_))
      all_goals (refine retA_is (by (simp (implicitDefEqProofs := false) (maxSteps := 2000000) (disch := omega) only [go_sem, Go.Proofs.Tryd.results18]); rfl) ?_; refine (embV_nil hE (by simp) ?_).s; simp [oneA, ren, renL])
  · have hM : ∀ n, stM s n = checkM s := fun n => by rw [stM, if_neg h19, if_pos hc]
    have b1 : (checkM s != 0) = true := by simpa using hc
    rw [hM]
    (repeat' (first | refine awp_seq ?_ | refine awp_block ?_ | refine awp_skip ?_ | refine awp_exit ?_ | ((first | refine awp_r (by kernel_rfl) (fun K kp hK hkp => ?_) | ((first | apply callR_i (cc) | apply callD_i (cc) | apply callX_i (cc)); (case hb => (simp (implicitDefEqProofs := false) (maxSteps := 2000000) (disch := omega) only [go_sem, eST, d1, d2, b1]; first | done | rfl)); (case hp => (first | (simp [-List.map_drop, -List.map_take, eST, d1, d2, b1]; done) | exact .ro _ _ (pt_map _ _))); (case hq => (first | (simp [-List.map_drop, -List.map_take]; done) | (intro _ h; simp only [List.mem_singleton] at h; subst h; exact pt_map _ _))))); simp (implicitDefEqProofs := false) (maxSteps := 2000000) (disch := omega) only [go_sem, eST, d1, d2, b1]; (repeat' (first | (refine hK _ ?_; clear hK hkp kp K) | (with_reducible refine And.intro ?_ ?_) | omega))) | ((first | refine goG_ask (fun h => ?_) (fun h => ?_) | refine goGD_ask (fun h => ?_) (fun h => ?_) | refine goGX_ask (fun h => ?_) (fun h => ?_)) <;> (simp (implicitDefEqProofs := false) (maxSteps := 2000000) (disch := omega) only [go_sem, eST, d1, d2, b1, h]; (repeat' (first | (refine hK _ ?_; clear hK hkp kp K) | (with_reducible refine And.intro ?_ ?_) | omega)))) | refine awp_cond_t rfl ?_ | refine awp_cond_f rfl ?_ | ((refine awp_cond rfl (fun h => ?_) (fun h => ?_) <;> try simp only [decide_eq_true_eq, decide_eq_false_iff_not, Int.not_lt, Int.not_le, Bool.not_eq_true, Bool.not_eq_false, bne_iff_ne, ne_eq, beq_iff_eq, bne_eq_false_iff_eq, beq_eq_false_iff_ne] at h) <;> (try (exfalso; omega))) | refine awp_ret ?_))
    all_goals (refine retA_is (by (simp (implicitDefEqProofs := false) (maxSteps := 2000000) (disch := omega) only [go_sem, Go.Proofs.Tryd.results18]); rfl) ?_; refine (embV_nil hE (by simp) ?_).s; simp [oneA, ren, renL])
theorem stM_ok {s : ST} {n : Nat} (h : stM s n = 0) : 1 ≤ s.k ∧ s.k ≤ 9 ∧ checkM s = 0 ∧ n ≤ 100 := by
  unfold stM at h
  repeat' split at h
  all_goals first | cases h | skip
  · rename_i hc; exact (hc h).elim
  · rename_i h1 h2 h3; exact ⟨by omega, by omega, by simpa using h2, by omega⟩
/-- What Show gives back. -/
def shownA (e : Int) (l : List TK0) : AV := .tup [.ro true 3 ((if e = 0 then l else []).map eT), .r (.int .i64 e)]
end Go.AM
/- Statements: the reference's tokens, all kinds. -/
namespace Go.AM
open Go Go.RowKit
open Go.Proofs.YtoecmmpjndcolaaDoor (OP nameM litM exprM marksS wordsS StrsAt str SlAt letB wrdB digB bt vcheck popsM)
attribute [local irreducible] AWP retA
theorem lit_str (l : List UInt8) : (⟨l.toArray⟩ : ByteArray) = str l := rfl
theorem toksG_split : ∀ (u cur r : List UInt8), toksG cur (u ++ 32 :: r) = toksG cur u ++ toksG [] r
  | [], cur, r => by rw [List.nil_append, toksG_blank]; rfl
  | c :: u, cur, r => by
    rw [List.cons_append, toksG, toksG]
    split
    · rw [toksG_split u [] r, List.append_assoc]
    · exact toksG_split u (cur ++ [c]) r
theorem toksM_split (a b : List UInt8) : toksM (a ++ 32 :: b) = toksM a ++ toksM b := toksG_split a [] b
theorem toksM_split1 (a b : List UInt8) : toksM (a ++ [32] ++ b) = toksM a ++ toksM b := by rw [List.append_assoc]; exact toksM_split a b
set_option maxRecDepth 100000 in
set_option maxHeartbeats 4000000 in
theorem joinToksO_con (G : List (Nat × List Value)) (t : Bool) (ls : List (List TK0)) (hl : ls.length ≤ 100) (hs : ∀ x ∈ ls, x.length ≤ 1000) : Con Go.Proofs.Tryd.prog G 77 [.ro t 1 (ls.map eTs)] [] 0 (Is (.s 0 0 ls.flatten.length) [(0, .lst 61 3 (ls.flatten.map eT))] 1) No := by
  refine con_of_awp Go.Proofs.Tryd.func77 rfl (by kernel_rfl) (of_decide_eq_true (by kernel_rfl)) ?_; intro E hG hE; subst hG; simp only [ent]
  (repeat' (first | refine awp_seq ?_ | refine awp_block ?_ | refine awp_skip ?_ | refine awp_exit ?_ | ((first | refine awp_r (by kernel_rfl) (fun K kp hK hkp => ?_)); simp (implicitDefEqProofs := false) (maxSteps := 2000000) (disch := omega) only [go_sem]; (repeat' (first | (refine hK _ ?_; clear hK hkp kp K) | (with_reducible refine And.intro ?_ ?_) | omega))) | ((first | refine goG_ask (fun h => ?_) (fun h => ?_) | refine goGD_ask (fun h => ?_) (fun h => ?_) | refine goGX_ask (fun h => ?_) (fun h => ?_)) <;> (simp (implicitDefEqProofs := false) (maxSteps := 2000000) (disch := omega) only [go_sem, h]; (repeat' (first | (refine hK _ ?_; clear hK hkp kp K) | (with_reducible refine And.intro ?_ ?_) | omega)))) | refine awp_cond_t rfl ?_ | refine awp_cond_f rfl ?_ | ((refine awp_cond rfl (fun h => ?_) (fun h => ?_) <;> try simp only [decide_eq_true_eq, decide_eq_false_iff_not, Int.not_lt, Int.not_le, Bool.not_eq_true, Bool.not_eq_false, bne_iff_ne, ne_eq, beq_iff_eq, bne_eq_false_iff_eq, beq_eq_false_iff_ne] at h) <;> (try (exfalso; omega))) | refine awp_ret ?_))
  (refine AWP.emb (emb_nil 3 61 3 ?_) ?_; (· rfl); dsimp only)
  refine awp_loop (fun k : Nat => ⟨[(4, .r (.int .i64 k)), (0, .ro t 1 (ls.map eTs)), (3, .s 0 0 (ls.take k).flatten.length)], [(0, .lst 61 3 ((ls.take k).flatten.map eT))], 1⟩) (fun k => k ≤ ls.length) (fun k => ls.length - k) 0 ?_ ?_ ?_
  · simp
  · (refine emb [0] ?_ ?_ rfl ?_ ?_ ?_ ?_ <;> simp [okM, okO, lk, ren, renL, renNd, by_, hE] <;> (try omega))
  intro k hk
  have hle : (ls.take k).flatten.length ≤ 1000 * 100 := by
    have := flat_len (ls := ls.take k) (fun x hx => hs x (List.mem_of_mem_take hx))
    simp only [List.length_take] at this; omega
  by_cases hlt : k < ls.length
  · obtain ⟨x, hx⟩ : ∃ x, ls[k]? = some x := ⟨ls[k], by simp [hlt]⟩
    have hft := flat_take hx
    have hxl := hs x (List.mem_of_getElem? hx)
    generalize (ls.take k).flatten = q at hft hle ⊢
    have d1 : decide ((k : Int) < (ls.length : Int)) = true := decide_eq_true (by omega)
    (repeat' (first | refine awp_seq ?_ | refine awp_block ?_ | refine awp_skip ?_ | refine awp_exit ?_ | ((first | refine awp_r (by kernel_rfl) (fun K kp hK hkp => ?_)); simp (implicitDefEqProofs := false) (maxSteps := 2000000) (disch := omega) only [go_sem, hx, eTs, d1]; (repeat' (first | (refine hK _ ?_; clear hK hkp kp K) | (with_reducible refine And.intro ?_ ?_) | omega))) | ((first | refine goG_ask (fun h => ?_) (fun h => ?_) | refine goGD_ask (fun h => ?_) (fun h => ?_) | refine goGX_ask (fun h => ?_) (fun h => ?_)) <;> (simp (implicitDefEqProofs := false) (maxSteps := 2000000) (disch := omega) only [go_sem, hx, eTs, d1, h]; (repeat' (first | (refine hK _ ?_; clear hK hkp kp K) | (with_reducible refine And.intro ?_ ?_) | omega)))) | refine awp_cond_t rfl ?_ | refine awp_cond_f rfl ?_ | ((refine awp_cond rfl (fun h => ?_) (fun h => ?_) <;> try simp only [decide_eq_true_eq, decide_eq_false_iff_not, Int.not_lt, Int.not_le, Bool.not_eq_true, Bool.not_eq_false, bne_iff_ne, ne_eq, beq_iff_eq, bne_eq_false_iff_eq, beq_eq_false_iff_ne] at h) <;> (try (exfalso; omega))) | refine awp_ret ?_))
    refine awp_loop (fun j : Nat => ⟨[(5, .r (.int .i64 j)), (4, .r (.int .i64 k)), (0, .ro t 1 (ls.map eTs)), (3, .s 0 0 (q ++ x.take j).length)], [(0, .lst 61 3 ((q ++ x.take j).map eT))], 1⟩) (fun j => j ≤ x.length) (fun j => x.length - j) 0 ?_ ?_ ?_
    · simp
    · (refine emb [0] ?_ ?_ rfl ?_ ?_ ?_ ?_ <;> simp [okM, okO, lk, ren, renL, renNd, by_, hE] <;> (try omega))
    intro j hj
    have hlj : (q ++ x.take j).length ≤ 1000 * 101 := by simp; omega
    by_cases hjl : j < x.length
    · obtain ⟨y, hy⟩ : ∃ y, x[j]? = some y := ⟨x[j], by simp [hjl]⟩
      have htj : q ++ x.take (j + 1) = q ++ x.take j ++ [y] := by rw [List.take_add_one, hy]; simp
      generalize q ++ x.take j = qj at htj hlj ⊢
      have d2 : decide ((j : Int) < (x.length : Int)) = true := decide_eq_true (by omega)
      (repeat' (first | refine awp_seq ?_ | refine awp_block ?_ | refine awp_skip ?_ | refine awp_exit ?_ | ((first | refine awp_r (by kernel_rfl) (fun K kp hK hkp => ?_)); simp (implicitDefEqProofs := false) (maxSteps := 2000000) (disch := omega) only [go_sem, hx, hy, eTs, eT, d2]; (repeat' (first | (refine hK _ ?_; clear hK hkp kp K) | (with_reducible refine And.intro ?_ ?_) | omega))) | ((first | refine goG_ask (fun h => ?_) (fun h => ?_) | refine goGD_ask (fun h => ?_) (fun h => ?_) | refine goGX_ask (fun h => ?_) (fun h => ?_)) <;> (simp (implicitDefEqProofs := false) (maxSteps := 2000000) (disch := omega) only [go_sem, hx, hy, eTs, eT, d2, h]; (repeat' (first | (refine hK _ ?_; clear hK hkp kp K) | (with_reducible refine And.intro ?_ ?_) | omega)))) | refine awp_cond_t rfl ?_ | refine awp_cond_f rfl ?_ | ((refine awp_cond rfl (fun h => ?_) (fun h => ?_) <;> try simp only [decide_eq_true_eq, decide_eq_false_iff_not, Int.not_lt, Int.not_le, Bool.not_eq_true, Bool.not_eq_false, bne_iff_ne, ne_eq, beq_iff_eq, bne_eq_false_iff_eq, beq_eq_false_iff_ne] at h) <;> (try (exfalso; omega))) | refine awp_ret ?_))
      ((first | (refine nextB (j + 1) ?_ ?_ ?_) | (refine nextA (j + 1) ?_ ?_ ?_)); rotate_left; (· (try dsimp only); (first | omega | (simp only [List.length_drop, List.length_cons, List.length_append]; omega) | (simp; done) | (simp; omega))); (· (refine emb [2] ?_ ?_ rfl ?_ ?_ ?_ ?_ <;> simp [okM, okO, lk, ren, renL, renNd, by_, hE, htj, eT] <;> (try omega))))
      omega
    · obtain rfl : j = x.length := by omega
      rw [List.take_of_length_le (Nat.le_refl _), ← hft] at hlj ⊢
      have d2 : decide ((x.length : Int) < (x.length : Int)) = false := decide_eq_false (by omega)
      (repeat' (first | refine awp_seq ?_ | refine awp_block ?_ | refine awp_skip ?_ | refine awp_exit ?_ | ((first | refine awp_r (by kernel_rfl) (fun K kp hK hkp => ?_)); simp (implicitDefEqProofs := false) (maxSteps := 2000000) (disch := omega) only [go_sem, hx, eTs, d2]; (repeat' (first | (refine hK _ ?_; clear hK hkp kp K) | (with_reducible refine And.intro ?_ ?_) | omega))) | ((first | refine goG_ask (fun h => ?_) (fun h => ?_) | refine goGD_ask (fun h => ?_) (fun h => ?_) | refine goGX_ask (fun h => ?_) (fun h => ?_)) <;> (simp (implicitDefEqProofs := false) (maxSteps := 2000000) (disch := omega) only [go_sem, hx, eTs, d2, h]; (repeat' (first | (refine hK _ ?_; clear hK hkp kp K) | (with_reducible refine And.intro ?_ ?_) | omega)))) | refine awp_cond_t rfl ?_ | refine awp_cond_f rfl ?_ | ((refine awp_cond rfl (fun h => ?_) (fun h => ?_) <;> try simp only [decide_eq_true_eq, decide_eq_false_iff_not, Int.not_lt, Int.not_le, Bool.not_eq_true, Bool.not_eq_false, bne_iff_ne, ne_eq, beq_iff_eq, bne_eq_false_iff_eq, beq_eq_false_iff_ne] at h) <;> (try (exfalso; omega))) | refine awp_ret ?_))
      ((first | (refine nextB (k + 1) ?_ ?_ ?_) | (refine nextA (k + 1) ?_ ?_ ?_)); rotate_left; (· (try dsimp only); (first | omega | (simp only [List.length_drop, List.length_cons, List.length_append]; omega) | (simp; done) | (simp; omega))); (· (refine emb [0] ?_ ?_ rfl ?_ ?_ ?_ ?_ <;> simp [okM, okO, lk, ren, renL, renNd, by_, hE] <;> (try omega))))
      omega
  · obtain rfl : k = ls.length := by omega
    rw [List.take_of_length_le (Nat.le_refl _)]
    have d1 : decide ((ls.length : Int) < (ls.length : Int)) = false := decide_eq_false (by omega)
    (repeat' (first | refine awp_seq ?_ | refine awp_block ?_ | refine awp_skip ?_ | refine awp_exit ?_ | ((first | refine awp_r (by kernel_rfl) (fun K kp hK hkp => ?_)); simp (implicitDefEqProofs := false) (maxSteps := 2000000) (disch := omega) only [go_sem, d1]; (repeat' (first | (refine hK _ ?_; clear hK hkp kp K) | (with_reducible refine And.intro ?_ ?_) | omega))) | ((first | refine goG_ask (fun h => ?_) (fun h => ?_) | refine goGD_ask (fun h => ?_) (fun h => ?_) | refine goGX_ask (fun h => ?_) (fun h => ?_)) <;> (simp (implicitDefEqProofs := false) (maxSteps := 2000000) (disch := omega) only [go_sem, d1, h]; (repeat' (first | (refine hK _ ?_; clear hK hkp kp K) | (with_reducible refine And.intro ?_ ?_) | omega)))) | refine awp_cond_t rfl ?_ | refine awp_cond_f rfl ?_ | ((refine awp_cond rfl (fun h => ?_) (fun h => ?_) <;> try simp only [decide_eq_true_eq, decide_eq_false_iff_not, Int.not_lt, Int.not_le, Bool.not_eq_true, Bool.not_eq_false, bne_iff_ne, ne_eq, beq_iff_eq, bne_eq_false_iff_eq, beq_eq_false_iff_ne] at h) <;> (try (exfalso; omega))) | refine awp_ret ?_))
    (refine retA_is (by (simp (implicitDefEqProofs := false) (maxSteps := 2000000) (disch := omega) only [go_sem, Go.Proofs.Tryd.results77]); rfl) ?_; refine (embV [0] ?_ ?_ ?_ ?_ ?_ ?_).s <;> simp [oneA, okO, lk, ren, renL, renNd, by_, hE])
theorem toks_where : toksM [87, 72, 69, 82, 69] = [wordT (str [87, 72, 69, 82, 69])] := rfl
set_option maxRecDepth 100000 in
theorem whereToks_con (G : List (Nat × List Value)) (l : List OP) (tr : RT OP) (h : WhOk l tr) : Con Go.Proofs.Tryd.prog G 78 [.ro true 5 (l.map eO)] [] 0 (Is (.ro true 3 ((whT l tr).map eT)) [] 0) No := by
  refine con_of_awp Go.Proofs.Tryd.func78 rfl (by kernel_rfl) (of_decide_eq_true (by kernel_rfl)) ?_; intro E hG hE; subst hG; simp only [ent]
  have hl := h.len
  by_cases h0 : l = []
  · subst h0
    (repeat' (first | refine awp_seq ?_ | refine awp_block ?_ | refine awp_skip ?_ | refine awp_exit ?_ | ((first | refine awp_r (by kernel_rfl) (fun K kp hK hkp => ?_)); simp (implicitDefEqProofs := false) (maxSteps := 2000000) (disch := omega) only [go_sem]; (repeat' (first | (refine hK _ ?_; clear hK hkp kp K) | (with_reducible refine And.intro ?_ ?_) | omega))) | ((first | refine goG_ask (fun h => ?_) (fun h => ?_) | refine goGD_ask (fun h => ?_) (fun h => ?_) | refine goGX_ask (fun h => ?_) (fun h => ?_)) <;> (simp (implicitDefEqProofs := false) (maxSteps := 2000000) (disch := omega) only [go_sem, h]; (repeat' (first | (refine hK _ ?_; clear hK hkp kp K) | (with_reducible refine And.intro ?_ ?_) | omega)))) | refine awp_cond_t rfl ?_ | refine awp_cond_f rfl ?_ | ((refine awp_cond rfl (fun h => ?_) (fun h => ?_) <;> try simp only [decide_eq_true_eq, decide_eq_false_iff_not, Int.not_lt, Int.not_le, Bool.not_eq_true, Bool.not_eq_false, bne_iff_ne, ne_eq, beq_iff_eq, bne_eq_false_iff_eq, beq_eq_false_iff_ne] at h) <;> (try (exfalso; omega))) | refine awp_ret ?_))
    refine retA_is (by (simp (implicitDefEqProofs := false) (maxSteps := 2000000) (disch := omega) only [go_sem, Go.Proofs.Tryd.results78]); rfl) ?_
    exact embS_nil hE (by simp) 3
  · have hp : 0 < l.length := List.length_pos_iff.2 h0
    have d0 : ((l.length : Int) == 0) = false := by simp; exact h0
    have tc := toks_con E.G [87, 72, 69, 82, 69] (by simp)
    rw [toks_where] at tc
    have oc := opsToks_con E.G true tr (h.wf h0) (by rw [h.flat h0]; exact h.ops) (by rw [h.flat h0]; exact hl)
    rw [h.flat h0] at oc
    have hw : whT l tr = [[wordT (str [87, 72, 69, 82, 69])], showR tr].flatten := by simp [whT, h0]
    have hsl := showR_len tr
    rw [h.flat h0] at hsl
    rw [hw]
    generalize showR tr = rt at *
    have cc := joinToks_con E.G false [[wordT (str [87, 72, 69, 82, 69])], rt] (by simp) (by intro x hx; simp at hx; rcases hx with rfl | rfl <;> first | omega | simp)
    generalize [[wordT (str [87, 72, 69, 82, 69])], rt].flatten = fl at *
    simp only [List.map_cons, List.map_nil, List.length_cons, List.length_nil, eTs, eT, wordT, str] at tc cc
    (repeat' (first | refine awp_seq ?_ | refine awp_block ?_ | refine awp_skip ?_ | refine awp_exit ?_ | ((first | refine awp_r (by kernel_rfl) (fun K kp hK hkp => ?_) | ((first | apply callR_i (tc) | apply callD_i (tc) | apply callX_i (tc)); (case hb => (simp (implicitDefEqProofs := false) (maxSteps := 2000000) (disch := omega) only [go_sem, d0, eTs]; first | done | rfl)); (case hp => (first | (simp [-List.map_drop, -List.map_take, d0, eTs]; done) | exact .ro _ _ (pt_map _ _))); (case hq => (first | (simp [-List.map_drop, -List.map_take]; done) | (intro _ h; simp only [List.mem_singleton] at h; subst h; exact pt_map _ _)))) | ((first | apply callR_i (oc) | apply callD_i (oc) | apply callX_i (oc)); (case hb => (simp (implicitDefEqProofs := false) (maxSteps := 2000000) (disch := omega) only [go_sem, d0, eTs]; first | done | rfl)); (case hp => (first | (simp [-List.map_drop, -List.map_take, d0, eTs]; done) | exact .ro _ _ (pt_map _ _))); (case hq => (first | (simp [-List.map_drop, -List.map_take]; done) | (intro _ h; simp only [List.mem_singleton] at h; subst h; exact pt_map _ _)))) | ((first | apply callR_i (cc) | apply callD_i (cc) | apply callX_i (cc)); (case hb => (simp (implicitDefEqProofs := false) (maxSteps := 2000000) (disch := omega) only [go_sem, d0, eTs]; first | done | rfl)); (case hp => (first | (simp [-List.map_drop, -List.map_take, d0, eTs]; done) | exact .ro _ _ (pt_map _ _))); (case hq => (first | (simp [-List.map_drop, -List.map_take]; done) | (intro _ h; simp only [List.mem_singleton] at h; subst h; exact pt_map _ _))))); simp (implicitDefEqProofs := false) (maxSteps := 2000000) (disch := omega) only [go_sem, d0, eTs]; (repeat' (first | (refine hK _ ?_; clear hK hkp kp K) | (with_reducible refine And.intro ?_ ?_) | omega))) | ((first | refine goG_ask (fun h => ?_) (fun h => ?_) | refine goGD_ask (fun h => ?_) (fun h => ?_) | refine goGX_ask (fun h => ?_) (fun h => ?_)) <;> (simp (implicitDefEqProofs := false) (maxSteps := 2000000) (disch := omega) only [go_sem, d0, eTs, h]; (repeat' (first | (refine hK _ ?_; clear hK hkp kp K) | (with_reducible refine And.intro ?_ ?_) | omega)))) | refine awp_cond_t rfl ?_ | refine awp_cond_f rfl ?_ | ((refine awp_cond rfl (fun h => ?_) (fun h => ?_) <;> try simp only [decide_eq_true_eq, decide_eq_false_iff_not, Int.not_lt, Int.not_le, Bool.not_eq_true, Bool.not_eq_false, bne_iff_ne, ne_eq, beq_iff_eq, bne_eq_false_iff_eq, beq_eq_false_iff_ne] at h) <;> (try (exfalso; omega))) | refine awp_ret ?_))
    (refine retA_is (by (simp (implicitDefEqProofs := false) (maxSteps := 2000000) (disch := omega) only [go_sem, Go.Proofs.Tryd.results78]); rfl) ?_; refine (embV_nil hE (by simp) ?_).s; simp [oneA, ren, renL])
theorem toks_insert {s : ByteArray} (h : goodN s) : toksM ([73, 78, 83, 69, 82, 84, 32, 73, 78, 84, 79, 32] ++ s.toList ++ [32, 86, 65, 76, 85, 69, 83, 32, 40]) = [wordT (str [73, 78, 83, 69, 82, 84]), wordT (str [73, 78, 84, 79]), wordT s, wordT (str [86, 65, 76, 85, 69, 83])] ++ listO [] := by
  have e1 : toksM ([73, 78, 83, 69, 82, 84, 32, 73, 78, 84, 79, 32] ++ s.toList ++ [32, 86, 65, 76, 85, 69, 83, 32, 40]) = [wordT (str [73, 78, 83, 69, 82, 84]), wordT (str [73, 78, 84, 79])] ++ toksM (s.toList ++ 32 :: [86, 65, 76, 85, 69, 83, 32, 40]) := rfl
  rw [e1, toksM_split, toks_word h]
  rfl
set_option maxRecDepth 100000 in
set_option maxHeartbeats 8000000 in
theorem tokens3_con (G : List (Nat × List Value)) (s : ST) (hk : s.k = 3) (hl : s.row.length ≤ 6) (hc : ∀ v ∈ s.row, okV v) (ht : goodN s.tab) : Con Go.Proofs.Tryd.prog G 39 [.agg (eST s)] [] 0 (Is (.ro true 3 ((rowT s).map eT)) [] 0) No := by
  refine con_of_awp Go.Proofs.Tryd.func39 rfl (by kernel_rfl) (of_decide_eq_true (by kernel_rfl)) ?_; intro E hG hE; subst hG; simp only [ent]
  have htl := ht.len
  have et := Go.Proofs.YtoecmmpjndcolaaDoor.eq_str s.tab
  have hh := toks_insert ht
  have tc := toks_con E.G ([73, 78, 83, 69, 82, 84, 32, 73, 78, 84, 79, 32] ++ s.tab.toList ++ [32, 86, 65, 76, 85, 69, 83, 32, 40]) (by simp; omega)
  rw [hh] at tc
  generalize htb : s.tab.toList = tb at *
  generalize hhd : [wordT (str [73, 78, 83, 69, 82, 84]), wordT (str [73, 78, 84, 79]), wordT s.tab, wordT (str [86, 65, 76, 85, 69, 83])] = hd at *
  have hhl : hd.length = 4 := by rw [← hhd]; rfl
  have hcT : rowT s = hd ++ listO (s.row.map valT) ++ [markT (str [41])] := by rw [rowT, hhd]; simp [listM, listO]
  rw [hcT]
  (repeat' (first | refine awp_seq ?_ | refine awp_block ?_ | refine awp_skip ?_ | refine awp_exit ?_ | ((first | refine awp_r (by kernel_rfl) (fun K kp hK hkp => ?_) | refine awp_dr (id := 9) mixed 19 [0, 1, 2, 3, 4, 5, 6, 7, 9, 10, 11, 12, 13, 14, 8, 15, 16, 17, 18] (by kernel_rfl) (by kernel_rfl) (by kernel_rfl) (by simp only [go_sem]; rfl) (by simp only [go_sem]; rfl) (by simp only [go_sem]; rfl) (fun K kp hK hkp => ?_) | refine awp_dr (id := 37) mixed 15 [0, 1, 2, 3, 4, 5, 7, 8, 10, 6, 9, 11, 12, 13, 14] (by kernel_rfl) (by kernel_rfl) (by kernel_rfl) (by simp only [go_sem]; rfl) (by simp only [go_sem]; rfl) (by simp only [go_sem]; rfl) (fun K kp hK hkp => ?_) | refine awp_dr (id := 42) mixed 18 [0, 1, 2, 3, 4, 5, 6, 7, 9, 10, 12, 13, 8, 11, 14, 15, 16, 17] (by kernel_rfl) (by kernel_rfl) (by kernel_rfl) (by simp only [go_sem]; rfl) (by simp only [go_sem]; rfl) (by simp only [go_sem]; rfl) (fun K kp hK hkp => ?_) | refine awp_dr (id := 44) mixed 10 [0, 1, 2, 4, 5, 3, 6, 7, 8, 9] (by kernel_rfl) (by kernel_rfl) (by kernel_rfl) (by simp only [go_sem]; rfl) (by simp only [go_sem]; rfl) (by simp only [go_sem]; rfl) (fun K kp hK hkp => ?_) | ((first | apply callR_i (tc) | apply callD_i (tc) | apply callX_i (tc)); (case hb => (simp (implicitDefEqProofs := false) (maxSteps := 2000000) (disch := omega) only [go_sem, eST, hk, et, lit_str, str_app, str_size, List.length_append, List.length_cons, List.length_nil]; first | done | rfl)); (case hp => (first | (simp [-List.map_drop, -List.map_take, eST, hk, et, lit_str, str_app, str_size, List.length_append, List.length_cons, List.length_nil]; done) | exact .ro _ _ (pt_map _ _))); (case hq => (first | (simp [-List.map_drop, -List.map_take]; done) | (intro _ h; simp only [List.mem_singleton] at h; subst h; exact pt_map _ _))))); simp (implicitDefEqProofs := false) (maxSteps := 2000000) (disch := omega) only [go_sem, eST, hk, et, lit_str, str_app, str_size, List.length_append, List.length_cons, List.length_nil]; (repeat' (first | (refine hK _ ?_; clear hK hkp kp K) | (with_reducible refine And.intro ?_ ?_) | omega))) | ((first | refine goG_ask (fun h => ?_) (fun h => ?_) | refine goGD_ask (fun h => ?_) (fun h => ?_) | refine goGX_ask (fun h => ?_) (fun h => ?_)) <;> (simp (implicitDefEqProofs := false) (maxSteps := 2000000) (disch := omega) only [go_sem, eST, hk, et, lit_str, str_app, str_size, List.length_append, List.length_cons, List.length_nil, h]; (repeat' (first | (refine hK _ ?_; clear hK hkp kp K) | (with_reducible refine And.intro ?_ ?_) | omega)))) | refine awp_cond_t rfl ?_ | refine awp_cond_f rfl ?_ | ((refine awp_cond rfl (fun h => ?_) (fun h => ?_) <;> try simp only [decide_eq_true_eq, decide_eq_false_iff_not, Int.not_lt, Int.not_le, Bool.not_eq_true, Bool.not_eq_false, bne_iff_ne, ne_eq, beq_iff_eq, bne_eq_false_iff_eq, beq_eq_false_iff_ne] at h) <;> (try (exfalso; omega))) | refine awp_ret ?_))
  refine awp_loop (fun k : Nat => ⟨[(6, .r (.int .i64 k)), (5, .s 1 0 (hd ++ listO ((s.row.map valT).take k)).length), (1, .p 0 0 0)],
    [(0, .box 38 (eST s)), (1, .lst 61 3 ((hd ++ listO ((s.row.map valT).take k)).map eT))], 2⟩) (fun k => k ≤ s.row.length) (fun k => s.row.length - k) 0 ?_ ?_ ?_
  · simp
  · (refine emb [0, 1] ?_ ?_ rfl ?_ ?_ ?_ ?_ <;> simp [okM, okO, lk, ren, renL, renNd, by_, hE, eST, hk, et] <;> (try omega))
  intro k hkk
  have tk : toksM [44] = [markT (str [44])] := rfl
  have tm := toks_con E.G [44] (by simp)
  rw [tk] at tm
  simp only [List.map_cons, List.map_nil, List.length_cons, List.length_nil, eT, markT, str] at tm
  have hle : (hd ++ listO ((s.row.map valT).take k)).length ≤ 8010 := by
    have := commas_len ((s.row.map valT).take k) (by intro x hx; obtain ⟨c, _, rfl⟩ := List.mem_map.1 (List.mem_of_mem_take hx); have := valT_len c; omega)
    simp [listO] at this ⊢; omega
  by_cases hlt : k < s.row.length
  · obtain ⟨v, hx⟩ : ∃ x, s.row[k]? = some x := ⟨s.row[k], by simp [hlt]⟩
    have hx2 : (s.row.map valT)[k]? = some (valT v) := by rw [List.getElem?_map, hx]; rfl
    obtain ⟨g1, g2⟩ := hc v (List.mem_of_getElem? hx)
    have sc := valueToks_con E.G v g1 g2
    have d0 : decide ((k : Int) < (s.row.length : Int)) = true := decide_eq_true (by omega)
    have hvl := valT_len v
    by_cases h0 : 0 < k
    · have d1 : decide ((k : Int) > 0) = true := decide_eq_true (by omega)
      have hm : hd ++ listO ((s.row.map valT).take (k + 1)) = hd ++ listO ((s.row.map valT).take k) ++ [markT (str [44])] ++ valT v := by rw [listO_more hx2 h0]; simp
      generalize hd ++ listO ((s.row.map valT).take k) = q at hm hle ⊢
      generalize valT v = vt at *
      simp only [eV] at sc
      (repeat' (first | refine awp_seq ?_ | refine awp_block ?_ | refine awp_skip ?_ | refine awp_exit ?_ | ((first | refine awp_r (by kernel_rfl) (fun K kp hK hkp => ?_) | refine awp_dr (id := 9) mixed 19 [0, 1, 2, 3, 4, 5, 6, 7, 9, 10, 11, 12, 13, 14, 8, 15, 16, 17, 18] (by kernel_rfl) (by kernel_rfl) (by kernel_rfl) (by simp only [go_sem]; rfl) (by simp only [go_sem]; rfl) (by simp only [go_sem]; rfl) (fun K kp hK hkp => ?_) | refine awp_dr (id := 37) mixed 15 [0, 1, 2, 3, 4, 5, 7, 8, 10, 6, 9, 11, 12, 13, 14] (by kernel_rfl) (by kernel_rfl) (by kernel_rfl) (by simp only [go_sem]; rfl) (by simp only [go_sem]; rfl) (by simp only [go_sem]; rfl) (fun K kp hK hkp => ?_) | refine awp_dr (id := 42) mixed 18 [0, 1, 2, 3, 4, 5, 6, 7, 9, 10, 12, 13, 8, 11, 14, 15, 16, 17] (by kernel_rfl) (by kernel_rfl) (by kernel_rfl) (by simp only [go_sem]; rfl) (by simp only [go_sem]; rfl) (by simp only [go_sem]; rfl) (fun K kp hK hkp => ?_) | refine awp_dr (id := 44) mixed 10 [0, 1, 2, 4, 5, 3, 6, 7, 8, 9] (by kernel_rfl) (by kernel_rfl) (by kernel_rfl) (by simp only [go_sem]; rfl) (by simp only [go_sem]; rfl) (by simp only [go_sem]; rfl) (fun K kp hK hkp => ?_) | ((first | apply callR_i (tm) | apply callD_i (tm) | apply callX_i (tm)); (case hb => (simp (implicitDefEqProofs := false) (maxSteps := 2000000) (disch := omega) only [go_sem, eST, hx, eV, d0, d1]; first | done | rfl)); (case hp => (first | (simp [-List.map_drop, -List.map_take, eST, hx, eV, d0, d1]; done) | exact .ro _ _ (pt_map _ _))); (case hq => (first | (simp [-List.map_drop, -List.map_take]; done) | (intro _ h; simp only [List.mem_singleton] at h; subst h; exact pt_map _ _)))) | ((first | apply callR_i (sc) | apply callD_i (sc) | apply callX_i (sc)); (case hb => (simp (implicitDefEqProofs := false) (maxSteps := 2000000) (disch := omega) only [go_sem, eST, hx, eV, d0, d1]; first | done | rfl)); (case hp => (first | (simp [-List.map_drop, -List.map_take, eST, hx, eV, d0, d1]; done) | exact .ro _ _ (pt_map _ _))); (case hq => (first | (simp [-List.map_drop, -List.map_take]; done) | (intro _ h; simp only [List.mem_singleton] at h; subst h; exact pt_map _ _))))); simp (implicitDefEqProofs := false) (maxSteps := 2000000) (disch := omega) only [go_sem, eST, hx, eV, d0, d1]; (repeat' (first | (refine hK _ ?_; clear hK hkp kp K) | (with_reducible refine And.intro ?_ ?_) | omega))) | ((first | refine goG_ask (fun h => ?_) (fun h => ?_) | refine goGD_ask (fun h => ?_) (fun h => ?_) | refine goGX_ask (fun h => ?_) (fun h => ?_)) <;> (simp (implicitDefEqProofs := false) (maxSteps := 2000000) (disch := omega) only [go_sem, eST, hx, eV, d0, d1, h]; (repeat' (first | (refine hK _ ?_; clear hK hkp kp K) | (with_reducible refine And.intro ?_ ?_) | omega)))) | refine awp_cond_t rfl ?_ | refine awp_cond_f rfl ?_ | ((refine awp_cond rfl (fun h => ?_) (fun h => ?_) <;> try simp only [decide_eq_true_eq, decide_eq_false_iff_not, Int.not_lt, Int.not_le, Bool.not_eq_true, Bool.not_eq_false, bne_iff_ne, ne_eq, beq_iff_eq, bne_eq_false_iff_eq, beq_eq_false_iff_ne] at h) <;> (try (exfalso; omega))) | refine awp_ret ?_))
      ((first | (refine nextB (k + 1) ?_ ?_ ?_) | (refine nextA (k + 1) ?_ ?_ ?_)); rotate_left; (· (try dsimp only); (first | omega | (simp only [List.length_drop, List.length_cons, List.length_append]; omega) | (simp; done) | (simp; omega))); (· (refine emb [0, 4] ?_ ?_ rfl ?_ ?_ ?_ ?_ <;> simp [okM, okO, lk, ren, renL, renNd, by_, hE, hm, eT, eST, markT, str] <;> (try omega))))
      omega
    · obtain rfl : k = 0 := by omega
      have hm : hd ++ listO ((s.row.map valT).take (0 + 1)) = hd ++ listO ((s.row.map valT).take 0) ++ valT v := by rw [listO_one hx2, List.take_zero]; simp
      generalize hd ++ listO ((s.row.map valT).take 0) = q at hm hle ⊢
      generalize valT v = vt at *
      simp only [eV] at sc
      (repeat' (first | refine awp_seq ?_ | refine awp_block ?_ | refine awp_skip ?_ | refine awp_exit ?_ | ((first | refine awp_r (by kernel_rfl) (fun K kp hK hkp => ?_) | refine awp_dr (id := 9) mixed 19 [0, 1, 2, 3, 4, 5, 6, 7, 9, 10, 11, 12, 13, 14, 8, 15, 16, 17, 18] (by kernel_rfl) (by kernel_rfl) (by kernel_rfl) (by simp only [go_sem]; rfl) (by simp only [go_sem]; rfl) (by simp only [go_sem]; rfl) (fun K kp hK hkp => ?_) | refine awp_dr (id := 37) mixed 15 [0, 1, 2, 3, 4, 5, 7, 8, 10, 6, 9, 11, 12, 13, 14] (by kernel_rfl) (by kernel_rfl) (by kernel_rfl) (by simp only [go_sem]; rfl) (by simp only [go_sem]; rfl) (by simp only [go_sem]; rfl) (fun K kp hK hkp => ?_) | refine awp_dr (id := 42) mixed 18 [0, 1, 2, 3, 4, 5, 6, 7, 9, 10, 12, 13, 8, 11, 14, 15, 16, 17] (by kernel_rfl) (by kernel_rfl) (by kernel_rfl) (by simp only [go_sem]; rfl) (by simp only [go_sem]; rfl) (by simp only [go_sem]; rfl) (fun K kp hK hkp => ?_) | refine awp_dr (id := 44) mixed 10 [0, 1, 2, 4, 5, 3, 6, 7, 8, 9] (by kernel_rfl) (by kernel_rfl) (by kernel_rfl) (by simp only [go_sem]; rfl) (by simp only [go_sem]; rfl) (by simp only [go_sem]; rfl) (fun K kp hK hkp => ?_) | ((first | apply callR_i (tm) | apply callD_i (tm) | apply callX_i (tm)); (case hb => (simp (implicitDefEqProofs := false) (maxSteps := 2000000) (disch := omega) only [go_sem, eST, hx, eV, d0]; first | done | rfl)); (case hp => (first | (simp [-List.map_drop, -List.map_take, eST, hx, eV, d0]; done) | exact .ro _ _ (pt_map _ _))); (case hq => (first | (simp [-List.map_drop, -List.map_take]; done) | (intro _ h; simp only [List.mem_singleton] at h; subst h; exact pt_map _ _)))) | ((first | apply callR_i (sc) | apply callD_i (sc) | apply callX_i (sc)); (case hb => (simp (implicitDefEqProofs := false) (maxSteps := 2000000) (disch := omega) only [go_sem, eST, hx, eV, d0]; first | done | rfl)); (case hp => (first | (simp [-List.map_drop, -List.map_take, eST, hx, eV, d0]; done) | exact .ro _ _ (pt_map _ _))); (case hq => (first | (simp [-List.map_drop, -List.map_take]; done) | (intro _ h; simp only [List.mem_singleton] at h; subst h; exact pt_map _ _))))); simp (implicitDefEqProofs := false) (maxSteps := 2000000) (disch := omega) only [go_sem, eST, hx, eV, d0]; (repeat' (first | (refine hK _ ?_; clear hK hkp kp K) | (with_reducible refine And.intro ?_ ?_) | omega))) | ((first | refine goG_ask (fun h => ?_) (fun h => ?_) | refine goGD_ask (fun h => ?_) (fun h => ?_) | refine goGX_ask (fun h => ?_) (fun h => ?_)) <;> (simp (implicitDefEqProofs := false) (maxSteps := 2000000) (disch := omega) only [go_sem, eST, hx, eV, d0, h]; (repeat' (first | (refine hK _ ?_; clear hK hkp kp K) | (with_reducible refine And.intro ?_ ?_) | omega)))) | refine awp_cond_t rfl ?_ | refine awp_cond_f rfl ?_ | ((refine awp_cond rfl (fun h => ?_) (fun h => ?_) <;> try simp only [decide_eq_true_eq, decide_eq_false_iff_not, Int.not_lt, Int.not_le, Bool.not_eq_true, Bool.not_eq_false, bne_iff_ne, ne_eq, beq_iff_eq, bne_eq_false_iff_eq, beq_eq_false_iff_ne] at h) <;> (try (exfalso; omega))) | refine awp_ret ?_))
      ((first | (refine nextB (0 + 1) ?_ ?_ ?_) | (refine nextA (0 + 1) ?_ ?_ ?_)); rotate_left; (· (try dsimp only); (first | omega | (simp only [List.length_drop, List.length_cons, List.length_append]; omega) | (simp; done) | (simp; omega))); (· (refine emb [0, 2] ?_ ?_ rfl ?_ ?_ ?_ ?_ <;> simp [okM, okO, lk, ren, renL, renNd, by_, hE, hm, eT, eST, markT, str] <;> (try omega))))
      omega
  · obtain rfl : k = s.row.length := by omega
    have t2 : toksM [41] = [markT (str [41])] := rfl
    have tn := toks_con E.G [41] (by simp)
    rw [t2] at tn
    simp only [List.map_cons, List.map_nil, List.length_cons, List.length_nil, eT, markT, str] at tn
    have e9 : (s.row.map valT).take s.row.length = s.row.map valT := List.take_of_length_le (by simp)
    rw [e9] at hle ⊢
    generalize hd ++ listO (s.row.map valT) = q at hle ⊢
    have d0 : decide ((s.row.length : Int) < (s.row.length : Int)) = false := decide_eq_false (by omega)
    (repeat' (first | refine awp_seq ?_ | refine awp_block ?_ | refine awp_skip ?_ | refine awp_exit ?_ | ((first | refine awp_r (by kernel_rfl) (fun K kp hK hkp => ?_) | refine awp_dr (id := 9) mixed 19 [0, 1, 2, 3, 4, 5, 6, 7, 9, 10, 11, 12, 13, 14, 8, 15, 16, 17, 18] (by kernel_rfl) (by kernel_rfl) (by kernel_rfl) (by simp only [go_sem]; rfl) (by simp only [go_sem]; rfl) (by simp only [go_sem]; rfl) (fun K kp hK hkp => ?_) | refine awp_dr (id := 37) mixed 15 [0, 1, 2, 3, 4, 5, 7, 8, 10, 6, 9, 11, 12, 13, 14] (by kernel_rfl) (by kernel_rfl) (by kernel_rfl) (by simp only [go_sem]; rfl) (by simp only [go_sem]; rfl) (by simp only [go_sem]; rfl) (fun K kp hK hkp => ?_) | refine awp_dr (id := 42) mixed 18 [0, 1, 2, 3, 4, 5, 6, 7, 9, 10, 12, 13, 8, 11, 14, 15, 16, 17] (by kernel_rfl) (by kernel_rfl) (by kernel_rfl) (by simp only [go_sem]; rfl) (by simp only [go_sem]; rfl) (by simp only [go_sem]; rfl) (fun K kp hK hkp => ?_) | refine awp_dr (id := 44) mixed 10 [0, 1, 2, 4, 5, 3, 6, 7, 8, 9] (by kernel_rfl) (by kernel_rfl) (by kernel_rfl) (by simp only [go_sem]; rfl) (by simp only [go_sem]; rfl) (by simp only [go_sem]; rfl) (fun K kp hK hkp => ?_) | ((first | apply callR_i (tn) | apply callD_i (tn) | apply callX_i (tn)); (case hb => (simp (implicitDefEqProofs := false) (maxSteps := 2000000) (disch := omega) only [go_sem, eST, d0]; first | done | rfl)); (case hp => (first | (simp [-List.map_drop, -List.map_take, eST, d0]; done) | exact .ro _ _ (pt_map _ _))); (case hq => (first | (simp [-List.map_drop, -List.map_take]; done) | (intro _ h; simp only [List.mem_singleton] at h; subst h; exact pt_map _ _))))); simp (implicitDefEqProofs := false) (maxSteps := 2000000) (disch := omega) only [go_sem, eST, d0]; (repeat' (first | (refine hK _ ?_; clear hK hkp kp K) | (with_reducible refine And.intro ?_ ?_) | omega))) | ((first | refine goG_ask (fun h => ?_) (fun h => ?_) | refine goGD_ask (fun h => ?_) (fun h => ?_) | refine goGX_ask (fun h => ?_) (fun h => ?_)) <;> (simp (implicitDefEqProofs := false) (maxSteps := 2000000) (disch := omega) only [go_sem, eST, d0, h]; (repeat' (first | (refine hK _ ?_; clear hK hkp kp K) | (with_reducible refine And.intro ?_ ?_) | omega)))) | refine awp_cond_t rfl ?_ | refine awp_cond_f rfl ?_ | ((refine awp_cond rfl (fun h => ?_) (fun h => ?_) <;> try simp only [decide_eq_true_eq, decide_eq_false_iff_not, Int.not_lt, Int.not_le, Bool.not_eq_true, Bool.not_eq_false, bne_iff_ne, ne_eq, beq_iff_eq, bne_eq_false_iff_eq, beq_eq_false_iff_ne] at h) <;> (try (exfalso; omega))) | refine awp_ret ?_))
    (refine retA_is (by (simp (implicitDefEqProofs := false) (maxSteps := 2000000) (disch := omega) only [go_sem, Go.Proofs.Tryd.results39, eT, markT, str]); rfl) ?_; refine embS_frz (by simp only [oneA]; simp (implicitDefEqProofs := false) (maxSteps := 2000000) (disch := omega) only [go_sem, eT, markT, str]; rfl) ?_; refine (embV_nil hE (by simp) ?_).s; simp [oneA, ren, renL, eT, markT, str])
end Go.AM
/- Statements: the reference's tokens of a Select; all kinds. -/
namespace Go.AM
open Go Go.RowKit
open Go.Proofs.YtoecmmpjndcolaaDoor (OP nameM litM exprM marksS wordsS StrsAt str SlAt letB wrdB digB bt vcheck popsM)
attribute [local irreducible] AWP retA
def what0 (s : ST) : List UInt8 := if s.count = true then [67, 79, 85, 78, 84, 32, 40, 32, 42, 32, 41] else [42]
theorem toks_what0 (s : ST) (h : s.names = []) : toksM (what0 s) = whatT s := by
  unfold what0 whatT
  cases s.count
  · rw [if_neg (by decide), if_neg (by decide), if_pos h]; rfl
  · rw [if_pos rfl, if_pos rfl]; rfl
def tailB (s : ST) : List UInt8 := if s.ord.toList = [] then [] else [79, 82, 68, 69, 82, 32, 66, 89, 32] ++ s.ord.toList ++ (if s.down = true then [32, 68, 69, 83, 67] else [])
theorem toks_tail {s : ST} (h : s.ord.toList ≠ [] → goodN s.ord) : toksM (tailB s) = ordT s := by
  unfold tailB ordT
  by_cases h0 : s.ord.toList = []
  · rw [if_pos h0, if_pos h0]; rfl
  · rw [if_neg h0, if_neg h0]
    have hg := toks_word (h h0)
    have e1 : ∀ r, toksM ([79, 82, 68, 69, 82, 32, 66, 89, 32] ++ s.ord.toList ++ r) = [wordT ordS, wordT byS] ++ toksM (s.ord.toList ++ r) := fun r => by rw [List.append_assoc]; rfl
    rw [e1]
    cases s.down
    · simp only [Bool.false_eq_true, if_false, List.append_nil]; rw [hg]; rfl
    · simp only [if_true]
      have e2 : s.ord.toList ++ [32, 68, 69, 83, 67] = s.ord.toList ++ 32 :: [68, 69, 83, 67] := rfl
      rw [e2, toksM_split, hg]; rfl
theorem toks_select {s : ST} (w : List UInt8) (ht : goodN s.tab) : toksM ([83, 69, 76, 69, 67, 84, 32] ++ w ++ [32, 70, 82, 79, 77, 32] ++ s.tab.toList) = [wordT selS] ++ toksM w ++ [wordT fromS, wordT s.tab] := by
  have e1 : [83, 69, 76, 69, 67, 84, 32] ++ w ++ [32, 70, 82, 79, 77, 32] ++ s.tab.toList = [83, 69, 76, 69, 67, 84] ++ 32 :: (w ++ 32 :: ([70, 82, 79, 77] ++ 32 :: s.tab.toList)) := by simp
  rw [e1, toksM_split, toksM_split, toksM_split, toks_word ht]
  rfl
set_option maxRecDepth 100000 in
set_option maxHeartbeats 16000000 in
theorem tokens4_con (G : List (Nat × List Value)) (s : ST) (tr : RT OP) (hk : s.k = 4) (ht : goodN s.tab) (hn : s.names.length ≤ 6) (hng : ∀ n ∈ s.names, goodN n) (hcn : s.count = true → s.names = []) (hw : WhOk s.wh tr) (hog : s.ord.toList ≠ [] → goodN s.ord) (hdo : s.down = true → s.ord.toList ≠ []) :
    Con Go.Proofs.Tryd.prog G 39 [.agg (eST s)] [] 0 (Is (.ro true 3 ((pickT s (whT s.wh tr)).map eT)) [] 0) No := by
  refine con_of_awp Go.Proofs.Tryd.func39 rfl (by kernel_rfl) (of_decide_eq_true (by kernel_rfl)) ?_; intro E hG hE; subst hG; simp only [ent]
  obtain ⟨ns, hns⟩ : ∃ ns, ns = s.names.map fun n => [wordT n] := ⟨_, rfl⟩
  have hnl : ns.length = s.names.length := by rw [hns]; simp
  have hinv : ∀ w : AS, (w = ⟨[(8, .r (.int .i64 0)), (7, .r (.string (str (what0 s)))), (1, .p 0 0 0)], [(0, .box 38 (eST s))], 1⟩) → w = w := fun _ _ => rfl
  cases hc : s.count
  all_goals
    have hw0 : what0 s = if s.count = true then [67, 79, 85, 78, 84, 32, 40, 32, 42, 32, 41] else [42] := rfl
    rw [hc] at hw0
    simp only [Bool.false_eq_true, if_false, if_true] at hw0
    (repeat' (first | refine awp_seq ?_ | refine awp_block ?_ | refine awp_skip ?_ | refine awp_exit ?_ | ((first | refine awp_r (by kernel_rfl) (fun K kp hK hkp => ?_) | refine awp_dr (id := 9) mixed 19 [0, 1, 2, 3, 4, 5, 6, 7, 9, 10, 11, 12, 13, 14, 8, 15, 16, 17, 18] (by kernel_rfl) (by kernel_rfl) (by kernel_rfl) (by simp only [go_sem]; rfl) (by simp only [go_sem]; rfl) (by simp only [go_sem]; rfl) (fun K kp hK hkp => ?_) | refine awp_dr (id := 37) mixed 15 [0, 1, 2, 3, 4, 5, 7, 8, 10, 6, 9, 11, 12, 13, 14] (by kernel_rfl) (by kernel_rfl) (by kernel_rfl) (by simp only [go_sem]; rfl) (by simp only [go_sem]; rfl) (by simp only [go_sem]; rfl) (fun K kp hK hkp => ?_) | refine awp_dr (id := 42) mixed 18 [0, 1, 2, 3, 4, 5, 6, 7, 9, 10, 12, 13, 8, 11, 14, 15, 16, 17] (by kernel_rfl) (by kernel_rfl) (by kernel_rfl) (by simp only [go_sem]; rfl) (by simp only [go_sem]; rfl) (by simp only [go_sem]; rfl) (fun K kp hK hkp => ?_) | refine awp_dr (id := 44) mixed 10 [0, 1, 2, 4, 5, 3, 6, 7, 8, 9] (by kernel_rfl) (by kernel_rfl) (by kernel_rfl) (by simp only [go_sem]; rfl) (by simp only [go_sem]; rfl) (by simp only [go_sem]; rfl) (fun K kp hK hkp => ?_)); simp (implicitDefEqProofs := false) (maxSteps := 2000000) (disch := omega) only [go_sem, eST, hk, hc]; (repeat' (first | (refine hK _ ?_; clear hK hkp kp K) | (with_reducible refine And.intro ?_ ?_) | omega))) | ((first | refine goG_ask (fun h => ?_) (fun h => ?_) | refine goGD_ask (fun h => ?_) (fun h => ?_) | refine goGX_ask (fun h => ?_) (fun h => ?_)) <;> (simp (implicitDefEqProofs := false) (maxSteps := 2000000) (disch := omega) only [go_sem, eST, hk, hc, h]; (repeat' (first | (refine hK _ ?_; clear hK hkp kp K) | (with_reducible refine And.intro ?_ ?_) | omega)))) | refine awp_cond_t rfl ?_ | refine awp_cond_f rfl ?_ | ((refine awp_cond rfl (fun h => ?_) (fun h => ?_) <;> try simp only [decide_eq_true_eq, decide_eq_false_iff_not, Int.not_lt, Int.not_le, Bool.not_eq_true, Bool.not_eq_false, bne_iff_ne, ne_eq, beq_iff_eq, bne_eq_false_iff_eq, beq_eq_false_iff_ne] at h) <;> (try (exfalso; omega))) | refine awp_ret ?_))
    refine awp_loop (fun q : Nat × List UInt8 => ⟨[(8, .r (.int .i64 q.1)), (7, .r (.string (str q.2))), (1, .p 0 0 0)], [(0, .box 38 (eST s))], 1⟩) (fun q => q.1 ≤ s.names.length ∧ q.2.length ≤ 20 * (q.1 + 1) ∧ (q.1 = 0 → q.2 = what0 s) ∧ (0 < q.1 → toksM q.2 = commas (ns.take q.1))) (fun q => s.names.length - q.1) (0, what0 s) ?_ ?_ ?_
    · exact ⟨by simp, by rw [hw0]; simp, fun _ => rfl, fun h => absurd h (Nat.lt_irrefl 0)⟩
    · (refine emb [0] ?_ ?_ rfl ?_ ?_ ?_ ?_ <;> simp [okM, okO, lk, ren, renL, renNd, by_, hE, eST, hk, hc, hw0, str] <;> (try omega))
    rintro ⟨k, wb⟩ ⟨hkl, hwl, hz, hp⟩
    simp only at hkl hwl hz hp ⊢
    by_cases hlt : k < s.names.length
    · obtain ⟨n, hx⟩ : ∃ x, s.names[k]? = some x := ⟨s.names[k], by simp [hlt]⟩
      have hx2 : ns[k]? = some [wordT n] := by rw [hns, List.getElem?_map, hx]; rfl
      have hgn := hng n (List.mem_of_getElem? hx)
      have hln := hgn.len
      have en := Go.Proofs.YtoecmmpjndcolaaDoor.eq_str n
      have hwn := toks_word hgn
      have d1 : decide ((k : Int) < (s.names.length : Int)) = true := decide_eq_true (by omega)
      generalize hnb : n.toList = nb at *
      by_cases h0 : k = 0
      · have d0 : ((k : Int) == 0) = true := by simp [h0]
        (repeat' (first | refine awp_seq ?_ | refine awp_block ?_ | refine awp_skip ?_ | refine awp_exit ?_ | ((first | refine awp_r (by kernel_rfl) (fun K kp hK hkp => ?_) | refine awp_dr (id := 9) mixed 19 [0, 1, 2, 3, 4, 5, 6, 7, 9, 10, 11, 12, 13, 14, 8, 15, 16, 17, 18] (by kernel_rfl) (by kernel_rfl) (by kernel_rfl) (by simp only [go_sem]; rfl) (by simp only [go_sem]; rfl) (by simp only [go_sem]; rfl) (fun K kp hK hkp => ?_) | refine awp_dr (id := 37) mixed 15 [0, 1, 2, 3, 4, 5, 7, 8, 10, 6, 9, 11, 12, 13, 14] (by kernel_rfl) (by kernel_rfl) (by kernel_rfl) (by simp only [go_sem]; rfl) (by simp only [go_sem]; rfl) (by simp only [go_sem]; rfl) (fun K kp hK hkp => ?_) | refine awp_dr (id := 42) mixed 18 [0, 1, 2, 3, 4, 5, 6, 7, 9, 10, 12, 13, 8, 11, 14, 15, 16, 17] (by kernel_rfl) (by kernel_rfl) (by kernel_rfl) (by simp only [go_sem]; rfl) (by simp only [go_sem]; rfl) (by simp only [go_sem]; rfl) (fun K kp hK hkp => ?_) | refine awp_dr (id := 44) mixed 10 [0, 1, 2, 4, 5, 3, 6, 7, 8, 9] (by kernel_rfl) (by kernel_rfl) (by kernel_rfl) (by simp only [go_sem]; rfl) (by simp only [go_sem]; rfl) (by simp only [go_sem]; rfl) (fun K kp hK hkp => ?_)); simp (implicitDefEqProofs := false) (maxSteps := 2000000) (disch := omega) only [go_sem, eST, hx, eStr, d0, d1, en]; (repeat' (first | (refine hK _ ?_; clear hK hkp kp K) | (with_reducible refine And.intro ?_ ?_) | omega))) | ((first | refine goG_ask (fun h => ?_) (fun h => ?_) | refine goGD_ask (fun h => ?_) (fun h => ?_) | refine goGX_ask (fun h => ?_) (fun h => ?_)) <;> (simp (implicitDefEqProofs := false) (maxSteps := 2000000) (disch := omega) only [go_sem, eST, hx, eStr, d0, d1, en, h]; (repeat' (first | (refine hK _ ?_; clear hK hkp kp K) | (with_reducible refine And.intro ?_ ?_) | omega)))) | refine awp_cond_t rfl ?_ | refine awp_cond_f rfl ?_ | ((refine awp_cond rfl (fun h => ?_) (fun h => ?_) <;> try simp only [decide_eq_true_eq, decide_eq_false_iff_not, Int.not_lt, Int.not_le, Bool.not_eq_true, Bool.not_eq_false, bne_iff_ne, ne_eq, beq_iff_eq, bne_eq_false_iff_eq, beq_eq_false_iff_ne] at h) <;> (try (exfalso; omega))) | refine awp_ret ?_))
        ((first | (refine nextB ((k + 1, nb)) ?_ ?_ ?_) | (refine nextA ((k + 1, nb)) ?_ ?_ ?_)); rotate_left; (· (try dsimp only); (first | omega | (simp only [List.length_drop, List.length_cons, List.length_append]; omega) | (simp; done) | (simp; omega))); (· (refine emb [0] ?_ ?_ rfl ?_ ?_ ?_ ?_ <;> simp [okM, okO, lk, ren, renL, renNd, by_, hE, eST, hk, hc, en] <;> (try omega))))
        refine ⟨by omega, by simp only; omega, fun h => by simp at h, fun _ => ?_⟩
        simp only
        rw [hwn, h0]
        have := listO_one (show ns[0]? = some [wordT n] by rw [← hx2, h0])
        simp only [listO, List.cons_append, List.cons.injEq, true_and] at this
        rw [this]; simp [commas]
      · have d0 : ((k : Int) == 0) = false := by simp; exact h0
        (repeat' (first | refine awp_seq ?_ | refine awp_block ?_ | refine awp_skip ?_ | refine awp_exit ?_ | ((first | refine awp_r (by kernel_rfl) (fun K kp hK hkp => ?_) | refine awp_dr (id := 9) mixed 19 [0, 1, 2, 3, 4, 5, 6, 7, 9, 10, 11, 12, 13, 14, 8, 15, 16, 17, 18] (by kernel_rfl) (by kernel_rfl) (by kernel_rfl) (by simp only [go_sem]; rfl) (by simp only [go_sem]; rfl) (by simp only [go_sem]; rfl) (fun K kp hK hkp => ?_) | refine awp_dr (id := 37) mixed 15 [0, 1, 2, 3, 4, 5, 7, 8, 10, 6, 9, 11, 12, 13, 14] (by kernel_rfl) (by kernel_rfl) (by kernel_rfl) (by simp only [go_sem]; rfl) (by simp only [go_sem]; rfl) (by simp only [go_sem]; rfl) (fun K kp hK hkp => ?_) | refine awp_dr (id := 42) mixed 18 [0, 1, 2, 3, 4, 5, 6, 7, 9, 10, 12, 13, 8, 11, 14, 15, 16, 17] (by kernel_rfl) (by kernel_rfl) (by kernel_rfl) (by simp only [go_sem]; rfl) (by simp only [go_sem]; rfl) (by simp only [go_sem]; rfl) (fun K kp hK hkp => ?_) | refine awp_dr (id := 44) mixed 10 [0, 1, 2, 4, 5, 3, 6, 7, 8, 9] (by kernel_rfl) (by kernel_rfl) (by kernel_rfl) (by simp only [go_sem]; rfl) (by simp only [go_sem]; rfl) (by simp only [go_sem]; rfl) (fun K kp hK hkp => ?_)); simp (implicitDefEqProofs := false) (maxSteps := 2000000) (disch := omega) only [go_sem, eST, hx, eStr, d0, d1, en, lit_str, str_app, str_size, List.length_append, List.length_cons, List.length_nil]; (repeat' (first | (refine hK _ ?_; clear hK hkp kp K) | (with_reducible refine And.intro ?_ ?_) | omega))) | ((first | refine goG_ask (fun h => ?_) (fun h => ?_) | refine goGD_ask (fun h => ?_) (fun h => ?_) | refine goGX_ask (fun h => ?_) (fun h => ?_)) <;> (simp (implicitDefEqProofs := false) (maxSteps := 2000000) (disch := omega) only [go_sem, eST, hx, eStr, d0, d1, en, lit_str, str_app, str_size, List.length_append, List.length_cons, List.length_nil, h]; (repeat' (first | (refine hK _ ?_; clear hK hkp kp K) | (with_reducible refine And.intro ?_ ?_) | omega)))) | refine awp_cond_t rfl ?_ | refine awp_cond_f rfl ?_ | ((refine awp_cond rfl (fun h => ?_) (fun h => ?_) <;> try simp only [decide_eq_true_eq, decide_eq_false_iff_not, Int.not_lt, Int.not_le, Bool.not_eq_true, Bool.not_eq_false, bne_iff_ne, ne_eq, beq_iff_eq, bne_eq_false_iff_eq, beq_eq_false_iff_ne] at h) <;> (try (exfalso; omega))) | refine awp_ret ?_))
        ((first | (refine nextB ((k + 1, wb ++ [32, 44, 32] ++ nb)) ?_ ?_ ?_) | (refine nextA ((k + 1, wb ++ [32, 44, 32] ++ nb)) ?_ ?_ ?_)); rotate_left; (· (try dsimp only); (first | omega | (simp only [List.length_drop, List.length_cons, List.length_append]; omega) | (simp; done) | (simp; omega))); (· (refine emb [0] ?_ ?_ rfl ?_ ?_ ?_ ?_ <;> simp [okM, okO, lk, ren, renL, renNd, by_, hE, eST, hk, hc, en] <;> (try omega))))
        refine ⟨by omega, by simp; omega, fun h => by simp at h, fun _ => ?_⟩
        simp only
        have e1 : wb ++ [32, 44, 32] ++ nb = wb ++ 32 :: ([44] ++ 32 :: nb) := by simp
        rw [e1, toksM_split, toksM_split, hwn, hp (by omega)]
        have := listO_more hx2 (show 0 < k by omega)
        simp only [listO, List.cons_append, List.cons.injEq, true_and] at this
        rw [this, List.append_assoc]; rfl
    · obtain rfl : k = s.names.length := by omega
      have d1 : decide ((s.names.length : Int) < (s.names.length : Int)) = false := decide_eq_false (by omega)
      have hwt : toksM wb = whatT s := by
        by_cases h0 : s.names = []
        · rw [hz (by rw [h0]; rfl)]; exact toks_what0 s h0
        · have hc0 : s.count = false := by
            cases hc' : s.count
            · rfl
            · exact (h0 (hcn hc')).elim
          rw [hp (List.length_pos_iff.2 h0), ← hnl, List.take_of_length_le (Nat.le_refl _), hns, whatT, hc0, if_neg (by decide), if_neg h0]
      have htl := ht.len
      have et := Go.Proofs.YtoecmmpjndcolaaDoor.eq_str s.tab
      have hsel := toks_select wb ht
      have tc := toks_con E.G ([83, 69, 76, 69, 67, 84, 32] ++ wb ++ [32, 70, 82, 79, 77, 32] ++ s.tab.toList) (by simp; omega)
      have tt := toks_con E.G (tailB s) (by
        unfold tailB
        split
        · simp
        · rename_i h0; have := (hog h0).len; split <;> simp <;> omega)
      rw [hsel, hwt] at tc
      rw [toks_tail hog] at tt
      have wcon := whereToks_con E.G s.wh tr hw
      have hwhl := hw.lenT
      have hwl2 : (whatT s).length ≤ 200 := by
        rw [← hwt]; have := toksG_len wb []; simp only [toksM]; omega
      have hol : (ordT s).length ≤ 4 := by unfold ordT; split <;> (try split) <;> simp
      have hpt : pickT s (whT s.wh tr) = [[wordT selS] ++ whatT s ++ [wordT fromS, wordT s.tab], whT s.wh tr, ordT s].flatten ++ limT s := by simp [pickT]
      rw [hpt]
      have cc := joinToksO_con E.G false [[wordT selS] ++ whatT s ++ [wordT fromS, wordT s.tab], whT s.wh tr, ordT s] (by simp) (by intro x hx; simp only [List.mem_cons, List.not_mem_nil, or_false] at hx; rcases hx with rfl | rfl | rfl <;> first | omega | (simp only [List.length_append, List.length_cons, List.length_nil]; omega))
      have hfl : [[wordT selS] ++ whatT s ++ [wordT fromS, wordT s.tab], whT s.wh tr, ordT s].flatten.length ≤ 500 := by simp; omega
      generalize [[wordT selS] ++ whatT s ++ [wordT fromS, wordT s.tab], whT s.wh tr, ordT s].flatten = fl at *
      generalize [wordT selS] ++ whatT s ++ [wordT fromS, wordT s.tab] = q1 at *
      generalize whT s.wh tr = wt at *
      have hE' := eq_strs s.ord
      have eo := Go.Proofs.YtoecmmpjndcolaaDoor.eq_str s.ord
      have hoL : s.ord.toList ≠ [] → s.ord.toList.length ≤ 8 := fun h => (hog h).len
      have htB : tailB s = if s.ord.toList = [] then [] else [79, 82, 68, 69, 82, 32, 66, 89, 32] ++ s.ord.toList ++ (if s.down = true then [32, 68, 69, 83, 67] else []) := rfl
      have tk2 : ∀ d : Bool, decide (s.lim ≥ 0) = d → limT s = if d = true then [wordT limS, ⟨2, str [], s.lim⟩] else [] := by
        intro d hd; cases d
        · rw [limT, if_neg (of_decide_eq_false hd)]; simp
        · rw [limT, if_pos (of_decide_eq_true hd)]; simp
      clear hpt hsel
      generalize ordT s = q3 at *
      generalize htb : s.tab.toList = tb at *
      simp only [List.map_cons, List.map_nil, eTs] at cc
      by_cases ho : s.ord.toList = []
      · have hd : s.down = false := by
          cases hd : s.down
          · rfl
          · exact (hdo hd ho).elim
        have b1 : (s.ord.toList == (str []).toList) = true := by have := hE'; rw [show (⟨#[]⟩ : ByteArray) = str [] from rfl] at this; rw [this]; simp [ho]
        rw [if_pos ho] at htB
        rw [htB] at tt
        cases hl : decide (s.lim ≥ 0)
        all_goals
          have tk2 := tk2 _ hl
          rw [tk2]
          (repeat' (first | refine awp_seq ?_ | refine awp_block ?_ | refine awp_skip ?_ | refine awp_exit ?_ | ((first | refine awp_r (by kernel_rfl) (fun K kp hK hkp => ?_) | refine awp_dr (id := 9) mixed 19 [0, 1, 2, 3, 4, 5, 6, 7, 9, 10, 11, 12, 13, 14, 8, 15, 16, 17, 18] (by kernel_rfl) (by kernel_rfl) (by kernel_rfl) (by simp only [go_sem]; rfl) (by simp only [go_sem]; rfl) (by simp only [go_sem]; rfl) (fun K kp hK hkp => ?_) | refine awp_dr (id := 37) mixed 15 [0, 1, 2, 3, 4, 5, 7, 8, 10, 6, 9, 11, 12, 13, 14] (by kernel_rfl) (by kernel_rfl) (by kernel_rfl) (by simp only [go_sem]; rfl) (by simp only [go_sem]; rfl) (by simp only [go_sem]; rfl) (fun K kp hK hkp => ?_) | refine awp_dr (id := 42) mixed 18 [0, 1, 2, 3, 4, 5, 6, 7, 9, 10, 12, 13, 8, 11, 14, 15, 16, 17] (by kernel_rfl) (by kernel_rfl) (by kernel_rfl) (by simp only [go_sem]; rfl) (by simp only [go_sem]; rfl) (by simp only [go_sem]; rfl) (fun K kp hK hkp => ?_) | refine awp_dr (id := 44) mixed 10 [0, 1, 2, 4, 5, 3, 6, 7, 8, 9] (by kernel_rfl) (by kernel_rfl) (by kernel_rfl) (by simp only [go_sem]; rfl) (by simp only [go_sem]; rfl) (by simp only [go_sem]; rfl) (fun K kp hK hkp => ?_) | ((first | apply callR_i (tc) | apply callD_i (tc) | apply callX_i (tc)); (case hb => (simp (implicitDefEqProofs := false) (maxSteps := 2000000) (disch := omega) only [go_sem, eST, b1, hd, hl, d1, et, eTs, lit_str, str_app, str_size, List.length_append, List.length_cons, List.length_nil]; first | done | rfl)); (case hp => (first | (simp [-List.map_drop, -List.map_take, eST, b1, hd, hl, d1, et, eTs, lit_str, str_app, str_size, List.length_append, List.length_cons, List.length_nil]; done) | exact .ro _ _ (pt_map _ _))); (case hq => (first | (simp [-List.map_drop, -List.map_take]; done) | (intro _ h; simp only [List.mem_singleton] at h; subst h; exact pt_map _ _)))) | ((first | apply callR_i (tt) | apply callD_i (tt) | apply callX_i (tt)); (case hb => (simp (implicitDefEqProofs := false) (maxSteps := 2000000) (disch := omega) only [go_sem, eST, b1, hd, hl, d1, et, eTs, lit_str, str_app, str_size, List.length_append, List.length_cons, List.length_nil]; first | done | rfl)); (case hp => (first | (simp [-List.map_drop, -List.map_take, eST, b1, hd, hl, d1, et, eTs, lit_str, str_app, str_size, List.length_append, List.length_cons, List.length_nil]; done) | exact .ro _ _ (pt_map _ _))); (case hq => (first | (simp [-List.map_drop, -List.map_take]; done) | (intro _ h; simp only [List.mem_singleton] at h; subst h; exact pt_map _ _)))) | ((first | apply callR_i (wcon) | apply callD_i (wcon) | apply callX_i (wcon)); (case hb => (simp (implicitDefEqProofs := false) (maxSteps := 2000000) (disch := omega) only [go_sem, eST, b1, hd, hl, d1, et, eTs, lit_str, str_app, str_size, List.length_append, List.length_cons, List.length_nil]; first | done | rfl)); (case hp => (first | (simp [-List.map_drop, -List.map_take, eST, b1, hd, hl, d1, et, eTs, lit_str, str_app, str_size, List.length_append, List.length_cons, List.length_nil]; done) | exact .ro _ _ (pt_map _ _))); (case hq => (first | (simp [-List.map_drop, -List.map_take]; done) | (intro _ h; simp only [List.mem_singleton] at h; subst h; exact pt_map _ _)))) | ((first | apply callR_i (cc) | apply callD_i (cc) | apply callX_i (cc)); (case hb => (simp (implicitDefEqProofs := false) (maxSteps := 2000000) (disch := omega) only [go_sem, eST, b1, hd, hl, d1, et, eTs, lit_str, str_app, str_size, List.length_append, List.length_cons, List.length_nil]; first | done | rfl)); (case hp => (first | (simp [-List.map_drop, -List.map_take, eST, b1, hd, hl, d1, et, eTs, lit_str, str_app, str_size, List.length_append, List.length_cons, List.length_nil]; done) | exact .ro _ _ (pt_map _ _))); (case hq => (first | (simp [-List.map_drop, -List.map_take]; done) | (intro _ h; simp only [List.mem_singleton] at h; subst h; exact pt_map _ _))))); simp (implicitDefEqProofs := false) (maxSteps := 2000000) (disch := omega) only [go_sem, eST, b1, hd, hl, d1, et, eTs, lit_str, str_app, str_size, List.length_append, List.length_cons, List.length_nil]; (repeat' (first | (refine hK _ ?_; clear hK hkp kp K) | (with_reducible refine And.intro ?_ ?_) | omega))) | ((first | refine goG_ask (fun h => ?_) (fun h => ?_) | refine goGD_ask (fun h => ?_) (fun h => ?_) | refine goGX_ask (fun h => ?_) (fun h => ?_)) <;> (simp (implicitDefEqProofs := false) (maxSteps := 2000000) (disch := omega) only [go_sem, eST, b1, hd, hl, d1, et, eTs, lit_str, str_app, str_size, List.length_append, List.length_cons, List.length_nil, h]; (repeat' (first | (refine hK _ ?_; clear hK hkp kp K) | (with_reducible refine And.intro ?_ ?_) | omega)))) | refine awp_cond_t rfl ?_ | refine awp_cond_f rfl ?_ | ((refine awp_cond rfl (fun h => ?_) (fun h => ?_) <;> try simp only [decide_eq_true_eq, decide_eq_false_iff_not, Int.not_lt, Int.not_le, Bool.not_eq_true, Bool.not_eq_false, bne_iff_ne, ne_eq, beq_iff_eq, bne_eq_false_iff_eq, beq_eq_false_iff_ne] at h) <;> (try (exfalso; omega))) | refine awp_ret ?_))
          all_goals first | (exfalso; omega) | (refine retA_is (by (simp (implicitDefEqProofs := false) (maxSteps := 2000000) (disch := omega) only [go_sem, Go.Proofs.Tryd.results39, eT, wordT, limS, lit_str]); rfl) ?_; refine embS_frz (by simp only [oneA]; simp (implicitDefEqProofs := false) (maxSteps := 2000000) (disch := omega) only [go_sem, List.length_take, List.length_cons, List.length_append, List.length_map, List.length_nil, eT, wordT, limS, lit_str]; rfl) ?_; refine (embV_nil hE (by simp) ?_).s; simp (disch := (first | omega | (simp; omega))) [oneA, ren, renL, List.take_of_length_le, eT, wordT, limS, lit_str])
      · have b1 : (s.ord.toList == (str []).toList) = false := by have := hE'; rw [show (⟨#[]⟩ : ByteArray) = str [] from rfl] at this; rw [this]; simp [ho]
        have hol8 := hoL ho
        rw [if_neg ho] at htB
        cases hd : s.down
        all_goals
          rw [hd] at htB
          simp only [Bool.false_eq_true, if_false, if_true, List.append_nil] at htB
          rw [htB] at tt
          cases hl : decide (s.lim ≥ 0)
          all_goals
            have tk2 := tk2 _ hl
            rw [tk2]
            have b1 : ((str s.ord.toList).toList == (str []).toList) = false := by rw [← eo]; exact b1
            generalize hob : s.ord.toList = ob at *
            (repeat' (first | refine awp_seq ?_ | refine awp_block ?_ | refine awp_skip ?_ | refine awp_exit ?_ | ((first | refine awp_r (by kernel_rfl) (fun K kp hK hkp => ?_) | refine awp_dr (id := 9) mixed 19 [0, 1, 2, 3, 4, 5, 6, 7, 9, 10, 11, 12, 13, 14, 8, 15, 16, 17, 18] (by kernel_rfl) (by kernel_rfl) (by kernel_rfl) (by simp only [go_sem]; rfl) (by simp only [go_sem]; rfl) (by simp only [go_sem]; rfl) (fun K kp hK hkp => ?_) | refine awp_dr (id := 37) mixed 15 [0, 1, 2, 3, 4, 5, 7, 8, 10, 6, 9, 11, 12, 13, 14] (by kernel_rfl) (by kernel_rfl) (by kernel_rfl) (by simp only [go_sem]; rfl) (by simp only [go_sem]; rfl) (by simp only [go_sem]; rfl) (fun K kp hK hkp => ?_) | refine awp_dr (id := 42) mixed 18 [0, 1, 2, 3, 4, 5, 6, 7, 9, 10, 12, 13, 8, 11, 14, 15, 16, 17] (by kernel_rfl) (by kernel_rfl) (by kernel_rfl) (by simp only [go_sem]; rfl) (by simp only [go_sem]; rfl) (by simp only [go_sem]; rfl) (fun K kp hK hkp => ?_) | refine awp_dr (id := 44) mixed 10 [0, 1, 2, 4, 5, 3, 6, 7, 8, 9] (by kernel_rfl) (by kernel_rfl) (by kernel_rfl) (by simp only [go_sem]; rfl) (by simp only [go_sem]; rfl) (by simp only [go_sem]; rfl) (fun K kp hK hkp => ?_) | ((first | apply callR_i (tc) | apply callD_i (tc) | apply callX_i (tc)); (case hb => (simp (implicitDefEqProofs := false) (maxSteps := 2000000) (disch := omega) only [go_sem, eST, b1, hd, hl, d1, et, eo, eTs, lit_str, str_app, str_size, List.length_append, List.length_cons, List.length_nil]; first | done | rfl)); (case hp => (first | (simp [-List.map_drop, -List.map_take, eST, b1, hd, hl, d1, et, eo, eTs, lit_str, str_app, str_size, List.length_append, List.length_cons, List.length_nil]; done) | exact .ro _ _ (pt_map _ _))); (case hq => (first | (simp [-List.map_drop, -List.map_take]; done) | (intro _ h; simp only [List.mem_singleton] at h; subst h; exact pt_map _ _)))) | ((first | apply callR_i (tt) | apply callD_i (tt) | apply callX_i (tt)); (case hb => (simp (implicitDefEqProofs := false) (maxSteps := 2000000) (disch := omega) only [go_sem, eST, b1, hd, hl, d1, et, eo, eTs, lit_str, str_app, str_size, List.length_append, List.length_cons, List.length_nil]; first | done | rfl)); (case hp => (first | (simp [-List.map_drop, -List.map_take, eST, b1, hd, hl, d1, et, eo, eTs, lit_str, str_app, str_size, List.length_append, List.length_cons, List.length_nil]; done) | exact .ro _ _ (pt_map _ _))); (case hq => (first | (simp [-List.map_drop, -List.map_take]; done) | (intro _ h; simp only [List.mem_singleton] at h; subst h; exact pt_map _ _)))) | ((first | apply callR_i (wcon) | apply callD_i (wcon) | apply callX_i (wcon)); (case hb => (simp (implicitDefEqProofs := false) (maxSteps := 2000000) (disch := omega) only [go_sem, eST, b1, hd, hl, d1, et, eo, eTs, lit_str, str_app, str_size, List.length_append, List.length_cons, List.length_nil]; first | done | rfl)); (case hp => (first | (simp [-List.map_drop, -List.map_take, eST, b1, hd, hl, d1, et, eo, eTs, lit_str, str_app, str_size, List.length_append, List.length_cons, List.length_nil]; done) | exact .ro _ _ (pt_map _ _))); (case hq => (first | (simp [-List.map_drop, -List.map_take]; done) | (intro _ h; simp only [List.mem_singleton] at h; subst h; exact pt_map _ _)))) | ((first | apply callR_i (cc) | apply callD_i (cc) | apply callX_i (cc)); (case hb => (simp (implicitDefEqProofs := false) (maxSteps := 2000000) (disch := omega) only [go_sem, eST, b1, hd, hl, d1, et, eo, eTs, lit_str, str_app, str_size, List.length_append, List.length_cons, List.length_nil]; first | done | rfl)); (case hp => (first | (simp [-List.map_drop, -List.map_take, eST, b1, hd, hl, d1, et, eo, eTs, lit_str, str_app, str_size, List.length_append, List.length_cons, List.length_nil]; done) | exact .ro _ _ (pt_map _ _))); (case hq => (first | (simp [-List.map_drop, -List.map_take]; done) | (intro _ h; simp only [List.mem_singleton] at h; subst h; exact pt_map _ _))))); simp (implicitDefEqProofs := false) (maxSteps := 2000000) (disch := omega) only [go_sem, eST, b1, hd, hl, d1, et, eo, eTs, lit_str, str_app, str_size, List.length_append, List.length_cons, List.length_nil]; (repeat' (first | (refine hK _ ?_; clear hK hkp kp K) | (with_reducible refine And.intro ?_ ?_) | omega))) | ((first | refine goG_ask (fun h => ?_) (fun h => ?_) | refine goGD_ask (fun h => ?_) (fun h => ?_) | refine goGX_ask (fun h => ?_) (fun h => ?_)) <;> (simp (implicitDefEqProofs := false) (maxSteps := 2000000) (disch := omega) only [go_sem, eST, b1, hd, hl, d1, et, eo, eTs, lit_str, str_app, str_size, List.length_append, List.length_cons, List.length_nil, h]; (repeat' (first | (refine hK _ ?_; clear hK hkp kp K) | (with_reducible refine And.intro ?_ ?_) | omega)))) | refine awp_cond_t rfl ?_ | refine awp_cond_f rfl ?_ | ((refine awp_cond rfl (fun h => ?_) (fun h => ?_) <;> try simp only [decide_eq_true_eq, decide_eq_false_iff_not, Int.not_lt, Int.not_le, Bool.not_eq_true, Bool.not_eq_false, bne_iff_ne, ne_eq, beq_iff_eq, bne_eq_false_iff_eq, beq_eq_false_iff_ne] at h) <;> (try (exfalso; omega))) | refine awp_ret ?_))
            all_goals first | (exfalso; omega) | (refine retA_is (by (simp (implicitDefEqProofs := false) (maxSteps := 2000000) (disch := omega) only [go_sem, Go.Proofs.Tryd.results39, eT, wordT, limS, lit_str]); rfl) ?_; refine embS_frz (by simp only [oneA]; simp (implicitDefEqProofs := false) (maxSteps := 2000000) (disch := omega) only [go_sem, List.length_take, List.length_cons, List.length_append, List.length_map, List.length_nil, eT, wordT, limS, lit_str]; rfl) ?_; refine (embV_nil hE (by simp) ?_).s; simp (disch := (first | omega | (simp; omega))) [oneA, ren, renL, List.take_of_length_le, eT, wordT, limS, lit_str])
end Go.AM
