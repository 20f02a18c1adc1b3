/- Texts of the law ParseChecks, part 3: lemmas; what is proved stands in the last text. -/
import Derived.Test.YtoecmmpjndcolaaDoorZz2
import Derived.Test.YtoecmmpjndcolaaDoorCards
import Derived.Test.YtoecmmpjndcolaaDoorTie
import Derived.WalkKit
import Derived.ProofKit
import Derived.OpenShut
import Derived.ShutString
import Derived.ChangeOld
import Derived.Below
import Derived.Lib.SmallJoins
import Derived.Deep.DeepHandedRow
import Derived.Lib.LaidTab
import Derived.Test.YtoecmmpjndcolaaDoorZz1
import Derived.Deep.Strs
set_option linter.unusedSimpArgs false
set_option linter.unusedVariables false
/- Statements: the program's columns, tokens and lists. -/
namespace Go.AM
open Go Go.RowKit
open Go.Proofs.YtoecmmpjndcolaaDoor (OP nameM litM exprM marksS wordsS StrsAt str)
attribute [local irreducible] AWP retA
def idxM {α : Type} (p : α → Bool) : List α → Nat → Int
  | [], _ => -1
  | x :: r, k => if p x = true then (k : Int) else idxM p r (k + 1)
theorem idxM_any {α : Type} (p : α → Bool) : ∀ (l : List α) (k : Nat), decide (idxM p l k ≥ 0) = l.any p
  | [], k => by simp [idxM]
  | x :: r, k => by
    unfold idxM
    by_cases e : p x = true
    · simp [e]
    · rw [if_neg e, idxM_any p r (k + 1)]; simp [e]
set_option maxRecDepth 100000 in
theorem indexFuncC_con (G : List (Nat × List Value)) (t : Bool) (l : List CO) (g : Nat) (caps : List AV) (p : CO → Bool) (hl : l.length ≤ 1048576) (hcap : ∀ st, borL st caps = some caps) (hren : ∀ f, renL f caps = caps) (hf : ∀ G x, Con Go.Proofs.Tryd.prog G g (.agg (eC x) :: caps) [] 0 (Is (.r (.bool (p x))) [] 0) No) :
    Con Go.Proofs.Tryd.prog G 125 [.ro t 2 (l.map eC), .fn g caps] [] 0 (Is (.r (.int .i64 (idxM p l 0))) [] 0) No := by
  refine con_of_awp Go.Proofs.Tryd.func125 rfl (by kernel_rfl) (of_decide_eq_true (by kernel_rfl)) ?_; intro E hG hE; subst hG; simp only [ent]
  (repeat' (first | refine awp_seq ?_ | refine awp_block ?_ | refine awp_skip ?_ | refine awp_exit ?_ | ((first | refine awp_r (by kernel_rfl) (fun K kp hK hkp => ?_)); simp (implicitDefEqProofs := false) (maxSteps := 2000000) (disch := omega) only [go_sem]; (repeat' (first | (refine hK _ ?_; clear hK hkp kp K) | (with_reducible refine And.intro ?_ ?_) | omega))) | ((first | refine goG_ask (fun h => ?_) (fun h => ?_) | refine goGD_ask (fun h => ?_) (fun h => ?_) | refine goGX_ask (fun h => ?_) (fun h => ?_)) <;> (simp (implicitDefEqProofs := false) (maxSteps := 2000000) (disch := omega) only [go_sem, h]; (repeat' (first | (refine hK _ ?_; clear hK hkp kp K) | (with_reducible refine And.intro ?_ ?_) | omega)))) | refine awp_cond_t rfl ?_ | refine awp_cond_f rfl ?_ | ((refine awp_cond rfl (fun h => ?_) (fun h => ?_) <;> try simp only [decide_eq_true_eq, decide_eq_false_iff_not, Int.not_lt, Int.not_le, Bool.not_eq_true, Bool.not_eq_false, bne_iff_ne, ne_eq, beq_iff_eq, bne_eq_false_iff_eq, beq_eq_false_iff_ne] at h) <;> (try (exfalso; omega))) | refine awp_ret ?_))
  refine awp_loop (fun k : Nat => ⟨[(8, .r (.int .i64 k)), (7, .r (.int .i64 l.length)), (0, .ro t 2 (l.map eC)), (1, .fn g caps)], [], 0⟩) (fun k => k ≤ l.length ∧ idxM p (l.drop k) k = idxM p l 0) (fun k => l.length - k) 0 ?_ ?_ ?_
  · simp
  · (refine emb [] ?_ ?_ rfl ?_ ?_ ?_ ?_ <;> simp [okM, okO, lk, ren, renL, renNd, by_, hE, hren] <;> (try omega))
  intro k ⟨hk, hno⟩
  by_cases hk' : k < l.length
  · obtain ⟨x, hx⟩ : ∃ x, l[k]? = some x := ⟨l[k], by simp [hk']⟩
    have hd := drop_at hx
    rw [hd, idxM] at hno
    have hfx := hf E.G x
    simp only [eC] at hfx
    (repeat' (first | refine awp_seq ?_ | refine awp_block ?_ | refine awp_skip ?_ | refine awp_exit ?_ | ((first | refine awp_r (by kernel_rfl) (fun K kp hK hkp => ?_) | ((first | apply callR_i (hfx) | apply callD_i (hfx) | apply callX_i (hfx)); (case hb => (simp (implicitDefEqProofs := false) (maxSteps := 2000000) (disch := omega) only [go_sem, hx, eC, hcap]; first | done | rfl)); (case hp => (first | (simp [-List.map_drop, -List.map_take, hx, eC, hcap]; done) | exact .ro _ _ (pt_map _ _))); (case hq => (first | (simp [-List.map_drop, -List.map_take]; done) | (intro _ h; simp only [List.mem_singleton] at h; subst h; exact pt_map _ _))))); simp (implicitDefEqProofs := false) (maxSteps := 2000000) (disch := omega) only [go_sem, hx, eC, hcap]; (repeat' (first | (refine hK _ ?_; clear hK hkp kp K) | (with_reducible refine And.intro ?_ ?_) | omega))) | ((first | refine goG_ask (fun h => ?_) (fun h => ?_) | refine goGD_ask (fun h => ?_) (fun h => ?_) | refine goGX_ask (fun h => ?_) (fun h => ?_)) <;> (simp (implicitDefEqProofs := false) (maxSteps := 2000000) (disch := omega) only [go_sem, hx, eC, hcap, h]; (repeat' (first | (refine hK _ ?_; clear hK hkp kp K) | (with_reducible refine And.intro ?_ ?_) | omega)))) | refine awp_cond_t rfl ?_ | refine awp_cond_f rfl ?_ | ((refine awp_cond rfl (fun h => ?_) (fun h => ?_) <;> try simp only [decide_eq_true_eq, decide_eq_false_iff_not, Int.not_lt, Int.not_le, Bool.not_eq_true, Bool.not_eq_false, bne_iff_ne, ne_eq, beq_iff_eq, bne_eq_false_iff_eq, beq_eq_false_iff_ne] at h) <;> (try (exfalso; omega))) | refine awp_ret ?_))
    · (refine retA_is (by (simp (implicitDefEqProofs := false) (maxSteps := 2000000) (disch := omega) only [go_sem, Go.Proofs.Tryd.results125]); rfl) ?_; refine (embV_nil hE (by simp) ?_).s; simp [oneA, ren, renL])
      rw [← hno, if_pos h]
    · ((first | (refine nextB (k + 1) ?_ ?_ ?_) | (refine nextA (k + 1) ?_ ?_ ?_)); rotate_left; (· (try dsimp only); (first | omega | (simp only [List.length_drop, List.length_cons, List.length_append]; omega) | (simp; done) | (simp; omega))); (· (refine emb [] ?_ ?_ rfl ?_ ?_ ?_ ?_ <;> simp [okM, okO, lk, ren, renL, renNd, by_, hE, hren] <;> (try omega))))
      exact ⟨by omega, by rw [← hno, if_neg (by simp [h])]⟩
  · (repeat' (first | refine awp_seq ?_ | refine awp_block ?_ | refine awp_skip ?_ | refine awp_exit ?_ | ((first | refine awp_r (by kernel_rfl) (fun K kp hK hkp => ?_)); simp (implicitDefEqProofs := false) (maxSteps := 2000000) (disch := omega) only [go_sem]; (repeat' (first | (refine hK _ ?_; clear hK hkp kp K) | (with_reducible refine And.intro ?_ ?_) | omega))) | ((first | refine goG_ask (fun h => ?_) (fun h => ?_) | refine goGD_ask (fun h => ?_) (fun h => ?_) | refine goGX_ask (fun h => ?_) (fun h => ?_)) <;> (simp (implicitDefEqProofs := false) (maxSteps := 2000000) (disch := omega) only [go_sem, h]; (repeat' (first | (refine hK _ ?_; clear hK hkp kp K) | (with_reducible refine And.intro ?_ ?_) | omega)))) | refine awp_cond_t rfl ?_ | refine awp_cond_f rfl ?_ | ((refine awp_cond rfl (fun h => ?_) (fun h => ?_) <;> try simp only [decide_eq_true_eq, decide_eq_false_iff_not, Int.not_lt, Int.not_le, Bool.not_eq_true, Bool.not_eq_false, bne_iff_ne, ne_eq, beq_iff_eq, bne_eq_false_iff_eq, beq_eq_false_iff_ne] at h) <;> (try (exfalso; omega))) | refine awp_ret ?_))
    (refine retA_is (by (simp (implicitDefEqProofs := false) (maxSteps := 2000000) (disch := omega) only [go_sem, Go.Proofs.Tryd.results125]); rfl) ?_; refine (embV_nil hE (by simp) ?_).s; simp [oneA, ren, renL])
    rw [← hno, List.drop_of_length_le (by omega)]; rfl
set_option maxRecDepth 100000 in
theorem containsFuncC_con (G : List (Nat × List Value)) (t : Bool) (l : List CO) (g : Nat) (caps : List AV) (p : CO → Bool) (hl : l.length ≤ 1048576) (hcap : ∀ st, borL st caps = some caps) (hren : ∀ f, renL f caps = caps) (hf : ∀ G x, Con Go.Proofs.Tryd.prog G g (.agg (eC x) :: caps) [] 0 (Is (.r (.bool (p x))) [] 0) No) :
    Con Go.Proofs.Tryd.prog G 110 [.ro t 2 (l.map eC), .fn g caps] [] 0 (Is (.r (.bool (l.any p))) [] 0) No := by
  refine con_of_awp Go.Proofs.Tryd.func110 rfl (by kernel_rfl) (of_decide_eq_true (by kernel_rfl)) ?_; intro E hG hE; subst hG; simp only [ent]
  have hi := indexFuncC_con E.G t l g caps p hl hcap hren hf
  (repeat' (first | refine awp_seq ?_ | refine awp_block ?_ | refine awp_skip ?_ | refine awp_exit ?_ | ((first | refine awp_r (by kernel_rfl) (fun K kp hK hkp => ?_) | ((first | apply callR_i (hi) | apply callD_i (hi) | apply callX_i (hi)); (case hb => (simp (implicitDefEqProofs := false) (maxSteps := 2000000) (disch := omega) only [go_sem, hcap]; first | done | rfl)); (case hp => (first | (simp [-List.map_drop, -List.map_take, hcap]; done) | exact .ro _ _ (pt_map _ _))); (case hq => (first | (simp [-List.map_drop, -List.map_take]; done) | (intro _ h; simp only [List.mem_singleton] at h; subst h; exact pt_map _ _))))); simp (implicitDefEqProofs := false) (maxSteps := 2000000) (disch := omega) only [go_sem, hcap]; (repeat' (first | (refine hK _ ?_; clear hK hkp kp K) | (with_reducible refine And.intro ?_ ?_) | omega))) | ((first | refine goG_ask (fun h => ?_) (fun h => ?_) | refine goGD_ask (fun h => ?_) (fun h => ?_) | refine goGX_ask (fun h => ?_) (fun h => ?_)) <;> (simp (implicitDefEqProofs := false) (maxSteps := 2000000) (disch := omega) only [go_sem, hcap, h]; (repeat' (first | (refine hK _ ?_; clear hK hkp kp K) | (with_reducible refine And.intro ?_ ?_) | omega)))) | refine awp_cond_t rfl ?_ | refine awp_cond_f rfl ?_ | ((refine awp_cond rfl (fun h => ?_) (fun h => ?_) <;> try simp only [decide_eq_true_eq, decide_eq_false_iff_not, Int.not_lt, Int.not_le, Bool.not_eq_true, Bool.not_eq_false, bne_iff_ne, ne_eq, beq_iff_eq, bne_eq_false_iff_eq, beq_eq_false_iff_ne] at h) <;> (try (exfalso; omega))) | refine awp_ret ?_))
  (refine retA_is (by (simp (implicitDefEqProofs := false) (maxSteps := 2000000) (disch := omega) only [go_sem, Go.Proofs.Tryd.results110]); rfl) ?_; refine (embV_nil hE (by simp) ?_).s; simp [oneA, ren, renL])
  exact idxM_any p l 0
def sameN (c x : CO) : Bool := x.nm.toList == c.nm.toList
set_option maxRecDepth 100000 in
theorem cols1_con (u : Bool) (c : CO) (G : List (Nat × List Value)) (x : CO) : Con Go.Proofs.Tryd.prog G 111 [.agg (eC x), .re u (eC c) 0] [] 0 (Is (.r (.bool (sameN c x))) [] 0) No := by
  refine con_of_awp Go.Proofs.Tryd.func111 rfl (by kernel_rfl) (of_decide_eq_true (by kernel_rfl)) ?_; intro E hG hE; subst hG; simp only [ent]
  (repeat' (first | refine awp_seq ?_ | refine awp_block ?_ | refine awp_skip ?_ | refine awp_exit ?_ | ((first | refine awp_r (by kernel_rfl) (fun K kp hK hkp => ?_)); simp (implicitDefEqProofs := false) (maxSteps := 2000000) (disch := omega) only [go_sem, eC]; (repeat' (first | (refine hK _ ?_; clear hK hkp kp K) | (with_reducible refine And.intro ?_ ?_) | omega))) | ((first | refine goG_ask (fun h => ?_) (fun h => ?_) | refine goGD_ask (fun h => ?_) (fun h => ?_) | refine goGX_ask (fun h => ?_) (fun h => ?_)) <;> (simp (implicitDefEqProofs := false) (maxSteps := 2000000) (disch := omega) only [go_sem, eC, h]; (repeat' (first | (refine hK _ ?_; clear hK hkp kp K) | (with_reducible refine And.intro ?_ ?_) | omega)))) | refine awp_cond_t rfl ?_ | refine awp_cond_f rfl ?_ | ((refine awp_cond rfl (fun h => ?_) (fun h => ?_) <;> try simp only [decide_eq_true_eq, decide_eq_false_iff_not, Int.not_lt, Int.not_le, Bool.not_eq_true, Bool.not_eq_false, bne_iff_ne, ne_eq, beq_iff_eq, bne_eq_false_iff_eq, beq_eq_false_iff_ne] at h) <;> (try (exfalso; omega))) | refine awp_ret ?_))
  (refine retA_is (by (simp (implicitDefEqProofs := false) (maxSteps := 2000000) (disch := omega) only [go_sem, Go.Proofs.Tryd.results111, sameN]); rfl) ?_; refine (embV_nil hE (by simp) ?_).s; simp [oneA, ren, renL, sameN])
theorem colsFrom_step {l : List CO} {k : Nat} {c : CO} (h : l[k]? = some c) : colsFrom (l.take k) (l.drop k) = if nameM c.nm ≠ 0 then nameM c.nm else if c.k < 1 ∨ 3 < c.k then 2 else if (l.take k).any (sameN c) then 9 else colsFrom (l.take (k + 1)) (l.drop (k + 1)) := by
  rw [drop_at h, colsFrom, List.take_add_one, h]; rfl
set_option maxRecDepth 100000 in
set_option maxHeartbeats 4000000 in
theorem cols_con {G : List (Nat × List Value)} (T : Tabs G) (t : Bool) (l : List CO) (hl : l.length ≤ 1048576) (hs : ∀ c ∈ l, okS c.nm) : Con Go.Proofs.Tryd.prog G 59 [.ro t 2 (l.map eC)] [] 0 (Is (.r (.int .i64 (colsM l))) [] 0) No := by
  refine con_of_awp Go.Proofs.Tryd.func59 rfl (by kernel_rfl) (of_decide_eq_true (by kernel_rfl)) ?_; intro E hG hE; subst hG; simp only [ent]
  by_cases h1 : l.length < 1
  · have d1 : decide ((l.length : Int) < 1) = true := decide_eq_true (by omega)
    (repeat' (first | refine awp_seq ?_ | refine awp_block ?_ | refine awp_skip ?_ | refine awp_exit ?_ | ((first | refine awp_r (by kernel_rfl) (fun K kp hK hkp => ?_)); simp (implicitDefEqProofs := false) (maxSteps := 2000000) (disch := omega) only [go_sem, d1]; (repeat' (first | (refine hK _ ?_; clear hK hkp kp K) | (with_reducible refine And.intro ?_ ?_) | omega))) | ((first | refine goG_ask (fun h => ?_) (fun h => ?_) | refine goGD_ask (fun h => ?_) (fun h => ?_) | refine goGX_ask (fun h => ?_) (fun h => ?_)) <;> (simp (implicitDefEqProofs := false) (maxSteps := 2000000) (disch := omega) only [go_sem, d1, h]; (repeat' (first | (refine hK _ ?_; clear hK hkp kp K) | (with_reducible refine And.intro ?_ ?_) | omega)))) | refine awp_cond_t rfl ?_ | refine awp_cond_f rfl ?_ | ((refine awp_cond rfl (fun h => ?_) (fun h => ?_) <;> try simp only [decide_eq_true_eq, decide_eq_false_iff_not, Int.not_lt, Int.not_le, Bool.not_eq_true, Bool.not_eq_false, bne_iff_ne, ne_eq, beq_iff_eq, bne_eq_false_iff_eq, beq_eq_false_iff_ne] at h) <;> (try (exfalso; omega))) | refine awp_ret ?_))
    (refine retA_is (by (simp (implicitDefEqProofs := false) (maxSteps := 2000000) (disch := omega) only [go_sem, Go.Proofs.Tryd.results59, colsM, h1]); rfl) ?_; refine (embV_nil hE (by simp) ?_).s; simp [oneA, ren, renL, colsM, h1])
  have d1 : decide ((l.length : Int) < 1) = false := decide_eq_false (by omega)
  by_cases h6 : 6 < l.length
  · have d2 : decide ((l.length : Int) > 6) = true := decide_eq_true (by omega)
    (repeat' (first | refine awp_seq ?_ | refine awp_block ?_ | refine awp_skip ?_ | refine awp_exit ?_ | ((first | refine awp_r (by kernel_rfl) (fun K kp hK hkp => ?_)); simp (implicitDefEqProofs := false) (maxSteps := 2000000) (disch := omega) only [go_sem, d1, d2]; (repeat' (first | (refine hK _ ?_; clear hK hkp kp K) | (with_reducible refine And.intro ?_ ?_) | omega))) | ((first | refine goG_ask (fun h => ?_) (fun h => ?_) | refine goGD_ask (fun h => ?_) (fun h => ?_) | refine goGX_ask (fun h => ?_) (fun h => ?_)) <;> (simp (implicitDefEqProofs := false) (maxSteps := 2000000) (disch := omega) only [go_sem, d1, d2, h]; (repeat' (first | (refine hK _ ?_; clear hK hkp kp K) | (with_reducible refine And.intro ?_ ?_) | omega)))) | refine awp_cond_t rfl ?_ | refine awp_cond_f rfl ?_ | ((refine awp_cond rfl (fun h => ?_) (fun h => ?_) <;> try simp only [decide_eq_true_eq, decide_eq_false_iff_not, Int.not_lt, Int.not_le, Bool.not_eq_true, Bool.not_eq_false, bne_iff_ne, ne_eq, beq_iff_eq, bne_eq_false_iff_eq, beq_eq_false_iff_ne] at h) <;> (try (exfalso; omega))) | refine awp_ret ?_))
    (refine retA_is (by (simp (implicitDefEqProofs := false) (maxSteps := 2000000) (disch := omega) only [go_sem, Go.Proofs.Tryd.results59, colsM, h6]); rfl) ?_; refine (embV_nil hE (by simp) ?_).s; simp [oneA, ren, renL, colsM, h6])
  have d2 : decide ((l.length : Int) > 6) = false := decide_eq_false (by omega)
  have hM : colsM l = colsFrom [] l := by rw [colsM, if_neg (by omega)]
  rw [hM]
  (repeat' (first | refine awp_seq ?_ | refine awp_block ?_ | refine awp_skip ?_ | refine awp_exit ?_ | ((first | refine awp_r (by kernel_rfl) (fun K kp hK hkp => ?_)); simp (implicitDefEqProofs := false) (maxSteps := 2000000) (disch := omega) only [go_sem, d1, d2]; (repeat' (first | (refine hK _ ?_; clear hK hkp kp K) | (with_reducible refine And.intro ?_ ?_) | omega))) | ((first | refine goG_ask (fun h => ?_) (fun h => ?_) | refine goGD_ask (fun h => ?_) (fun h => ?_) | refine goGX_ask (fun h => ?_) (fun h => ?_)) <;> (simp (implicitDefEqProofs := false) (maxSteps := 2000000) (disch := omega) only [go_sem, d1, d2, h]; (repeat' (first | (refine hK _ ?_; clear hK hkp kp K) | (with_reducible refine And.intro ?_ ?_) | omega)))) | refine awp_cond_t rfl ?_ | refine awp_cond_f rfl ?_ | ((refine awp_cond rfl (fun h => ?_) (fun h => ?_) <;> try simp only [decide_eq_true_eq, decide_eq_false_iff_not, Int.not_lt, Int.not_le, Bool.not_eq_true, Bool.not_eq_false, bne_iff_ne, ne_eq, beq_iff_eq, bne_eq_false_iff_eq, beq_eq_false_iff_ne] at h) <;> (try (exfalso; omega))) | refine awp_ret ?_))
  refine awp_loop (fun k : Nat => ⟨[(16, .r (.int .i64 k)), (15, .r (.int .i64 l.length)), (14, .ro t 2 (l.map eC)), (0, .ro t 2 (l.map eC))], [], 0⟩) (fun k => k ≤ l.length ∧ colsFrom (l.take k) (l.drop k) = colsFrom [] l) (fun k => l.length - k) 0 ?_ ?_ ?_
  · simp
  · (refine emb [] ?_ ?_ rfl ?_ ?_ ?_ ?_ <;> simp [okM, okO, lk, ren, renL, renNd, by_, hE] <;> (try omega))
  intro k ⟨hk, hno⟩
  by_cases hk' : k < l.length
  · obtain ⟨c, hx⟩ : ∃ x, l[k]? = some x := ⟨l[k], by simp [hk']⟩
    rw [colsFrom_step hx] at hno
    have hc : okS c.nm := hs c (List.mem_of_getElem? hx)
    by_cases hn : nameM c.nm = 0
    · rw [if_neg (by simpa using hn)] at hno
      have hnc := name_con T c.nm hc
      rw [hn] at hnc
      by_cases hk1 : c.k < 1
      · have d3 : decide (c.k < 1) = true := decide_eq_true hk1
        (repeat' (first | refine awp_seq ?_ | refine awp_block ?_ | refine awp_skip ?_ | refine awp_exit ?_ | ((first | refine awp_r (by kernel_rfl) (fun K kp hK hkp => ?_) | ((first | apply callR_i (hnc) | apply callD_i (hnc) | apply callX_i (hnc)); (case hb => (simp (implicitDefEqProofs := false) (maxSteps := 2000000) (disch := omega) only [go_sem, hx, eC, d3]; first | done | rfl)); (case hp => (first | (simp [-List.map_drop, -List.map_take, hx, eC, d3]; done) | exact .ro _ _ (pt_map _ _))); (case hq => (first | (simp [-List.map_drop, -List.map_take]; done) | (intro _ h; simp only [List.mem_singleton] at h; subst h; exact pt_map _ _))))); simp (implicitDefEqProofs := false) (maxSteps := 2000000) (disch := omega) only [go_sem, hx, eC, d3]; (repeat' (first | (refine hK _ ?_; clear hK hkp kp K) | (with_reducible refine And.intro ?_ ?_) | omega))) | ((first | refine goG_ask (fun h => ?_) (fun h => ?_) | refine goGD_ask (fun h => ?_) (fun h => ?_) | refine goGX_ask (fun h => ?_) (fun h => ?_)) <;> (simp (implicitDefEqProofs := false) (maxSteps := 2000000) (disch := omega) only [go_sem, hx, eC, d3, h]; (repeat' (first | (refine hK _ ?_; clear hK hkp kp K) | (with_reducible refine And.intro ?_ ?_) | omega)))) | refine awp_cond_t rfl ?_ | refine awp_cond_f rfl ?_ | ((refine awp_cond rfl (fun h => ?_) (fun h => ?_) <;> try simp only [decide_eq_true_eq, decide_eq_false_iff_not, Int.not_lt, Int.not_le, Bool.not_eq_true, Bool.not_eq_false, bne_iff_ne, ne_eq, beq_iff_eq, bne_eq_false_iff_eq, beq_eq_false_iff_ne] at h) <;> (try (exfalso; omega))) | refine awp_ret ?_))
        (refine retA_is (by (simp (implicitDefEqProofs := false) (maxSteps := 2000000) (disch := omega) only [go_sem, Go.Proofs.Tryd.results59]); rfl) ?_; refine (embV_nil hE (by simp) ?_).s; simp [oneA, ren, renL])
        rw [← hno, if_pos (.inl hk1)]
      have d3 : decide (c.k < 1) = false := decide_eq_false hk1
      by_cases hk3 : c.k > 3
      · have d4 : decide (c.k > 3) = true := decide_eq_true hk3
        (repeat' (first | refine awp_seq ?_ | refine awp_block ?_ | refine awp_skip ?_ | refine awp_exit ?_ | ((first | refine awp_r (by kernel_rfl) (fun K kp hK hkp => ?_) | ((first | apply callR_i (hnc) | apply callD_i (hnc) | apply callX_i (hnc)); (case hb => (simp (implicitDefEqProofs := false) (maxSteps := 2000000) (disch := omega) only [go_sem, hx, eC, d3, d4]; first | done | rfl)); (case hp => (first | (simp [-List.map_drop, -List.map_take, hx, eC, d3, d4]; done) | exact .ro _ _ (pt_map _ _))); (case hq => (first | (simp [-List.map_drop, -List.map_take]; done) | (intro _ h; simp only [List.mem_singleton] at h; subst h; exact pt_map _ _))))); simp (implicitDefEqProofs := false) (maxSteps := 2000000) (disch := omega) only [go_sem, hx, eC, d3, d4]; (repeat' (first | (refine hK _ ?_; clear hK hkp kp K) | (with_reducible refine And.intro ?_ ?_) | omega))) | ((first | refine goG_ask (fun h => ?_) (fun h => ?_) | refine goGD_ask (fun h => ?_) (fun h => ?_) | refine goGX_ask (fun h => ?_) (fun h => ?_)) <;> (simp (implicitDefEqProofs := false) (maxSteps := 2000000) (disch := omega) only [go_sem, hx, eC, d3, d4, h]; (repeat' (first | (refine hK _ ?_; clear hK hkp kp K) | (with_reducible refine And.intro ?_ ?_) | omega)))) | refine awp_cond_t rfl ?_ | refine awp_cond_f rfl ?_ | ((refine awp_cond rfl (fun h => ?_) (fun h => ?_) <;> try simp only [decide_eq_true_eq, decide_eq_false_iff_not, Int.not_lt, Int.not_le, Bool.not_eq_true, Bool.not_eq_false, bne_iff_ne, ne_eq, beq_iff_eq, bne_eq_false_iff_eq, beq_eq_false_iff_ne] at h) <;> (try (exfalso; omega))) | refine awp_ret ?_))
        (refine retA_is (by (simp (implicitDefEqProofs := false) (maxSteps := 2000000) (disch := omega) only [go_sem, Go.Proofs.Tryd.results59]); rfl) ?_; refine (embV_nil hE (by simp) ?_).s; simp [oneA, ren, renL])
        rw [← hno, if_pos (.inr hk3)]
      have d4 : decide (c.k > 3) = false := decide_eq_false hk3
      rw [if_neg (by omega)] at hno
      have hcf := containsFuncC_con E.G t (l.take k) 111 [.re false [.r (.string c.nm), .r (.int .i64 c.k)] 0] (sameN c) (by simp; omega) (by simp [borL, bor]) (by simp [renL, ren]) (fun G x => cols1_con false c G x)
      (repeat' (first | refine awp_seq ?_ | refine awp_block ?_ | refine awp_skip ?_ | refine awp_exit ?_ | ((first | refine awp_r (by kernel_rfl) (fun K kp hK hkp => ?_) | ((first | apply callR_i (hnc) | apply callD_i (hnc) | apply callX_i (hnc)); (case hb => (simp (implicitDefEqProofs := false) (maxSteps := 2000000) (disch := omega) only [go_sem, hx, eC, d3, d4, List.map_take]; first | done | rfl)); (case hp => (first | (simp [-List.map_drop, -List.map_take, hx, eC, d3, d4, List.map_take]; done) | exact .ro _ _ (pt_map _ _))); (case hq => (first | (simp [-List.map_drop, -List.map_take]; done) | (intro _ h; simp only [List.mem_singleton] at h; subst h; exact pt_map _ _)))) | ((first | apply callR_i (hcf) | apply callD_i (hcf) | apply callX_i (hcf)); (case hb => (simp (implicitDefEqProofs := false) (maxSteps := 2000000) (disch := omega) only [go_sem, hx, eC, d3, d4, List.map_take]; first | done | rfl)); (case hp => (first | (simp [-List.map_drop, -List.map_take, hx, eC, d3, d4, List.map_take]; done) | exact .ro _ _ (pt_map _ _))); (case hq => (first | (simp [-List.map_drop, -List.map_take]; done) | (intro _ h; simp only [List.mem_singleton] at h; subst h; exact pt_map _ _))))); simp (implicitDefEqProofs := false) (maxSteps := 2000000) (disch := omega) only [go_sem, hx, eC, d3, d4, List.map_take]; (repeat' (first | (refine hK _ ?_; clear hK hkp kp K) | (with_reducible refine And.intro ?_ ?_) | omega))) | ((first | refine goG_ask (fun h => ?_) (fun h => ?_) | refine goGD_ask (fun h => ?_) (fun h => ?_) | refine goGX_ask (fun h => ?_) (fun h => ?_)) <;> (simp (implicitDefEqProofs := false) (maxSteps := 2000000) (disch := omega) only [go_sem, hx, eC, d3, d4, List.map_take, h]; (repeat' (first | (refine hK _ ?_; clear hK hkp kp K) | (with_reducible refine And.intro ?_ ?_) | omega)))) | refine awp_cond_t rfl ?_ | refine awp_cond_f rfl ?_ | ((refine awp_cond rfl (fun h => ?_) (fun h => ?_) <;> try simp only [decide_eq_true_eq, decide_eq_false_iff_not, Int.not_lt, Int.not_le, Bool.not_eq_true, Bool.not_eq_false, bne_iff_ne, ne_eq, beq_iff_eq, bne_eq_false_iff_eq, beq_eq_false_iff_ne] at h) <;> (try (exfalso; omega))) | refine awp_ret ?_))
      · (refine retA_is (by (simp (implicitDefEqProofs := false) (maxSteps := 2000000) (disch := omega) only [go_sem, Go.Proofs.Tryd.results59]); rfl) ?_; refine (embV_nil hE (by simp) ?_).s; simp [oneA, ren, renL])
        rw [← hno, if_pos h]
      · ((first | (refine nextB (k + 1) ?_ ?_ ?_) | (refine nextA (k + 1) ?_ ?_ ?_)); rotate_left; (· (try dsimp only); (first | omega | (simp only [List.length_drop, List.length_cons, List.length_append]; omega) | (simp; done) | (simp; omega))); (· (refine emb [] ?_ ?_ rfl ?_ ?_ ?_ ?_ <;> simp [okM, okO, lk, ren, renL, renNd, by_, hE] <;> (try omega))))
        exact ⟨by omega, by rw [← hno, if_neg (by simp [h])]⟩
    · have hb : (nameM c.nm != 0) = true := by simpa using hn
      rw [if_pos hn] at hno
      (repeat' (first | refine awp_seq ?_ | refine awp_block ?_ | refine awp_skip ?_ | refine awp_exit ?_ | ((first | refine awp_r (by kernel_rfl) (fun K kp hK hkp => ?_) | ((first | apply callR_i (name_con T c.nm hc) | apply callD_i (name_con T c.nm hc) | apply callX_i (name_con T c.nm hc)); (case hb => (simp (implicitDefEqProofs := false) (maxSteps := 2000000) (disch := omega) only [go_sem, hx, eC, hb]; first | done | rfl)); (case hp => (first | (simp [-List.map_drop, -List.map_take, hx, eC, hb]; done) | exact .ro _ _ (pt_map _ _))); (case hq => (first | (simp [-List.map_drop, -List.map_take]; done) | (intro _ h; simp only [List.mem_singleton] at h; subst h; exact pt_map _ _))))); simp (implicitDefEqProofs := false) (maxSteps := 2000000) (disch := omega) only [go_sem, hx, eC, hb]; (repeat' (first | (refine hK _ ?_; clear hK hkp kp K) | (with_reducible refine And.intro ?_ ?_) | omega))) | ((first | refine goG_ask (fun h => ?_) (fun h => ?_) | refine goGD_ask (fun h => ?_) (fun h => ?_) | refine goGX_ask (fun h => ?_) (fun h => ?_)) <;> (simp (implicitDefEqProofs := false) (maxSteps := 2000000) (disch := omega) only [go_sem, hx, eC, hb, h]; (repeat' (first | (refine hK _ ?_; clear hK hkp kp K) | (with_reducible refine And.intro ?_ ?_) | omega)))) | refine awp_cond_t rfl ?_ | refine awp_cond_f rfl ?_ | ((refine awp_cond rfl (fun h => ?_) (fun h => ?_) <;> try simp only [decide_eq_true_eq, decide_eq_false_iff_not, Int.not_lt, Int.not_le, Bool.not_eq_true, Bool.not_eq_false, bne_iff_ne, ne_eq, beq_iff_eq, bne_eq_false_iff_eq, beq_eq_false_iff_ne] at h) <;> (try (exfalso; omega))) | refine awp_ret ?_))
      (refine retA_is (by (simp (implicitDefEqProofs := false) (maxSteps := 2000000) (disch := omega) only [go_sem, Go.Proofs.Tryd.results59]); rfl) ?_; refine (embV_nil hE (by simp) ?_).s; simp [oneA, ren, renL])
      exact hno
  · (repeat' (first | refine awp_seq ?_ | refine awp_block ?_ | refine awp_skip ?_ | refine awp_exit ?_ | ((first | refine awp_r (by kernel_rfl) (fun K kp hK hkp => ?_)); simp (implicitDefEqProofs := false) (maxSteps := 2000000) (disch := omega) only [go_sem]; (repeat' (first | (refine hK _ ?_; clear hK hkp kp K) | (with_reducible refine And.intro ?_ ?_) | omega))) | ((first | refine goG_ask (fun h => ?_) (fun h => ?_) | refine goGD_ask (fun h => ?_) (fun h => ?_) | refine goGX_ask (fun h => ?_) (fun h => ?_)) <;> (simp (implicitDefEqProofs := false) (maxSteps := 2000000) (disch := omega) only [go_sem, h]; (repeat' (first | (refine hK _ ?_; clear hK hkp kp K) | (with_reducible refine And.intro ?_ ?_) | omega)))) | refine awp_cond_t rfl ?_ | refine awp_cond_f rfl ?_ | ((refine awp_cond rfl (fun h => ?_) (fun h => ?_) <;> try simp only [decide_eq_true_eq, decide_eq_false_iff_not, Int.not_lt, Int.not_le, Bool.not_eq_true, Bool.not_eq_false, bne_iff_ne, ne_eq, beq_iff_eq, bne_eq_false_iff_eq, beq_eq_false_iff_ne] at h) <;> (try (exfalso; omega))) | refine awp_ret ?_))
    (refine retA_is (by (simp (implicitDefEqProofs := false) (maxSteps := 2000000) (disch := omega) only [go_sem, Go.Proofs.Tryd.results59]); rfl) ?_; refine (embV_nil hE (by simp) ?_).s; simp [oneA, ren, renL])
    rw [← hno, List.drop_of_length_le (by omega)]; rfl
def wordT (s : ByteArray) : TK0 := ⟨1, s, 0⟩
def markT (s : ByteArray) : TK0 := ⟨4, s, 0⟩
theorem word_con (G : List (Nat × List Value)) (s : ByteArray) : Con Go.Proofs.Tryd.prog G 113 [.r (.string s)] [] 0 (Is (.agg (eT (wordT s))) [] 0) No := by
  refine con_of_awp Go.Proofs.Tryd.func113 rfl (by kernel_rfl) (of_decide_eq_true (by kernel_rfl)) ?_; intro E hG hE; subst hG; simp only [ent]
  (repeat' (first | refine awp_seq ?_ | refine awp_block ?_ | refine awp_skip ?_ | refine awp_exit ?_ | ((first | refine awp_r (by kernel_rfl) (fun K kp hK hkp => ?_)); simp (implicitDefEqProofs := false) (maxSteps := 2000000) (disch := omega) only [go_sem]; (repeat' (first | (refine hK _ ?_; clear hK hkp kp K) | (with_reducible refine And.intro ?_ ?_) | omega))) | ((first | refine goG_ask (fun h => ?_) (fun h => ?_) | refine goGD_ask (fun h => ?_) (fun h => ?_) | refine goGX_ask (fun h => ?_) (fun h => ?_)) <;> (simp (implicitDefEqProofs := false) (maxSteps := 2000000) (disch := omega) only [go_sem, h]; (repeat' (first | (refine hK _ ?_; clear hK hkp kp K) | (with_reducible refine And.intro ?_ ?_) | omega)))) | refine awp_cond_t rfl ?_ | refine awp_cond_f rfl ?_ | ((refine awp_cond rfl (fun h => ?_) (fun h => ?_) <;> try simp only [decide_eq_true_eq, decide_eq_false_iff_not, Int.not_lt, Int.not_le, Bool.not_eq_true, Bool.not_eq_false, bne_iff_ne, ne_eq, beq_iff_eq, bne_eq_false_iff_eq, beq_eq_false_iff_ne] at h) <;> (try (exfalso; omega))) | refine awp_ret ?_))
  (refine retA_is (by (simp (implicitDefEqProofs := false) (maxSteps := 2000000) (disch := omega) only [go_sem, Go.Proofs.Tryd.results113, eT, wordT]); rfl) ?_; refine (embV_nil hE (by simp) ?_).s; simp [oneA, ren, renL, eT, wordT])
theorem mark_con (G : List (Nat × List Value)) (s : ByteArray) : Con Go.Proofs.Tryd.prog G 69 [.r (.string s)] [] 0 (Is (.agg (eT (markT s))) [] 0) No := by
  refine con_of_awp Go.Proofs.Tryd.func69 rfl (by kernel_rfl) (of_decide_eq_true (by kernel_rfl)) ?_; intro E hG hE; subst hG; simp only [ent]
  (repeat' (first | refine awp_seq ?_ | refine awp_block ?_ | refine awp_skip ?_ | refine awp_exit ?_ | ((first | refine awp_r (by kernel_rfl) (fun K kp hK hkp => ?_)); simp (implicitDefEqProofs := false) (maxSteps := 2000000) (disch := omega) only [go_sem]; (repeat' (first | (refine hK _ ?_; clear hK hkp kp K) | (with_reducible refine And.intro ?_ ?_) | omega))) | ((first | refine goG_ask (fun h => ?_) (fun h => ?_) | refine goGD_ask (fun h => ?_) (fun h => ?_) | refine goGX_ask (fun h => ?_) (fun h => ?_)) <;> (simp (implicitDefEqProofs := false) (maxSteps := 2000000) (disch := omega) only [go_sem, h]; (repeat' (first | (refine hK _ ?_; clear hK hkp kp K) | (with_reducible refine And.intro ?_ ?_) | omega)))) | refine awp_cond_t rfl ?_ | refine awp_cond_f rfl ?_ | ((refine awp_cond rfl (fun h => ?_) (fun h => ?_) <;> try simp only [decide_eq_true_eq, decide_eq_false_iff_not, Int.not_lt, Int.not_le, Bool.not_eq_true, Bool.not_eq_false, bne_iff_ne, ne_eq, beq_iff_eq, bne_eq_false_iff_eq, beq_eq_false_iff_ne] at h) <;> (try (exfalso; omega))) | refine awp_ret ?_))
  (refine retA_is (by (simp (implicitDefEqProofs := false) (maxSteps := 2000000) (disch := omega) only [go_sem, Go.Proofs.Tryd.results69, eT, markT]); rfl) ?_; refine (embV_nil hE (by simp) ?_).s; simp [oneA, ren, renL, eT, markT])
set_option maxRecDepth 100000 in
theorem all_con (G : List (Nat × List Value)) (t : Bool) (l : List ByteArray) (hl : l.length ≤ 1048576) : Con Go.Proofs.Tryd.prog G 64 [.ro t 1 (l.map eStr)] [] 0 (Is (.ro true 3 ((l.map wordT).map eT)) [] 0) No := by
  refine con_of_awp Go.Proofs.Tryd.func64 rfl (by kernel_rfl) (of_decide_eq_true (by kernel_rfl)) ?_; intro E hG hE; subst hG; simp only [ent]
  (repeat' (first | refine awp_seq ?_ | refine awp_block ?_ | refine awp_skip ?_ | refine awp_exit ?_ | ((first | refine awp_r (by kernel_rfl) (fun K kp hK hkp => ?_)); simp (implicitDefEqProofs := false) (maxSteps := 2000000) (disch := omega) only [go_sem]; (repeat' (first | (refine hK _ ?_; clear hK hkp kp K) | (with_reducible refine And.intro ?_ ?_) | omega))) | ((first | refine goG_ask (fun h => ?_) (fun h => ?_) | refine goGD_ask (fun h => ?_) (fun h => ?_) | refine goGX_ask (fun h => ?_) (fun h => ?_)) <;> (simp (implicitDefEqProofs := false) (maxSteps := 2000000) (disch := omega) only [go_sem, h]; (repeat' (first | (refine hK _ ?_; clear hK hkp kp K) | (with_reducible refine And.intro ?_ ?_) | omega)))) | refine awp_cond_t rfl ?_ | refine awp_cond_f rfl ?_ | ((refine awp_cond rfl (fun h => ?_) (fun h => ?_) <;> try simp only [decide_eq_true_eq, decide_eq_false_iff_not, Int.not_lt, Int.not_le, Bool.not_eq_true, Bool.not_eq_false, bne_iff_ne, ne_eq, beq_iff_eq, bne_eq_false_iff_eq, beq_eq_false_iff_ne] at h) <;> (try (exfalso; omega))) | refine awp_ret ?_))
  (refine AWP.emb (emb_nil 3 61 3 ?_) ?_; (· rfl); dsimp only)
  refine awp_loop (fun k : Nat => ⟨[(8, .r (.int .i64 k)), (7, .r (.int .i64 l.length)), (6, .ro t 1 (l.map eStr)), (3, .s 0 0 ((l.take k).map wordT).length)], [(0, .lst 61 3 (((l.take k).map wordT).map eT))], 1⟩) (fun k => k ≤ l.length) (fun k => l.length - k) 0 ?_ ?_ ?_
  · simp
  · (refine emb [0] ?_ ?_ rfl ?_ ?_ ?_ ?_ <;> simp [okM, okO, lk, ren, renL, renNd, by_, hE] <;> (try omega))
  intro k hk
  by_cases hk' : k < l.length
  · obtain ⟨x, hx⟩ : ∃ x, l[k]? = some x := ⟨l[k], by simp [hk']⟩
    have hs : (l.take (k + 1)).map wordT = (l.take k).map wordT ++ [wordT x] := by rw [List.take_add_one, hx]; simp
    have hle : ((l.take k).map wordT).length ≤ 1048576 := by simp; omega
    have hnx : (1 : Nat) = 1 := rfl
    generalize hq : (l.take k).map wordT = q at hs hle ⊢
    (repeat' (first | refine awp_seq ?_ | refine awp_block ?_ | refine awp_skip ?_ | refine awp_exit ?_ | ((first | refine awp_r (by kernel_rfl) (fun K kp hK hkp => ?_) | ((first | apply callR_i (word_con _ _) | apply callD_i (word_con _ _) | apply callX_i (word_con _ _)); (case hb => (simp (implicitDefEqProofs := false) (maxSteps := 2000000) (disch := omega) only [go_sem, hx, eStr, eT, wordT]; first | done | rfl)); (case hp => (first | (simp [-List.map_drop, -List.map_take, hx, eStr, eT, wordT]; done) | exact .ro _ _ (pt_map _ _))); (case hq => (first | (simp [-List.map_drop, -List.map_take]; done) | (intro _ h; simp only [List.mem_singleton] at h; subst h; exact pt_map _ _))))); simp (implicitDefEqProofs := false) (maxSteps := 2000000) (disch := omega) only [go_sem, hx, eStr, eT, wordT]; (repeat' (first | (refine hK _ ?_; clear hK hkp kp K) | (with_reducible refine And.intro ?_ ?_) | omega))) | ((first | refine goG_ask (fun h => ?_) (fun h => ?_) | refine goGD_ask (fun h => ?_) (fun h => ?_) | refine goGX_ask (fun h => ?_) (fun h => ?_)) <;> (simp (implicitDefEqProofs := false) (maxSteps := 2000000) (disch := omega) only [go_sem, hx, eStr, eT, wordT, h]; (repeat' (first | (refine hK _ ?_; clear hK hkp kp K) | (with_reducible refine And.intro ?_ ?_) | omega)))) | refine awp_cond_t rfl ?_ | refine awp_cond_f rfl ?_ | ((refine awp_cond rfl (fun h => ?_) (fun h => ?_) <;> try simp only [decide_eq_true_eq, decide_eq_false_iff_not, Int.not_lt, Int.not_le, Bool.not_eq_true, Bool.not_eq_false, bne_iff_ne, ne_eq, beq_iff_eq, bne_eq_false_iff_eq, beq_eq_false_iff_ne] at h) <;> (try (exfalso; omega))) | refine awp_ret ?_))
    ((first | (refine nextB (k + 1) ?_ ?_ ?_) | (refine nextA (k + 1) ?_ ?_ ?_)); rotate_left; (· (try dsimp only); (first | omega | (simp only [List.length_drop, List.length_cons, List.length_append]; omega) | (simp; done) | (simp; omega))); (· (refine emb [2] ?_ ?_ rfl ?_ ?_ ?_ ?_ <;> simp [okM, okO, lk, ren, renL, renNd, by_, hE, hs, eT, wordT] <;> (try omega))))
    omega
  · obtain rfl : k = l.length := by omega
    (repeat' (first | refine awp_seq ?_ | refine awp_block ?_ | refine awp_skip ?_ | refine awp_exit ?_ | ((first | refine awp_r (by kernel_rfl) (fun K kp hK hkp => ?_)); simp (implicitDefEqProofs := false) (maxSteps := 2000000) (disch := omega) only [go_sem]; (repeat' (first | (refine hK _ ?_; clear hK hkp kp K) | (with_reducible refine And.intro ?_ ?_) | omega))) | ((first | refine goG_ask (fun h => ?_) (fun h => ?_) | refine goGD_ask (fun h => ?_) (fun h => ?_) | refine goGX_ask (fun h => ?_) (fun h => ?_)) <;> (simp (implicitDefEqProofs := false) (maxSteps := 2000000) (disch := omega) only [go_sem, h]; (repeat' (first | (refine hK _ ?_; clear hK hkp kp K) | (with_reducible refine And.intro ?_ ?_) | omega)))) | refine awp_cond_t rfl ?_ | refine awp_cond_f rfl ?_ | ((refine awp_cond rfl (fun h => ?_) (fun h => ?_) <;> try simp only [decide_eq_true_eq, decide_eq_false_iff_not, Int.not_lt, Int.not_le, Bool.not_eq_true, Bool.not_eq_false, bne_iff_ne, ne_eq, beq_iff_eq, bne_eq_false_iff_eq, beq_eq_false_iff_ne] at h) <;> (try (exfalso; omega))) | refine awp_ret ?_))
    (refine retA_is (by (simp (implicitDefEqProofs := false) (maxSteps := 2000000) (disch := omega) only [go_sem, Go.Proofs.Tryd.results64]); rfl) ?_; refine embS_frz (by simp only [oneA]; simp (implicitDefEqProofs := false) (maxSteps := 2000000) (disch := omega) only [go_sem]; rfl) ?_; refine (embV_nil hE (by simp) ?_).s; simp [oneA, ren, renL])
set_option maxRecDepth 100000 in
theorem allO_con (G : List (Nat × List Value)) (t : Bool) (l : List ByteArray) (hl : l.length ≤ 1048576) : Con Go.Proofs.Tryd.prog G 64 [.ro t 1 (l.map eStr)] [] 0 (Is (.s 0 0 (l.map wordT).length) [(0, .lst 61 3 ((l.map wordT).map eT))] 1) No := by
  refine con_of_awp Go.Proofs.Tryd.func64 rfl (by kernel_rfl) (of_decide_eq_true (by kernel_rfl)) ?_; intro E hG hE; subst hG; simp only [ent]
  (repeat' (first | refine awp_seq ?_ | refine awp_block ?_ | refine awp_skip ?_ | refine awp_exit ?_ | ((first | refine awp_r (by kernel_rfl) (fun K kp hK hkp => ?_)); simp (implicitDefEqProofs := false) (maxSteps := 2000000) (disch := omega) only [go_sem]; (repeat' (first | (refine hK _ ?_; clear hK hkp kp K) | (with_reducible refine And.intro ?_ ?_) | omega))) | ((first | refine goG_ask (fun h => ?_) (fun h => ?_) | refine goGD_ask (fun h => ?_) (fun h => ?_) | refine goGX_ask (fun h => ?_) (fun h => ?_)) <;> (simp (implicitDefEqProofs := false) (maxSteps := 2000000) (disch := omega) only [go_sem, h]; (repeat' (first | (refine hK _ ?_; clear hK hkp kp K) | (with_reducible refine And.intro ?_ ?_) | omega)))) | refine awp_cond_t rfl ?_ | refine awp_cond_f rfl ?_ | ((refine awp_cond rfl (fun h => ?_) (fun h => ?_) <;> try simp only [decide_eq_true_eq, decide_eq_false_iff_not, Int.not_lt, Int.not_le, Bool.not_eq_true, Bool.not_eq_false, bne_iff_ne, ne_eq, beq_iff_eq, bne_eq_false_iff_eq, beq_eq_false_iff_ne] at h) <;> (try (exfalso; omega))) | refine awp_ret ?_))
  (refine AWP.emb (emb_nil 3 61 3 ?_) ?_; (· rfl); dsimp only)
  refine awp_loop (fun k : Nat => ⟨[(8, .r (.int .i64 k)), (7, .r (.int .i64 l.length)), (6, .ro t 1 (l.map eStr)), (3, .s 0 0 ((l.take k).map wordT).length)], [(0, .lst 61 3 (((l.take k).map wordT).map eT))], 1⟩) (fun k => k ≤ l.length) (fun k => l.length - k) 0 ?_ ?_ ?_
  · simp
  · (refine emb [0] ?_ ?_ rfl ?_ ?_ ?_ ?_ <;> simp [okM, okO, lk, ren, renL, renNd, by_, hE] <;> (try omega))
  intro k hk
  by_cases hk' : k < l.length
  · obtain ⟨x, hx⟩ : ∃ x, l[k]? = some x := ⟨l[k], by simp [hk']⟩
    have hs : (l.take (k + 1)).map wordT = (l.take k).map wordT ++ [wordT x] := by rw [List.take_add_one, hx]; simp
    have hle : ((l.take k).map wordT).length ≤ 1048576 := by simp; omega
    generalize hq : (l.take k).map wordT = q at hs hle ⊢
    (repeat' (first | refine awp_seq ?_ | refine awp_block ?_ | refine awp_skip ?_ | refine awp_exit ?_ | ((first | refine awp_r (by kernel_rfl) (fun K kp hK hkp => ?_) | ((first | apply callR_i (word_con _ _) | apply callD_i (word_con _ _) | apply callX_i (word_con _ _)); (case hb => (simp (implicitDefEqProofs := false) (maxSteps := 2000000) (disch := omega) only [go_sem, hx, eStr, eT, wordT]; first | done | rfl)); (case hp => (first | (simp [-List.map_drop, -List.map_take, hx, eStr, eT, wordT]; done) | exact .ro _ _ (pt_map _ _))); (case hq => (first | (simp [-List.map_drop, -List.map_take]; done) | (intro _ h; simp only [List.mem_singleton] at h; subst h; exact pt_map _ _))))); simp (implicitDefEqProofs := false) (maxSteps := 2000000) (disch := omega) only [go_sem, hx, eStr, eT, wordT]; (repeat' (first | (refine hK _ ?_; clear hK hkp kp K) | (with_reducible refine And.intro ?_ ?_) | omega))) | ((first | refine goG_ask (fun h => ?_) (fun h => ?_) | refine goGD_ask (fun h => ?_) (fun h => ?_) | refine goGX_ask (fun h => ?_) (fun h => ?_)) <;> (simp (implicitDefEqProofs := false) (maxSteps := 2000000) (disch := omega) only [go_sem, hx, eStr, eT, wordT, h]; (repeat' (first | (refine hK _ ?_; clear hK hkp kp K) | (with_reducible refine And.intro ?_ ?_) | omega)))) | refine awp_cond_t rfl ?_ | refine awp_cond_f rfl ?_ | ((refine awp_cond rfl (fun h => ?_) (fun h => ?_) <;> try simp only [decide_eq_true_eq, decide_eq_false_iff_not, Int.not_lt, Int.not_le, Bool.not_eq_true, Bool.not_eq_false, bne_iff_ne, ne_eq, beq_iff_eq, bne_eq_false_iff_eq, beq_eq_false_iff_ne] at h) <;> (try (exfalso; omega))) | refine awp_ret ?_))
    ((first | (refine nextB (k + 1) ?_ ?_ ?_) | (refine nextA (k + 1) ?_ ?_ ?_)); rotate_left; (· (try dsimp only); (first | omega | (simp only [List.length_drop, List.length_cons, List.length_append]; omega) | (simp; done) | (simp; omega))); (· (refine emb [2] ?_ ?_ rfl ?_ ?_ ?_ ?_ <;> simp [okM, okO, lk, ren, renL, renNd, by_, hE, hs, eT, wordT] <;> (try omega))))
    omega
  · obtain rfl : k = l.length := by omega
    rw [List.take_of_length_le (Nat.le_refl _)]
    (repeat' (first | refine awp_seq ?_ | refine awp_block ?_ | refine awp_skip ?_ | refine awp_exit ?_ | ((first | refine awp_r (by kernel_rfl) (fun K kp hK hkp => ?_)); simp (implicitDefEqProofs := false) (maxSteps := 2000000) (disch := omega) only [go_sem]; (repeat' (first | (refine hK _ ?_; clear hK hkp kp K) | (with_reducible refine And.intro ?_ ?_) | omega))) | ((first | refine goG_ask (fun h => ?_) (fun h => ?_) | refine goGD_ask (fun h => ?_) (fun h => ?_) | refine goGX_ask (fun h => ?_) (fun h => ?_)) <;> (simp (implicitDefEqProofs := false) (maxSteps := 2000000) (disch := omega) only [go_sem, h]; (repeat' (first | (refine hK _ ?_; clear hK hkp kp K) | (with_reducible refine And.intro ?_ ?_) | omega)))) | refine awp_cond_t rfl ?_ | refine awp_cond_f rfl ?_ | ((refine awp_cond rfl (fun h => ?_) (fun h => ?_) <;> try simp only [decide_eq_true_eq, decide_eq_false_iff_not, Int.not_lt, Int.not_le, Bool.not_eq_true, Bool.not_eq_false, bne_iff_ne, ne_eq, beq_iff_eq, bne_eq_false_iff_eq, beq_eq_false_iff_ne] at h) <;> (try (exfalso; omega))) | refine awp_ret ?_))
    (refine retA_is (by (simp (implicitDefEqProofs := false) (maxSteps := 2000000) (disch := omega) only [go_sem, Go.Proofs.Tryd.results64]); rfl) ?_; refine (embV [0] ?_ ?_ ?_ ?_ ?_ ?_).s <;> simp [oneA, okO, lk, ren, renL, renNd, by_, hE])
def eTs (ts : List TK0) : List AV := [.ro true 3 (ts.map eT)]
/-- Lists with commas between. -/
def commas : List (List TK0) → List TK0
  | [] => []
  | [t] => t
  | t :: r => t ++ markT (str [44]) :: commas r
def listM (l : List (List TK0)) : List TK0 := markT (str [40]) :: commas l ++ [markT (str [41])]
theorem commas_cc (x y : List TK0) (z : List (List TK0)) : commas (x :: y :: z) = x ++ markT (str [44]) :: commas (y :: z) := rfl
theorem commas_snoc : ∀ (l : List (List TK0)) (t : List TK0), l ≠ [] → commas (l ++ [t]) = commas l ++ markT (str [44]) :: t
  | [], t, h => (h rfl).elim
  | [a], t, _ => by simp [commas]
  | a :: b :: r, t, _ => by
    have := commas_snoc (b :: r) t (by simp)
    simp only [List.cons_append] at this ⊢
    rw [commas_cc, this, commas_cc]; simp
theorem commas_len : ∀ (l : List (List TK0)), (∀ x ∈ l, x.length ≤ 1000) → (commas l).length ≤ 1001 * l.length
  | [], _ => by simp [commas]
  | [a], h => by have := h a (by simp); simp [commas]; omega
  | a :: b :: r, h => by
    have h1 := h a (by simp)
    have := commas_len (b :: r) (fun x hx => h x (by simp [hx]))
    rw [commas_cc]; simp at this ⊢; omega
def listO (l : List (List TK0)) : List TK0 := markT (str [40]) :: commas l
theorem listO_nil : listO [] = [markT (str [40])] := rfl
theorem listO_one {l : List (List TK0)} {x : List TK0} (h : l[0]? = some x) : listO (l.take 1) = listO [] ++ x := by
  have : l.take 1 = [x] := by rw [List.take_add_one, h]; rfl
  rw [this]; simp [listO, commas]
theorem listO_more {l : List (List TK0)} {k : Nat} {x : List TK0} (h : l[k]? = some x) (hk : 0 < k) : listO (l.take (k + 1)) = listO (l.take k) ++ [markT (str [44])] ++ x := by
  have hl : k < l.length := (List.getElem?_eq_some_iff.1 h).1
  rw [List.take_add_one, h, Option.toList, listO, commas_snoc _ _ (by intro e; have := congrArg List.length e; simp only [List.length_take, List.length_nil] at this; omega)]; simp [listO]
set_option maxRecDepth 100000 in
theorem list_con (G : List (Nat × List Value)) (t : Bool) (l : List (List TK0)) (hl : l.length ≤ 1000) (hs : ∀ x ∈ l, x.length ≤ 1000) : Con Go.Proofs.Tryd.prog G 65 [.ro t 1 (l.map eTs)] [] 0 (Is (.ro true 3 ((listM l).map eT)) [] 0) No := by
  refine con_of_awp Go.Proofs.Tryd.func65 rfl (by kernel_rfl) (of_decide_eq_true (by kernel_rfl)) ?_; intro E hG hE; subst hG; simp only [ent]
  have mc := mark_con E.G
  simp only [eT, markT] at mc
  (repeat' (first | refine awp_seq ?_ | refine awp_block ?_ | refine awp_skip ?_ | refine awp_exit ?_ | ((first | refine awp_r (by kernel_rfl) (fun K kp hK hkp => ?_) | ((first | apply callR_i (mc _) | apply callD_i (mc _) | apply callX_i (mc _)); (case hb => (simp (implicitDefEqProofs := false) (maxSteps := 2000000) (disch := omega) only [go_sem, eT, markT]; first | done | rfl)); (case hp => (first | (simp [-List.map_drop, -List.map_take, eT, markT]; done) | exact .ro _ _ (pt_map _ _))); (case hq => (first | (simp [-List.map_drop, -List.map_take]; done) | (intro _ h; simp only [List.mem_singleton] at h; subst h; exact pt_map _ _))))); simp (implicitDefEqProofs := false) (maxSteps := 2000000) (disch := omega) only [go_sem, eT, markT]; (repeat' (first | (refine hK _ ?_; clear hK hkp kp K) | (with_reducible refine And.intro ?_ ?_) | omega))) | ((first | refine goG_ask (fun h => ?_) (fun h => ?_) | refine goGD_ask (fun h => ?_) (fun h => ?_) | refine goGX_ask (fun h => ?_) (fun h => ?_)) <;> (simp (implicitDefEqProofs := false) (maxSteps := 2000000) (disch := omega) only [go_sem, eT, markT, h]; (repeat' (first | (refine hK _ ?_; clear hK hkp kp K) | (with_reducible refine And.intro ?_ ?_) | omega)))) | refine awp_cond_t rfl ?_ | refine awp_cond_f rfl ?_ | ((refine awp_cond rfl (fun h => ?_) (fun h => ?_) <;> try simp only [decide_eq_true_eq, decide_eq_false_iff_not, Int.not_lt, Int.not_le, Bool.not_eq_true, Bool.not_eq_false, bne_iff_ne, ne_eq, beq_iff_eq, bne_eq_false_iff_eq, beq_eq_false_iff_ne] at h) <;> (try (exfalso; omega))) | refine awp_ret ?_))
  refine awp_loop (fun k : Nat => ⟨[(10, .r (.int .i64 k)), (9, .r (.int .i64 l.length)), (8, .ro t 1 (l.map eTs)), (3, .s 0 0 (listO (l.take k)).length)], [(0, .lst 61 3 ((listO (l.take k)).map eT))], 1⟩) (fun k => k ≤ l.length) (fun k => l.length - k) 0 ?_ ?_ ?_
  · simp
  · (refine emb [0] ?_ ?_ rfl ?_ ?_ ?_ ?_ <;> simp [okM, okO, lk, ren, renL, renNd, by_, hE, listO_nil, eT, markT, str] <;> (try omega))
  intro k hk
  have hle : (listO (l.take k)).length ≤ 1002001 := by
    have := commas_len (l.take k) (fun x hx => hs x (List.mem_of_mem_take hx))
    simp [listO] at this ⊢; omega
  by_cases hk' : k < l.length
  · obtain ⟨x, hx⟩ : ∃ x, l[k]? = some x := ⟨l[k], by simp [hk']⟩
    have hxl := hs x (List.mem_of_getElem? hx)
    by_cases h0 : 0 < k
    · have d1 : decide ((k : Int) > 0) = true := decide_eq_true (by omega)
      have hm := listO_more hx h0
      generalize listO (l.take k) = q at hm hle ⊢
      (repeat' (first | refine awp_seq ?_ | refine awp_block ?_ | refine awp_skip ?_ | refine awp_exit ?_ | ((first | refine awp_r (by kernel_rfl) (fun K kp hK hkp => ?_) | ((first | apply callR_i (mc _) | apply callD_i (mc _) | apply callX_i (mc _)); (case hb => (simp (implicitDefEqProofs := false) (maxSteps := 2000000) (disch := omega) only [go_sem, hx, eTs, eT, d1]; first | done | rfl)); (case hp => (first | (simp [-List.map_drop, -List.map_take, hx, eTs, eT, d1]; done) | exact .ro _ _ (pt_map _ _))); (case hq => (first | (simp [-List.map_drop, -List.map_take]; done) | (intro _ h; simp only [List.mem_singleton] at h; subst h; exact pt_map _ _))))); simp (implicitDefEqProofs := false) (maxSteps := 2000000) (disch := omega) only [go_sem, hx, eTs, eT, d1]; (repeat' (first | (refine hK _ ?_; clear hK hkp kp K) | (with_reducible refine And.intro ?_ ?_) | omega))) | ((first | refine goG_ask (fun h => ?_) (fun h => ?_) | refine goGD_ask (fun h => ?_) (fun h => ?_) | refine goGX_ask (fun h => ?_) (fun h => ?_)) <;> (simp (implicitDefEqProofs := false) (maxSteps := 2000000) (disch := omega) only [go_sem, hx, eTs, eT, d1, h]; (repeat' (first | (refine hK _ ?_; clear hK hkp kp K) | (with_reducible refine And.intro ?_ ?_) | omega)))) | refine awp_cond_t rfl ?_ | refine awp_cond_f rfl ?_ | ((refine awp_cond rfl (fun h => ?_) (fun h => ?_) <;> try simp only [decide_eq_true_eq, decide_eq_false_iff_not, Int.not_lt, Int.not_le, Bool.not_eq_true, Bool.not_eq_false, bne_iff_ne, ne_eq, beq_iff_eq, bne_eq_false_iff_eq, beq_eq_false_iff_ne] at h) <;> (try (exfalso; omega))) | refine awp_ret ?_))
      ((first | (refine nextB (k + 1) ?_ ?_ ?_) | (refine nextA (k + 1) ?_ ?_ ?_)); rotate_left; (· (try dsimp only); (first | omega | (simp only [List.length_drop, List.length_cons, List.length_append]; omega) | (simp; done) | (simp; omega))); (· (refine emb [3] ?_ ?_ rfl ?_ ?_ ?_ ?_ <;> simp [okM, okO, lk, ren, renL, renNd, by_, hE, hm, eT, markT, str] <;> (try omega))))
      omega
    · obtain rfl : k = 0 := by omega
      have hm := listO_one hx
      simp only [List.take_zero] at hle ⊢
      generalize listO [] = q at hm hle ⊢
      (repeat' (first | refine awp_seq ?_ | refine awp_block ?_ | refine awp_skip ?_ | refine awp_exit ?_ | ((first | refine awp_r (by kernel_rfl) (fun K kp hK hkp => ?_) | ((first | apply callR_i (mc _) | apply callD_i (mc _) | apply callX_i (mc _)); (case hb => (simp (implicitDefEqProofs := false) (maxSteps := 2000000) (disch := omega) only [go_sem, hx, eTs, eT]; first | done | rfl)); (case hp => (first | (simp [-List.map_drop, -List.map_take, hx, eTs, eT]; done) | exact .ro _ _ (pt_map _ _))); (case hq => (first | (simp [-List.map_drop, -List.map_take]; done) | (intro _ h; simp only [List.mem_singleton] at h; subst h; exact pt_map _ _))))); simp (implicitDefEqProofs := false) (maxSteps := 2000000) (disch := omega) only [go_sem, hx, eTs, eT]; (repeat' (first | (refine hK _ ?_; clear hK hkp kp K) | (with_reducible refine And.intro ?_ ?_) | omega))) | ((first | refine goG_ask (fun h => ?_) (fun h => ?_) | refine goGD_ask (fun h => ?_) (fun h => ?_) | refine goGX_ask (fun h => ?_) (fun h => ?_)) <;> (simp (implicitDefEqProofs := false) (maxSteps := 2000000) (disch := omega) only [go_sem, hx, eTs, eT, h]; (repeat' (first | (refine hK _ ?_; clear hK hkp kp K) | (with_reducible refine And.intro ?_ ?_) | omega)))) | refine awp_cond_t rfl ?_ | refine awp_cond_f rfl ?_ | ((refine awp_cond rfl (fun h => ?_) (fun h => ?_) <;> try simp only [decide_eq_true_eq, decide_eq_false_iff_not, Int.not_lt, Int.not_le, Bool.not_eq_true, Bool.not_eq_false, bne_iff_ne, ne_eq, beq_iff_eq, bne_eq_false_iff_eq, beq_eq_false_iff_ne] at h) <;> (try (exfalso; omega))) | refine awp_ret ?_))
      ((first | (refine nextB (0 + 1) ?_ ?_ ?_) | (refine nextA (0 + 1) ?_ ?_ ?_)); rotate_left; (· (try dsimp only); (first | omega | (simp only [List.length_drop, List.length_cons, List.length_append]; omega) | (simp; done) | (simp; omega))); (· (refine emb [1] ?_ ?_ rfl ?_ ?_ ?_ ?_ <;> simp [okM, okO, lk, ren, renL, renNd, by_, hE, hm] <;> (try omega))))
      omega
  · obtain rfl : k = l.length := by omega
    have hm : listM l = listO l ++ [markT (str [41])] := rfl
    rw [hm]
    rw [List.take_of_length_le (Nat.le_refl _)] at hle ⊢
    generalize listO l = q at hm hle ⊢
    (repeat' (first | refine awp_seq ?_ | refine awp_block ?_ | refine awp_skip ?_ | refine awp_exit ?_ | ((first | refine awp_r (by kernel_rfl) (fun K kp hK hkp => ?_) | ((first | apply callR_i (mc _) | apply callD_i (mc _) | apply callX_i (mc _)); (case hb => (simp (implicitDefEqProofs := false) (maxSteps := 2000000) (disch := omega) only [go_sem, eT]; first | done | rfl)); (case hp => (first | (simp [-List.map_drop, -List.map_take, eT]; done) | exact .ro _ _ (pt_map _ _))); (case hq => (first | (simp [-List.map_drop, -List.map_take]; done) | (intro _ h; simp only [List.mem_singleton] at h; subst h; exact pt_map _ _))))); simp (implicitDefEqProofs := false) (maxSteps := 2000000) (disch := omega) only [go_sem, eT]; (repeat' (first | (refine hK _ ?_; clear hK hkp kp K) | (with_reducible refine And.intro ?_ ?_) | omega))) | ((first | refine goG_ask (fun h => ?_) (fun h => ?_) | refine goGD_ask (fun h => ?_) (fun h => ?_) | refine goGX_ask (fun h => ?_) (fun h => ?_)) <;> (simp (implicitDefEqProofs := false) (maxSteps := 2000000) (disch := omega) only [go_sem, eT, h]; (repeat' (first | (refine hK _ ?_; clear hK hkp kp K) | (with_reducible refine And.intro ?_ ?_) | omega)))) | refine awp_cond_t rfl ?_ | refine awp_cond_f rfl ?_ | ((refine awp_cond rfl (fun h => ?_) (fun h => ?_) <;> try simp only [decide_eq_true_eq, decide_eq_false_iff_not, Int.not_lt, Int.not_le, Bool.not_eq_true, Bool.not_eq_false, bne_iff_ne, ne_eq, beq_iff_eq, bne_eq_false_iff_eq, beq_eq_false_iff_ne] at h) <;> (try (exfalso; omega))) | refine awp_ret ?_))
    (refine retA_is (by (simp (implicitDefEqProofs := false) (maxSteps := 2000000) (disch := omega) only [go_sem, Go.Proofs.Tryd.results65, eT, markT, str]); rfl) ?_; refine embS_frz (by simp only [oneA]; simp (implicitDefEqProofs := false) (maxSteps := 2000000) (disch := omega) only [go_sem, eT, markT, str]; rfl) ?_; refine (embV_nil hE (by simp) ?_).s; simp [oneA, ren, renL, eT, markT, str])
end Go.AM
/- Statements: what the program checks of their parts. -/
namespace Go.AM
open Go Go.RowKit
open Go.Proofs.YtoecmmpjndcolaaDoor (OP nameM litM exprM marksS wordsS StrsAt str SlAt)
attribute [local irreducible] AWP retA
theorem slAt_of_ro {α : Type} {w : World} {z : Zone} {t : Bool} {k : Nat} {l : List α} {v : Value} (enc : α → List Value) (encA : α → List AV) (he : ∀ x, encA x = (enc x).map .r) (hz : ∀ t b, z t b → b < w.heap.size) (h : Rep w z [] (.ro t k (l.map encA)) v) :
    ∃ a cap, v = .slice a l.length cap ∧ SlAt w k enc a l := by
  obtain ⟨ad, c, rfl, hc, hn | ⟨b, o, rfl, hzb, hcell⟩⟩ := h.ro_inv
  · have : l = [] := by simpa using hn
    subst this; exact ⟨ad, c, rfl, .inl rfl⟩
  · refine ⟨_, c, by simp, .inr ⟨b, o, rfl, hz _ _ hzb, fun j x hj i u hi => ?_⟩⟩
    obtain ⟨h1, h2⟩ := hcell j (encA x) (by rw [List.getElem?_map, hj]; rfl)
    obtain ⟨y, hy, hr⟩ := h2 i (.r u) (by rw [he, List.getElem?_map, hi]; rfl)
    rw [hy, show y = u from hr.1.r_inv]
def okO1 (o : OP) : Prop := okS o.vs ∧ okS o.nm
theorem expression_con {G : List (Nat × List Value)} (T : Tabs G) (t : Bool) (l : List OP) (hl : l.length ≤ 1048576) (hs : ∀ o ∈ l, okO1 o) : Con Go.Proofs.Tryd.prog G 50 [.ro t 5 (l.map eO)] [] 0 (Is (.r (.int .i64 (exprM l))) [] 0) No :=
  con_of_calls (by kernel_rfl) (fun w z vs hz hr hG => by
    obtain ⟨v, r, rfl, h1, h2⟩ := hr.head
    obtain rfl := h2.of_nil
    obtain ⟨a, cap, rfl, hA⟩ := slAt_of_ro OP.cells eO (fun _ => rfl) hz h1
    obtain ⟨m1, m2⟩ := strs_of hG T.marks
    obtain ⟨w1, w2⟩ := strs_of hG T.words
    exact Go.Proofs.YtoecmmpjndcolaaDoor.expression_any a l cap w hA hl hs m1 m2 w1 w2)
theorem expressionFault_con (G : List (Nat × List Value)) (t : Bool) (l : List OP) (hl : l.length ≤ 1048576) (hs : ∀ o ∈ l, okO1 o) : Con Go.Proofs.Tryd.prog G 54 [.ro t 5 (l.map eO)] [] 0 (Is (.r (.int .i64 (exprM l))) [] 0) No :=
  con_of_calls (by kernel_rfl) (fun w z vs hz hr hG => by
    obtain ⟨v, r, rfl, h1, h2⟩ := hr.head
    obtain rfl := h2.of_nil
    obtain ⟨a, cap, rfl, hA⟩ := slAt_of_ro OP.cells eO (fun _ => rfl) hz h1
    exact Go.Proofs.YtoecmmpjndcolaaDoor.expressionFault_any a l cap w hA hl hs)
theorem rowFrom_step {l : List V} {k : Nat} {v : V} (h : l[k]? = some v) : rowFrom (l.drop k) = if litM v.k v.n v.s ≠ 0 then litM v.k v.n v.s else rowFrom (l.drop (k + 1)) := by rw [drop_at h, rowFrom]
theorem namesM_step {l : List ByteArray} {k : Nat} {s : ByteArray} (h : l[k]? = some s) : namesM (l.drop k) = if nameM s ≠ 0 then nameM s else namesM (l.drop (k + 1)) := by rw [drop_at h, namesM]
set_option maxRecDepth 100000 in
set_option maxHeartbeats 4000000 in
theorem row_con (G : List (Nat × List Value)) (t : Bool) (l : List V) (hl : l.length ≤ 1048576) (hs : ∀ v ∈ l, okS v.s) : Con Go.Proofs.Tryd.prog G 60 [.ro t 3 (l.map eV)] [] 0 (Is (.r (.int .i64 (rowM l))) [] 0) No := by
  refine con_of_awp Go.Proofs.Tryd.func60 rfl (by kernel_rfl) (of_decide_eq_true (by kernel_rfl)) ?_; intro E hG hE; subst hG; simp only [ent]
  by_cases h1 : l.length < 1
  · have d1 : decide ((l.length : Int) < 1) = true := decide_eq_true (by omega)
    (repeat' (first | refine awp_seq ?_ | refine awp_block ?_ | refine awp_skip ?_ | refine awp_exit ?_ | ((first | refine awp_r (by kernel_rfl) (fun K kp hK hkp => ?_)); simp (implicitDefEqProofs := false) (maxSteps := 2000000) (disch := omega) only [go_sem, d1]; (repeat' (first | (refine hK _ ?_; clear hK hkp kp K) | (with_reducible refine And.intro ?_ ?_) | omega))) | ((first | refine goG_ask (fun h => ?_) (fun h => ?_) | refine goGD_ask (fun h => ?_) (fun h => ?_) | refine goGX_ask (fun h => ?_) (fun h => ?_)) <;> (simp (implicitDefEqProofs := false) (maxSteps := 2000000) (disch := omega) only [go_sem, d1, h]; (repeat' (first | (refine hK _ ?_; clear hK hkp kp K) | (with_reducible refine And.intro ?_ ?_) | omega)))) | refine awp_cond_t rfl ?_ | refine awp_cond_f rfl ?_ | ((refine awp_cond rfl (fun h => ?_) (fun h => ?_) <;> try simp only [decide_eq_true_eq, decide_eq_false_iff_not, Int.not_lt, Int.not_le, Bool.not_eq_true, Bool.not_eq_false, bne_iff_ne, ne_eq, beq_iff_eq, bne_eq_false_iff_eq, beq_eq_false_iff_ne] at h) <;> (try (exfalso; omega))) | refine awp_ret ?_))
    (refine retA_is (by (simp (implicitDefEqProofs := false) (maxSteps := 2000000) (disch := omega) only [go_sem, Go.Proofs.Tryd.results60, rowM, h1]); rfl) ?_; refine (embV_nil hE (by simp) ?_).s; simp [oneA, ren, renL, rowM, h1])
  have d1 : decide ((l.length : Int) < 1) = false := decide_eq_false (by omega)
  by_cases h6 : 6 < l.length
  · have d2 : decide ((l.length : Int) > 6) = true := decide_eq_true (by omega)
    (repeat' (first | refine awp_seq ?_ | refine awp_block ?_ | refine awp_skip ?_ | refine awp_exit ?_ | ((first | refine awp_r (by kernel_rfl) (fun K kp hK hkp => ?_)); simp (implicitDefEqProofs := false) (maxSteps := 2000000) (disch := omega) only [go_sem, d1, d2]; (repeat' (first | (refine hK _ ?_; clear hK hkp kp K) | (with_reducible refine And.intro ?_ ?_) | omega))) | ((first | refine goG_ask (fun h => ?_) (fun h => ?_) | refine goGD_ask (fun h => ?_) (fun h => ?_) | refine goGX_ask (fun h => ?_) (fun h => ?_)) <;> (simp (implicitDefEqProofs := false) (maxSteps := 2000000) (disch := omega) only [go_sem, d1, d2, h]; (repeat' (first | (refine hK _ ?_; clear hK hkp kp K) | (with_reducible refine And.intro ?_ ?_) | omega)))) | refine awp_cond_t rfl ?_ | refine awp_cond_f rfl ?_ | ((refine awp_cond rfl (fun h => ?_) (fun h => ?_) <;> try simp only [decide_eq_true_eq, decide_eq_false_iff_not, Int.not_lt, Int.not_le, Bool.not_eq_true, Bool.not_eq_false, bne_iff_ne, ne_eq, beq_iff_eq, bne_eq_false_iff_eq, beq_eq_false_iff_ne] at h) <;> (try (exfalso; omega))) | refine awp_ret ?_))
    (refine retA_is (by (simp (implicitDefEqProofs := false) (maxSteps := 2000000) (disch := omega) only [go_sem, Go.Proofs.Tryd.results60, rowM, h6]); rfl) ?_; refine (embV_nil hE (by simp) ?_).s; simp [oneA, ren, renL, rowM, h6])
  have d2 : decide ((l.length : Int) > 6) = false := decide_eq_false (by omega)
  have hM : rowM l = rowFrom l := by rw [rowM, if_neg (by omega)]
  rw [hM]
  (repeat' (first | refine awp_seq ?_ | refine awp_block ?_ | refine awp_skip ?_ | refine awp_exit ?_ | ((first | refine awp_r (by kernel_rfl) (fun K kp hK hkp => ?_)); simp (implicitDefEqProofs := false) (maxSteps := 2000000) (disch := omega) only [go_sem, d1, d2]; (repeat' (first | (refine hK _ ?_; clear hK hkp kp K) | (with_reducible refine And.intro ?_ ?_) | omega))) | ((first | refine goG_ask (fun h => ?_) (fun h => ?_) | refine goGD_ask (fun h => ?_) (fun h => ?_) | refine goGX_ask (fun h => ?_) (fun h => ?_)) <;> (simp (implicitDefEqProofs := false) (maxSteps := 2000000) (disch := omega) only [go_sem, d1, d2, h]; (repeat' (first | (refine hK _ ?_; clear hK hkp kp K) | (with_reducible refine And.intro ?_ ?_) | omega)))) | refine awp_cond_t rfl ?_ | refine awp_cond_f rfl ?_ | ((refine awp_cond rfl (fun h => ?_) (fun h => ?_) <;> try simp only [decide_eq_true_eq, decide_eq_false_iff_not, Int.not_lt, Int.not_le, Bool.not_eq_true, Bool.not_eq_false, bne_iff_ne, ne_eq, beq_iff_eq, bne_eq_false_iff_eq, beq_eq_false_iff_ne] at h) <;> (try (exfalso; omega))) | refine awp_ret ?_))
  refine awp_loop (fun k : Nat => ⟨[(16, .r (.int .i64 k)), (15, .r (.int .i64 l.length)), (14, .ro t 3 (l.map eV))], [], 0⟩) (fun k => k ≤ l.length ∧ rowFrom (l.drop k) = rowFrom l) (fun k => l.length - k) 0 ?_ ?_ ?_
  · simp
  · (refine emb [] ?_ ?_ rfl ?_ ?_ ?_ ?_ <;> simp [okM, okO, lk, ren, renL, renNd, by_, hE] <;> (try omega))
  intro k ⟨hk, hno⟩
  by_cases hk' : k < l.length
  · obtain ⟨v, hx⟩ : ∃ x, l[k]? = some x := ⟨l[k], by simp [hk']⟩
    rw [rowFrom_step hx] at hno
    have hc := lit_con E.G v (hs v (List.mem_of_getElem? hx))
    simp only [eV] at hc
    by_cases hn : litM v.k v.n v.s = 0
    · rw [if_neg (by simpa using hn)] at hno
      rw [hn] at hc
      (repeat' (first | refine awp_seq ?_ | refine awp_block ?_ | refine awp_skip ?_ | refine awp_exit ?_ | ((first | refine awp_r (by kernel_rfl) (fun K kp hK hkp => ?_) | ((first | apply callR_i (hc) | apply callD_i (hc) | apply callX_i (hc)); (case hb => (simp (implicitDefEqProofs := false) (maxSteps := 2000000) (disch := omega) only [go_sem, hx, eV]; first | done | rfl)); (case hp => (first | (simp [-List.map_drop, -List.map_take, hx, eV]; done) | exact .ro _ _ (pt_map _ _))); (case hq => (first | (simp [-List.map_drop, -List.map_take]; done) | (intro _ h; simp only [List.mem_singleton] at h; subst h; exact pt_map _ _))))); simp (implicitDefEqProofs := false) (maxSteps := 2000000) (disch := omega) only [go_sem, hx, eV]; (repeat' (first | (refine hK _ ?_; clear hK hkp kp K) | (with_reducible refine And.intro ?_ ?_) | omega))) | ((first | refine goG_ask (fun h => ?_) (fun h => ?_) | refine goGD_ask (fun h => ?_) (fun h => ?_) | refine goGX_ask (fun h => ?_) (fun h => ?_)) <;> (simp (implicitDefEqProofs := false) (maxSteps := 2000000) (disch := omega) only [go_sem, hx, eV, h]; (repeat' (first | (refine hK _ ?_; clear hK hkp kp K) | (with_reducible refine And.intro ?_ ?_) | omega)))) | refine awp_cond_t rfl ?_ | refine awp_cond_f rfl ?_ | ((refine awp_cond rfl (fun h => ?_) (fun h => ?_) <;> try simp only [decide_eq_true_eq, decide_eq_false_iff_not, Int.not_lt, Int.not_le, Bool.not_eq_true, Bool.not_eq_false, bne_iff_ne, ne_eq, beq_iff_eq, bne_eq_false_iff_eq, beq_eq_false_iff_ne] at h) <;> (try (exfalso; omega))) | refine awp_ret ?_))
      ((first | (refine nextB (k + 1) ?_ ?_ ?_) | (refine nextA (k + 1) ?_ ?_ ?_)); rotate_left; (· (try dsimp only); (first | omega | (simp only [List.length_drop, List.length_cons, List.length_append]; omega) | (simp; done) | (simp; omega))); (· (refine emb [] ?_ ?_ rfl ?_ ?_ ?_ ?_ <;> simp [okM, okO, lk, ren, renL, renNd, by_, hE] <;> (try omega))))
      exact ⟨by omega, hno⟩
    · have hb : (litM v.k v.n v.s != 0) = true := by simpa using hn
      rw [if_pos hn] at hno
      (repeat' (first | refine awp_seq ?_ | refine awp_block ?_ | refine awp_skip ?_ | refine awp_exit ?_ | ((first | refine awp_r (by kernel_rfl) (fun K kp hK hkp => ?_) | ((first | apply callR_i (hc) | apply callD_i (hc) | apply callX_i (hc)); (case hb => (simp (implicitDefEqProofs := false) (maxSteps := 2000000) (disch := omega) only [go_sem, hx, eV, hb]; first | done | rfl)); (case hp => (first | (simp [-List.map_drop, -List.map_take, hx, eV, hb]; done) | exact .ro _ _ (pt_map _ _))); (case hq => (first | (simp [-List.map_drop, -List.map_take]; done) | (intro _ h; simp only [List.mem_singleton] at h; subst h; exact pt_map _ _))))); simp (implicitDefEqProofs := false) (maxSteps := 2000000) (disch := omega) only [go_sem, hx, eV, hb]; (repeat' (first | (refine hK _ ?_; clear hK hkp kp K) | (with_reducible refine And.intro ?_ ?_) | omega))) | ((first | refine goG_ask (fun h => ?_) (fun h => ?_) | refine goGD_ask (fun h => ?_) (fun h => ?_) | refine goGX_ask (fun h => ?_) (fun h => ?_)) <;> (simp (implicitDefEqProofs := false) (maxSteps := 2000000) (disch := omega) only [go_sem, hx, eV, hb, h]; (repeat' (first | (refine hK _ ?_; clear hK hkp kp K) | (with_reducible refine And.intro ?_ ?_) | omega)))) | refine awp_cond_t rfl ?_ | refine awp_cond_f rfl ?_ | ((refine awp_cond rfl (fun h => ?_) (fun h => ?_) <;> try simp only [decide_eq_true_eq, decide_eq_false_iff_not, Int.not_lt, Int.not_le, Bool.not_eq_true, Bool.not_eq_false, bne_iff_ne, ne_eq, beq_iff_eq, bne_eq_false_iff_eq, beq_eq_false_iff_ne] at h) <;> (try (exfalso; omega))) | refine awp_ret ?_))
      (refine retA_is (by (simp (implicitDefEqProofs := false) (maxSteps := 2000000) (disch := omega) only [go_sem, Go.Proofs.Tryd.results60]); rfl) ?_; refine (embV_nil hE (by simp) ?_).s; simp [oneA, ren, renL])
      exact hno
  · (repeat' (first | refine awp_seq ?_ | refine awp_block ?_ | refine awp_skip ?_ | refine awp_exit ?_ | ((first | refine awp_r (by kernel_rfl) (fun K kp hK hkp => ?_)); simp (implicitDefEqProofs := false) (maxSteps := 2000000) (disch := omega) only [go_sem]; (repeat' (first | (refine hK _ ?_; clear hK hkp kp K) | (with_reducible refine And.intro ?_ ?_) | omega))) | ((first | refine goG_ask (fun h => ?_) (fun h => ?_) | refine goGD_ask (fun h => ?_) (fun h => ?_) | refine goGX_ask (fun h => ?_) (fun h => ?_)) <;> (simp (implicitDefEqProofs := false) (maxSteps := 2000000) (disch := omega) only [go_sem, h]; (repeat' (first | (refine hK _ ?_; clear hK hkp kp K) | (with_reducible refine And.intro ?_ ?_) | omega)))) | refine awp_cond_t rfl ?_ | refine awp_cond_f rfl ?_ | ((refine awp_cond rfl (fun h => ?_) (fun h => ?_) <;> try simp only [decide_eq_true_eq, decide_eq_false_iff_not, Int.not_lt, Int.not_le, Bool.not_eq_true, Bool.not_eq_false, bne_iff_ne, ne_eq, beq_iff_eq, bne_eq_false_iff_eq, beq_eq_false_iff_ne] at h) <;> (try (exfalso; omega))) | refine awp_ret ?_))
    (refine retA_is (by (simp (implicitDefEqProofs := false) (maxSteps := 2000000) (disch := omega) only [go_sem, Go.Proofs.Tryd.results60]); rfl) ?_; refine (embV_nil hE (by simp) ?_).s; simp [oneA, ren, renL])
    rw [← hno, List.drop_of_length_le (by omega)]; rfl
set_option maxRecDepth 100000 in
set_option maxHeartbeats 4000000 in
theorem names_con {G : List (Nat × List Value)} (T : Tabs G) (t : Bool) (l : List ByteArray) (hl : l.length ≤ 1048576) (hs : ∀ s ∈ l, okS s) : Con Go.Proofs.Tryd.prog G 112 [.ro t 1 (l.map eStr)] [] 0 (Is (.r (.int .i64 (namesM l))) [] 0) No := by
  refine con_of_awp Go.Proofs.Tryd.func112 rfl (by kernel_rfl) (of_decide_eq_true (by kernel_rfl)) ?_; intro E hG hE; subst hG; simp only [ent]
  (repeat' (first | refine awp_seq ?_ | refine awp_block ?_ | refine awp_skip ?_ | refine awp_exit ?_ | ((first | refine awp_r (by kernel_rfl) (fun K kp hK hkp => ?_)); simp (implicitDefEqProofs := false) (maxSteps := 2000000) (disch := omega) only [go_sem]; (repeat' (first | (refine hK _ ?_; clear hK hkp kp K) | (with_reducible refine And.intro ?_ ?_) | omega))) | ((first | refine goG_ask (fun h => ?_) (fun h => ?_) | refine goGD_ask (fun h => ?_) (fun h => ?_) | refine goGX_ask (fun h => ?_) (fun h => ?_)) <;> (simp (implicitDefEqProofs := false) (maxSteps := 2000000) (disch := omega) only [go_sem, h]; (repeat' (first | (refine hK _ ?_; clear hK hkp kp K) | (with_reducible refine And.intro ?_ ?_) | omega)))) | refine awp_cond_t rfl ?_ | refine awp_cond_f rfl ?_ | ((refine awp_cond rfl (fun h => ?_) (fun h => ?_) <;> try simp only [decide_eq_true_eq, decide_eq_false_iff_not, Int.not_lt, Int.not_le, Bool.not_eq_true, Bool.not_eq_false, bne_iff_ne, ne_eq, beq_iff_eq, bne_eq_false_iff_eq, beq_eq_false_iff_ne] at h) <;> (try (exfalso; omega))) | refine awp_ret ?_))
  refine awp_loop (fun k : Nat => ⟨[(8, .r (.int .i64 k)), (7, .r (.int .i64 l.length)), (6, .ro t 1 (l.map eStr))], [], 0⟩) (fun k => k ≤ l.length ∧ namesM (l.drop k) = namesM l) (fun k => l.length - k) 0 ?_ ?_ ?_
  · simp
  · (refine emb [] ?_ ?_ rfl ?_ ?_ ?_ ?_ <;> simp [okM, okO, lk, ren, renL, renNd, by_, hE] <;> (try omega))
  intro k ⟨hk, hno⟩
  by_cases hk' : k < l.length
  · obtain ⟨s, hx⟩ : ∃ x, l[k]? = some x := ⟨l[k], by simp [hk']⟩
    rw [namesM_step hx] at hno
    have hc := name_con T s (hs s (List.mem_of_getElem? hx))
    by_cases hn : nameM s = 0
    · rw [if_neg (by simpa using hn)] at hno
      rw [hn] at hc
      (repeat' (first | refine awp_seq ?_ | refine awp_block ?_ | refine awp_skip ?_ | refine awp_exit ?_ | ((first | refine awp_r (by kernel_rfl) (fun K kp hK hkp => ?_) | ((first | apply callR_i (hc) | apply callD_i (hc) | apply callX_i (hc)); (case hb => (simp (implicitDefEqProofs := false) (maxSteps := 2000000) (disch := omega) only [go_sem, hx, eStr]; first | done | rfl)); (case hp => (first | (simp [-List.map_drop, -List.map_take, hx, eStr]; done) | exact .ro _ _ (pt_map _ _))); (case hq => (first | (simp [-List.map_drop, -List.map_take]; done) | (intro _ h; simp only [List.mem_singleton] at h; subst h; exact pt_map _ _))))); simp (implicitDefEqProofs := false) (maxSteps := 2000000) (disch := omega) only [go_sem, hx, eStr]; (repeat' (first | (refine hK _ ?_; clear hK hkp kp K) | (with_reducible refine And.intro ?_ ?_) | omega))) | ((first | refine goG_ask (fun h => ?_) (fun h => ?_) | refine goGD_ask (fun h => ?_) (fun h => ?_) | refine goGX_ask (fun h => ?_) (fun h => ?_)) <;> (simp (implicitDefEqProofs := false) (maxSteps := 2000000) (disch := omega) only [go_sem, hx, eStr, h]; (repeat' (first | (refine hK _ ?_; clear hK hkp kp K) | (with_reducible refine And.intro ?_ ?_) | omega)))) | refine awp_cond_t rfl ?_ | refine awp_cond_f rfl ?_ | ((refine awp_cond rfl (fun h => ?_) (fun h => ?_) <;> try simp only [decide_eq_true_eq, decide_eq_false_iff_not, Int.not_lt, Int.not_le, Bool.not_eq_true, Bool.not_eq_false, bne_iff_ne, ne_eq, beq_iff_eq, bne_eq_false_iff_eq, beq_eq_false_iff_ne] at h) <;> (try (exfalso; omega))) | refine awp_ret ?_))
      ((first | (refine nextB (k + 1) ?_ ?_ ?_) | (refine nextA (k + 1) ?_ ?_ ?_)); rotate_left; (· (try dsimp only); (first | omega | (simp only [List.length_drop, List.length_cons, List.length_append]; omega) | (simp; done) | (simp; omega))); (· (refine emb [] ?_ ?_ rfl ?_ ?_ ?_ ?_ <;> simp [okM, okO, lk, ren, renL, renNd, by_, hE] <;> (try omega))))
      exact ⟨by omega, hno⟩
    · have hb : (nameM s != 0) = true := by simpa using hn
      rw [if_pos hn] at hno
      (repeat' (first | refine awp_seq ?_ | refine awp_block ?_ | refine awp_skip ?_ | refine awp_exit ?_ | ((first | refine awp_r (by kernel_rfl) (fun K kp hK hkp => ?_) | ((first | apply callR_i (hc) | apply callD_i (hc) | apply callX_i (hc)); (case hb => (simp (implicitDefEqProofs := false) (maxSteps := 2000000) (disch := omega) only [go_sem, hx, eStr, hb]; first | done | rfl)); (case hp => (first | (simp [-List.map_drop, -List.map_take, hx, eStr, hb]; done) | exact .ro _ _ (pt_map _ _))); (case hq => (first | (simp [-List.map_drop, -List.map_take]; done) | (intro _ h; simp only [List.mem_singleton] at h; subst h; exact pt_map _ _))))); simp (implicitDefEqProofs := false) (maxSteps := 2000000) (disch := omega) only [go_sem, hx, eStr, hb]; (repeat' (first | (refine hK _ ?_; clear hK hkp kp K) | (with_reducible refine And.intro ?_ ?_) | omega))) | ((first | refine goG_ask (fun h => ?_) (fun h => ?_) | refine goGD_ask (fun h => ?_) (fun h => ?_) | refine goGX_ask (fun h => ?_) (fun h => ?_)) <;> (simp (implicitDefEqProofs := false) (maxSteps := 2000000) (disch := omega) only [go_sem, hx, eStr, hb, h]; (repeat' (first | (refine hK _ ?_; clear hK hkp kp K) | (with_reducible refine And.intro ?_ ?_) | omega)))) | refine awp_cond_t rfl ?_ | refine awp_cond_f rfl ?_ | ((refine awp_cond rfl (fun h => ?_) (fun h => ?_) <;> try simp only [decide_eq_true_eq, decide_eq_false_iff_not, Int.not_lt, Int.not_le, Bool.not_eq_true, Bool.not_eq_false, bne_iff_ne, ne_eq, beq_iff_eq, bne_eq_false_iff_eq, beq_eq_false_iff_ne] at h) <;> (try (exfalso; omega))) | refine awp_ret ?_))
      (refine retA_is (by (simp (implicitDefEqProofs := false) (maxSteps := 2000000) (disch := omega) only [go_sem, Go.Proofs.Tryd.results112]); rfl) ?_; refine (embV_nil hE (by simp) ?_).s; simp [oneA, ren, renL])
      exact hno
  · (repeat' (first | refine awp_seq ?_ | refine awp_block ?_ | refine awp_skip ?_ | refine awp_exit ?_ | ((first | refine awp_r (by kernel_rfl) (fun K kp hK hkp => ?_)); simp (implicitDefEqProofs := false) (maxSteps := 2000000) (disch := omega) only [go_sem]; (repeat' (first | (refine hK _ ?_; clear hK hkp kp K) | (with_reducible refine And.intro ?_ ?_) | omega))) | ((first | refine goG_ask (fun h => ?_) (fun h => ?_) | refine goGD_ask (fun h => ?_) (fun h => ?_) | refine goGX_ask (fun h => ?_) (fun h => ?_)) <;> (simp (implicitDefEqProofs := false) (maxSteps := 2000000) (disch := omega) only [go_sem, h]; (repeat' (first | (refine hK _ ?_; clear hK hkp kp K) | (with_reducible refine And.intro ?_ ?_) | omega)))) | refine awp_cond_t rfl ?_ | refine awp_cond_f rfl ?_ | ((refine awp_cond rfl (fun h => ?_) (fun h => ?_) <;> try simp only [decide_eq_true_eq, decide_eq_false_iff_not, Int.not_lt, Int.not_le, Bool.not_eq_true, Bool.not_eq_false, bne_iff_ne, ne_eq, beq_iff_eq, bne_eq_false_iff_eq, beq_eq_false_iff_ne] at h) <;> (try (exfalso; omega))) | refine awp_ret ?_))
    (refine retA_is (by (simp (implicitDefEqProofs := false) (maxSteps := 2000000) (disch := omega) only [go_sem, Go.Proofs.Tryd.results112]); rfl) ?_; refine (embV_nil hE (by simp) ?_).s; simp [oneA, ren, renL])
    rw [← hno, List.drop_of_length_le (by omega)]; rfl
theorem where_con {G : List (Nat × List Value)} (T : Tabs G) (t : Bool) (l : List OP) (hl : l.length ≤ 1048576) (hs : ∀ o ∈ l, okO1 o) : Con Go.Proofs.Tryd.prog G 62 [.ro t 5 (l.map eO)] [] 0 (Is (.r (.int .i64 (whereM l))) [] 0) No := by
  refine con_of_awp Go.Proofs.Tryd.func62 rfl (by kernel_rfl) (of_decide_eq_true (by kernel_rfl)) ?_; intro E hG hE; subst hG; simp only [ent]
  by_cases h0 : l.length = 0
  · have d1 : ((l.length : Int) == 0) = true := by simp [h0]
    (repeat' (first | refine awp_seq ?_ | refine awp_block ?_ | refine awp_skip ?_ | refine awp_exit ?_ | ((first | refine awp_r (by kernel_rfl) (fun K kp hK hkp => ?_)); simp (implicitDefEqProofs := false) (maxSteps := 2000000) (disch := omega) only [go_sem, d1]; (repeat' (first | (refine hK _ ?_; clear hK hkp kp K) | (with_reducible refine And.intro ?_ ?_) | omega))) | ((first | refine goG_ask (fun h => ?_) (fun h => ?_) | refine goGD_ask (fun h => ?_) (fun h => ?_) | refine goGX_ask (fun h => ?_) (fun h => ?_)) <;> (simp (implicitDefEqProofs := false) (maxSteps := 2000000) (disch := omega) only [go_sem, d1, h]; (repeat' (first | (refine hK _ ?_; clear hK hkp kp K) | (with_reducible refine And.intro ?_ ?_) | omega)))) | refine awp_cond_t rfl ?_ | refine awp_cond_f rfl ?_ | ((refine awp_cond rfl (fun h => ?_) (fun h => ?_) <;> try simp only [decide_eq_true_eq, decide_eq_false_iff_not, Int.not_lt, Int.not_le, Bool.not_eq_true, Bool.not_eq_false, bne_iff_ne, ne_eq, beq_iff_eq, bne_eq_false_iff_eq, beq_eq_false_iff_ne] at h) <;> (try (exfalso; omega))) | refine awp_ret ?_))
    (refine retA_is (by (simp (implicitDefEqProofs := false) (maxSteps := 2000000) (disch := omega) only [go_sem, Go.Proofs.Tryd.results62, whereM, h0]); rfl) ?_; refine (embV_nil hE (by simp) ?_).s; simp [oneA, ren, renL, whereM, h0])
  · have d1 : ((l.length : Int) == 0) = false := by simpa using h0
    (repeat' (first | refine awp_seq ?_ | refine awp_block ?_ | refine awp_skip ?_ | refine awp_exit ?_ | ((first | refine awp_r (by kernel_rfl) (fun K kp hK hkp => ?_) | ((first | apply callR_i (expression_con T t l hl hs) | apply callD_i (expression_con T t l hl hs) | apply callX_i (expression_con T t l hl hs)); (case hb => (simp (implicitDefEqProofs := false) (maxSteps := 2000000) (disch := omega) only [go_sem, d1]; first | done | rfl)); (case hp => (first | (simp [-List.map_drop, -List.map_take, d1]; done) | exact .ro _ _ (pt_map _ _))); (case hq => (first | (simp [-List.map_drop, -List.map_take]; done) | (intro _ h; simp only [List.mem_singleton] at h; subst h; exact pt_map _ _))))); simp (implicitDefEqProofs := false) (maxSteps := 2000000) (disch := omega) only [go_sem, d1]; (repeat' (first | (refine hK _ ?_; clear hK hkp kp K) | (with_reducible refine And.intro ?_ ?_) | omega))) | ((first | refine goG_ask (fun h => ?_) (fun h => ?_) | refine goGD_ask (fun h => ?_) (fun h => ?_) | refine goGX_ask (fun h => ?_) (fun h => ?_)) <;> (simp (implicitDefEqProofs := false) (maxSteps := 2000000) (disch := omega) only [go_sem, d1, h]; (repeat' (first | (refine hK _ ?_; clear hK hkp kp K) | (with_reducible refine And.intro ?_ ?_) | omega)))) | refine awp_cond_t rfl ?_ | refine awp_cond_f rfl ?_ | ((refine awp_cond rfl (fun h => ?_) (fun h => ?_) <;> try simp only [decide_eq_true_eq, decide_eq_false_iff_not, Int.not_lt, Int.not_le, Bool.not_eq_true, Bool.not_eq_false, bne_iff_ne, ne_eq, beq_iff_eq, bne_eq_false_iff_eq, beq_eq_false_iff_ne] at h) <;> (try (exfalso; omega))) | refine awp_ret ?_))
    (refine retA_is (by (simp (implicitDefEqProofs := false) (maxSteps := 2000000) (disch := omega) only [go_sem, Go.Proofs.Tryd.results62, whereM, h0]); rfl) ?_; refine (embV_nil hE (by simp) ?_).s; simp [oneA, ren, renL, whereM, h0])

def bareB (s h : ST) : Bool := (s.tab.toList == h.tab.toList) && ((s.cols.length : Int) == (h.cols.length : Int)) && ((s.row.length : Int) == (h.row.length : Int)) && ((s.names.length : Int) == (h.names.length : Int)) && (s.count == h.count) && ((s.wh.length : Int) == (h.wh.length : Int)) && (s.ord.toList == h.ord.toList) && (s.down == h.down) && (s.lim == h.lim) && (s.set.toList == h.set.toList) && ((s.to.length : Int) == (h.to.length : Int))
set_option maxRecDepth 100000 in
set_option maxHeartbeats 8000000 in
theorem bare_con (G : List (Nat × List Value)) (s h : ST) : Con Go.Proofs.Tryd.prog G 63 [.agg (eST s), .agg (eST h)] [] 0 (Is (.r (.bool (bareB s h))) [] 0) No := by
  refine con_of_awp Go.Proofs.Tryd.func63 rfl (by kernel_rfl) (of_decide_eq_true (by kernel_rfl)) ?_; intro E hG hE; subst hG; simp only [ent]
  cases c0 : (s.tab.toList == h.tab.toList)
  · (repeat' (first | refine awp_seq ?_ | refine awp_block ?_ | refine awp_skip ?_ | refine awp_exit ?_ | ((first | refine awp_r (by kernel_rfl) (fun K kp hK hkp => ?_)); simp (implicitDefEqProofs := false) (maxSteps := 2000000) (disch := omega) only [go_sem, eST, c0]; (repeat' (first | (refine hK _ ?_; clear hK hkp kp K) | (with_reducible refine And.intro ?_ ?_) | omega))) | ((first | refine goG_ask (fun h => ?_) (fun h => ?_) | refine goGD_ask (fun h => ?_) (fun h => ?_) | refine goGX_ask (fun h => ?_) (fun h => ?_)) <;> (simp (implicitDefEqProofs := false) (maxSteps := 2000000) (disch := omega) only [go_sem, eST, c0, h]; (repeat' (first | (refine hK _ ?_; clear hK hkp kp K) | (with_reducible refine And.intro ?_ ?_) | omega)))) | refine awp_cond_t rfl ?_ | refine awp_cond_f rfl ?_ | ((refine awp_cond rfl (fun h => ?_) (fun h => ?_) <;> try simp only [decide_eq_true_eq, decide_eq_false_iff_not, Int.not_lt, Int.not_le, Bool.not_eq_true, Bool.not_eq_false, bne_iff_ne, ne_eq, beq_iff_eq, bne_eq_false_iff_eq, beq_eq_false_iff_ne] at h) <;> (try (exfalso; omega))) | refine awp_ret ?_))
    (refine retA_is (by (simp (implicitDefEqProofs := false) (maxSteps := 2000000) (disch := omega) only [go_sem, Go.Proofs.Tryd.results63, bareB, c0]); rfl) ?_; refine (embV_nil hE (by simp) ?_).s; simp [oneA, ren, renL, bareB, c0])
  cases c1 : ((s.cols.length : Int) == (h.cols.length : Int))
  · (repeat' (first | refine awp_seq ?_ | refine awp_block ?_ | refine awp_skip ?_ | refine awp_exit ?_ | ((first | refine awp_r (by kernel_rfl) (fun K kp hK hkp => ?_)); simp (implicitDefEqProofs := false) (maxSteps := 2000000) (disch := omega) only [go_sem, eST, c0, c1]; (repeat' (first | (refine hK _ ?_; clear hK hkp kp K) | (with_reducible refine And.intro ?_ ?_) | omega))) | ((first | refine goG_ask (fun h => ?_) (fun h => ?_) | refine goGD_ask (fun h => ?_) (fun h => ?_) | refine goGX_ask (fun h => ?_) (fun h => ?_)) <;> (simp (implicitDefEqProofs := false) (maxSteps := 2000000) (disch := omega) only [go_sem, eST, c0, c1, h]; (repeat' (first | (refine hK _ ?_; clear hK hkp kp K) | (with_reducible refine And.intro ?_ ?_) | omega)))) | refine awp_cond_t rfl ?_ | refine awp_cond_f rfl ?_ | ((refine awp_cond rfl (fun h => ?_) (fun h => ?_) <;> try simp only [decide_eq_true_eq, decide_eq_false_iff_not, Int.not_lt, Int.not_le, Bool.not_eq_true, Bool.not_eq_false, bne_iff_ne, ne_eq, beq_iff_eq, bne_eq_false_iff_eq, beq_eq_false_iff_ne] at h) <;> (try (exfalso; omega))) | refine awp_ret ?_))
    (refine retA_is (by (simp (implicitDefEqProofs := false) (maxSteps := 2000000) (disch := omega) only [go_sem, Go.Proofs.Tryd.results63, bareB, c0, c1]); rfl) ?_; refine (embV_nil hE (by simp) ?_).s; simp [oneA, ren, renL, bareB, c0, c1])
  cases c2 : ((s.row.length : Int) == (h.row.length : Int))
  · (repeat' (first | refine awp_seq ?_ | refine awp_block ?_ | refine awp_skip ?_ | refine awp_exit ?_ | ((first | refine awp_r (by kernel_rfl) (fun K kp hK hkp => ?_)); simp (implicitDefEqProofs := false) (maxSteps := 2000000) (disch := omega) only [go_sem, eST, c0, c1, c2]; (repeat' (first | (refine hK _ ?_; clear hK hkp kp K) | (with_reducible refine And.intro ?_ ?_) | omega))) | ((first | refine goG_ask (fun h => ?_) (fun h => ?_) | refine goGD_ask (fun h => ?_) (fun h => ?_) | refine goGX_ask (fun h => ?_) (fun h => ?_)) <;> (simp (implicitDefEqProofs := false) (maxSteps := 2000000) (disch := omega) only [go_sem, eST, c0, c1, c2, h]; (repeat' (first | (refine hK _ ?_; clear hK hkp kp K) | (with_reducible refine And.intro ?_ ?_) | omega)))) | refine awp_cond_t rfl ?_ | refine awp_cond_f rfl ?_ | ((refine awp_cond rfl (fun h => ?_) (fun h => ?_) <;> try simp only [decide_eq_true_eq, decide_eq_false_iff_not, Int.not_lt, Int.not_le, Bool.not_eq_true, Bool.not_eq_false, bne_iff_ne, ne_eq, beq_iff_eq, bne_eq_false_iff_eq, beq_eq_false_iff_ne] at h) <;> (try (exfalso; omega))) | refine awp_ret ?_))
    (refine retA_is (by (simp (implicitDefEqProofs := false) (maxSteps := 2000000) (disch := omega) only [go_sem, Go.Proofs.Tryd.results63, bareB, c0, c1, c2]); rfl) ?_; refine (embV_nil hE (by simp) ?_).s; simp [oneA, ren, renL, bareB, c0, c1, c2])
  cases c3 : ((s.names.length : Int) == (h.names.length : Int))
  · (repeat' (first | refine awp_seq ?_ | refine awp_block ?_ | refine awp_skip ?_ | refine awp_exit ?_ | ((first | refine awp_r (by kernel_rfl) (fun K kp hK hkp => ?_)); simp (implicitDefEqProofs := false) (maxSteps := 2000000) (disch := omega) only [go_sem, eST, c0, c1, c2, c3]; (repeat' (first | (refine hK _ ?_; clear hK hkp kp K) | (with_reducible refine And.intro ?_ ?_) | omega))) | ((first | refine goG_ask (fun h => ?_) (fun h => ?_) | refine goGD_ask (fun h => ?_) (fun h => ?_) | refine goGX_ask (fun h => ?_) (fun h => ?_)) <;> (simp (implicitDefEqProofs := false) (maxSteps := 2000000) (disch := omega) only [go_sem, eST, c0, c1, c2, c3, h]; (repeat' (first | (refine hK _ ?_; clear hK hkp kp K) | (with_reducible refine And.intro ?_ ?_) | omega)))) | refine awp_cond_t rfl ?_ | refine awp_cond_f rfl ?_ | ((refine awp_cond rfl (fun h => ?_) (fun h => ?_) <;> try simp only [decide_eq_true_eq, decide_eq_false_iff_not, Int.not_lt, Int.not_le, Bool.not_eq_true, Bool.not_eq_false, bne_iff_ne, ne_eq, beq_iff_eq, bne_eq_false_iff_eq, beq_eq_false_iff_ne] at h) <;> (try (exfalso; omega))) | refine awp_ret ?_))
    (refine retA_is (by (simp (implicitDefEqProofs := false) (maxSteps := 2000000) (disch := omega) only [go_sem, Go.Proofs.Tryd.results63, bareB, c0, c1, c2, c3]); rfl) ?_; refine (embV_nil hE (by simp) ?_).s; simp [oneA, ren, renL, bareB, c0, c1, c2, c3])
  cases c4 : (s.count == h.count)
  · (repeat' (first | refine awp_seq ?_ | refine awp_block ?_ | refine awp_skip ?_ | refine awp_exit ?_ | ((first | refine awp_r (by kernel_rfl) (fun K kp hK hkp => ?_)); simp (implicitDefEqProofs := false) (maxSteps := 2000000) (disch := omega) only [go_sem, eST, c0, c1, c2, c3, c4]; (repeat' (first | (refine hK _ ?_; clear hK hkp kp K) | (with_reducible refine And.intro ?_ ?_) | omega))) | ((first | refine goG_ask (fun h => ?_) (fun h => ?_) | refine goGD_ask (fun h => ?_) (fun h => ?_) | refine goGX_ask (fun h => ?_) (fun h => ?_)) <;> (simp (implicitDefEqProofs := false) (maxSteps := 2000000) (disch := omega) only [go_sem, eST, c0, c1, c2, c3, c4, h]; (repeat' (first | (refine hK _ ?_; clear hK hkp kp K) | (with_reducible refine And.intro ?_ ?_) | omega)))) | refine awp_cond_t rfl ?_ | refine awp_cond_f rfl ?_ | ((refine awp_cond rfl (fun h => ?_) (fun h => ?_) <;> try simp only [decide_eq_true_eq, decide_eq_false_iff_not, Int.not_lt, Int.not_le, Bool.not_eq_true, Bool.not_eq_false, bne_iff_ne, ne_eq, beq_iff_eq, bne_eq_false_iff_eq, beq_eq_false_iff_ne] at h) <;> (try (exfalso; omega))) | refine awp_ret ?_))
    (refine retA_is (by (simp (implicitDefEqProofs := false) (maxSteps := 2000000) (disch := omega) only [go_sem, Go.Proofs.Tryd.results63, bareB, c0, c1, c2, c3, c4]); rfl) ?_; refine (embV_nil hE (by simp) ?_).s; simp [oneA, ren, renL, bareB, c0, c1, c2, c3, c4])
  cases c5 : ((s.wh.length : Int) == (h.wh.length : Int))
  · (repeat' (first | refine awp_seq ?_ | refine awp_block ?_ | refine awp_skip ?_ | refine awp_exit ?_ | ((first | refine awp_r (by kernel_rfl) (fun K kp hK hkp => ?_)); simp (implicitDefEqProofs := false) (maxSteps := 2000000) (disch := omega) only [go_sem, eST, c0, c1, c2, c3, c4, c5]; (repeat' (first | (refine hK _ ?_; clear hK hkp kp K) | (with_reducible refine And.intro ?_ ?_) | omega))) | ((first | refine goG_ask (fun h => ?_) (fun h => ?_) | refine goGD_ask (fun h => ?_) (fun h => ?_) | refine goGX_ask (fun h => ?_) (fun h => ?_)) <;> (simp (implicitDefEqProofs := false) (maxSteps := 2000000) (disch := omega) only [go_sem, eST, c0, c1, c2, c3, c4, c5, h]; (repeat' (first | (refine hK _ ?_; clear hK hkp kp K) | (with_reducible refine And.intro ?_ ?_) | omega)))) | refine awp_cond_t rfl ?_ | refine awp_cond_f rfl ?_ | ((refine awp_cond rfl (fun h => ?_) (fun h => ?_) <;> try simp only [decide_eq_true_eq, decide_eq_false_iff_not, Int.not_lt, Int.not_le, Bool.not_eq_true, Bool.not_eq_false, bne_iff_ne, ne_eq, beq_iff_eq, bne_eq_false_iff_eq, beq_eq_false_iff_ne] at h) <;> (try (exfalso; omega))) | refine awp_ret ?_))
    (refine retA_is (by (simp (implicitDefEqProofs := false) (maxSteps := 2000000) (disch := omega) only [go_sem, Go.Proofs.Tryd.results63, bareB, c0, c1, c2, c3, c4, c5]); rfl) ?_; refine (embV_nil hE (by simp) ?_).s; simp [oneA, ren, renL, bareB, c0, c1, c2, c3, c4, c5])
  cases c6 : (s.ord.toList == h.ord.toList)
  · (repeat' (first | refine awp_seq ?_ | refine awp_block ?_ | refine awp_skip ?_ | refine awp_exit ?_ | ((first | refine awp_r (by kernel_rfl) (fun K kp hK hkp => ?_)); simp (implicitDefEqProofs := false) (maxSteps := 2000000) (disch := omega) only [go_sem, eST, c0, c1, c2, c3, c4, c5, c6]; (repeat' (first | (refine hK _ ?_; clear hK hkp kp K) | (with_reducible refine And.intro ?_ ?_) | omega))) | ((first | refine goG_ask (fun h => ?_) (fun h => ?_) | refine goGD_ask (fun h => ?_) (fun h => ?_) | refine goGX_ask (fun h => ?_) (fun h => ?_)) <;> (simp (implicitDefEqProofs := false) (maxSteps := 2000000) (disch := omega) only [go_sem, eST, c0, c1, c2, c3, c4, c5, c6, h]; (repeat' (first | (refine hK _ ?_; clear hK hkp kp K) | (with_reducible refine And.intro ?_ ?_) | omega)))) | refine awp_cond_t rfl ?_ | refine awp_cond_f rfl ?_ | ((refine awp_cond rfl (fun h => ?_) (fun h => ?_) <;> try simp only [decide_eq_true_eq, decide_eq_false_iff_not, Int.not_lt, Int.not_le, Bool.not_eq_true, Bool.not_eq_false, bne_iff_ne, ne_eq, beq_iff_eq, bne_eq_false_iff_eq, beq_eq_false_iff_ne] at h) <;> (try (exfalso; omega))) | refine awp_ret ?_))
    (refine retA_is (by (simp (implicitDefEqProofs := false) (maxSteps := 2000000) (disch := omega) only [go_sem, Go.Proofs.Tryd.results63, bareB, c0, c1, c2, c3, c4, c5, c6]); rfl) ?_; refine (embV_nil hE (by simp) ?_).s; simp [oneA, ren, renL, bareB, c0, c1, c2, c3, c4, c5, c6])
  cases c7 : (s.down == h.down)
  · (repeat' (first | refine awp_seq ?_ | refine awp_block ?_ | refine awp_skip ?_ | refine awp_exit ?_ | ((first | refine awp_r (by kernel_rfl) (fun K kp hK hkp => ?_)); simp (implicitDefEqProofs := false) (maxSteps := 2000000) (disch := omega) only [go_sem, eST, c0, c1, c2, c3, c4, c5, c6, c7]; (repeat' (first | (refine hK _ ?_; clear hK hkp kp K) | (with_reducible refine And.intro ?_ ?_) | omega))) | ((first | refine goG_ask (fun h => ?_) (fun h => ?_) | refine goGD_ask (fun h => ?_) (fun h => ?_) | refine goGX_ask (fun h => ?_) (fun h => ?_)) <;> (simp (implicitDefEqProofs := false) (maxSteps := 2000000) (disch := omega) only [go_sem, eST, c0, c1, c2, c3, c4, c5, c6, c7, h]; (repeat' (first | (refine hK _ ?_; clear hK hkp kp K) | (with_reducible refine And.intro ?_ ?_) | omega)))) | refine awp_cond_t rfl ?_ | refine awp_cond_f rfl ?_ | ((refine awp_cond rfl (fun h => ?_) (fun h => ?_) <;> try simp only [decide_eq_true_eq, decide_eq_false_iff_not, Int.not_lt, Int.not_le, Bool.not_eq_true, Bool.not_eq_false, bne_iff_ne, ne_eq, beq_iff_eq, bne_eq_false_iff_eq, beq_eq_false_iff_ne] at h) <;> (try (exfalso; omega))) | refine awp_ret ?_))
    (refine retA_is (by (simp (implicitDefEqProofs := false) (maxSteps := 2000000) (disch := omega) only [go_sem, Go.Proofs.Tryd.results63, bareB, c0, c1, c2, c3, c4, c5, c6, c7]); rfl) ?_; refine (embV_nil hE (by simp) ?_).s; simp [oneA, ren, renL, bareB, c0, c1, c2, c3, c4, c5, c6, c7])
  cases c8 : (s.lim == h.lim)
  · (repeat' (first | refine awp_seq ?_ | refine awp_block ?_ | refine awp_skip ?_ | refine awp_exit ?_ | ((first | refine awp_r (by kernel_rfl) (fun K kp hK hkp => ?_)); simp (implicitDefEqProofs := false) (maxSteps := 2000000) (disch := omega) only [go_sem, eST, c0, c1, c2, c3, c4, c5, c6, c7, c8]; (repeat' (first | (refine hK _ ?_; clear hK hkp kp K) | (with_reducible refine And.intro ?_ ?_) | omega))) | ((first | refine goG_ask (fun h => ?_) (fun h => ?_) | refine goGD_ask (fun h => ?_) (fun h => ?_) | refine goGX_ask (fun h => ?_) (fun h => ?_)) <;> (simp (implicitDefEqProofs := false) (maxSteps := 2000000) (disch := omega) only [go_sem, eST, c0, c1, c2, c3, c4, c5, c6, c7, c8, h]; (repeat' (first | (refine hK _ ?_; clear hK hkp kp K) | (with_reducible refine And.intro ?_ ?_) | omega)))) | refine awp_cond_t rfl ?_ | refine awp_cond_f rfl ?_ | ((refine awp_cond rfl (fun h => ?_) (fun h => ?_) <;> try simp only [decide_eq_true_eq, decide_eq_false_iff_not, Int.not_lt, Int.not_le, Bool.not_eq_true, Bool.not_eq_false, bne_iff_ne, ne_eq, beq_iff_eq, bne_eq_false_iff_eq, beq_eq_false_iff_ne] at h) <;> (try (exfalso; omega))) | refine awp_ret ?_))
    (refine retA_is (by (simp (implicitDefEqProofs := false) (maxSteps := 2000000) (disch := omega) only [go_sem, Go.Proofs.Tryd.results63, bareB, c0, c1, c2, c3, c4, c5, c6, c7, c8]); rfl) ?_; refine (embV_nil hE (by simp) ?_).s; simp [oneA, ren, renL, bareB, c0, c1, c2, c3, c4, c5, c6, c7, c8])
  cases c9 : (s.set.toList == h.set.toList)
  · (repeat' (first | refine awp_seq ?_ | refine awp_block ?_ | refine awp_skip ?_ | refine awp_exit ?_ | ((first | refine awp_r (by kernel_rfl) (fun K kp hK hkp => ?_)); simp (implicitDefEqProofs := false) (maxSteps := 2000000) (disch := omega) only [go_sem, eST, c0, c1, c2, c3, c4, c5, c6, c7, c8, c9]; (repeat' (first | (refine hK _ ?_; clear hK hkp kp K) | (with_reducible refine And.intro ?_ ?_) | omega))) | ((first | refine goG_ask (fun h => ?_) (fun h => ?_) | refine goGD_ask (fun h => ?_) (fun h => ?_) | refine goGX_ask (fun h => ?_) (fun h => ?_)) <;> (simp (implicitDefEqProofs := false) (maxSteps := 2000000) (disch := omega) only [go_sem, eST, c0, c1, c2, c3, c4, c5, c6, c7, c8, c9, h]; (repeat' (first | (refine hK _ ?_; clear hK hkp kp K) | (with_reducible refine And.intro ?_ ?_) | omega)))) | refine awp_cond_t rfl ?_ | refine awp_cond_f rfl ?_ | ((refine awp_cond rfl (fun h => ?_) (fun h => ?_) <;> try simp only [decide_eq_true_eq, decide_eq_false_iff_not, Int.not_lt, Int.not_le, Bool.not_eq_true, Bool.not_eq_false, bne_iff_ne, ne_eq, beq_iff_eq, bne_eq_false_iff_eq, beq_eq_false_iff_ne] at h) <;> (try (exfalso; omega))) | refine awp_ret ?_))
    (refine retA_is (by (simp (implicitDefEqProofs := false) (maxSteps := 2000000) (disch := omega) only [go_sem, Go.Proofs.Tryd.results63, bareB, c0, c1, c2, c3, c4, c5, c6, c7, c8, c9]); rfl) ?_; refine (embV_nil hE (by simp) ?_).s; simp [oneA, ren, renL, bareB, c0, c1, c2, c3, c4, c5, c6, c7, c8, c9])
  cases c10 : ((s.to.length : Int) == (h.to.length : Int))
  · (repeat' (first | refine awp_seq ?_ | refine awp_block ?_ | refine awp_skip ?_ | refine awp_exit ?_ | ((first | refine awp_r (by kernel_rfl) (fun K kp hK hkp => ?_)); simp (implicitDefEqProofs := false) (maxSteps := 2000000) (disch := omega) only [go_sem, eST, c0, c1, c2, c3, c4, c5, c6, c7, c8, c9, c10]; (repeat' (first | (refine hK _ ?_; clear hK hkp kp K) | (with_reducible refine And.intro ?_ ?_) | omega))) | ((first | refine goG_ask (fun h => ?_) (fun h => ?_) | refine goGD_ask (fun h => ?_) (fun h => ?_) | refine goGX_ask (fun h => ?_) (fun h => ?_)) <;> (simp (implicitDefEqProofs := false) (maxSteps := 2000000) (disch := omega) only [go_sem, eST, c0, c1, c2, c3, c4, c5, c6, c7, c8, c9, c10, h]; (repeat' (first | (refine hK _ ?_; clear hK hkp kp K) | (with_reducible refine And.intro ?_ ?_) | omega)))) | refine awp_cond_t rfl ?_ | refine awp_cond_f rfl ?_ | ((refine awp_cond rfl (fun h => ?_) (fun h => ?_) <;> try simp only [decide_eq_true_eq, decide_eq_false_iff_not, Int.not_lt, Int.not_le, Bool.not_eq_true, Bool.not_eq_false, bne_iff_ne, ne_eq, beq_iff_eq, bne_eq_false_iff_eq, beq_eq_false_iff_ne] at h) <;> (try (exfalso; omega))) | refine awp_ret ?_))
    (refine retA_is (by (simp (implicitDefEqProofs := false) (maxSteps := 2000000) (disch := omega) only [go_sem, Go.Proofs.Tryd.results63, bareB, c0, c1, c2, c3, c4, c5, c6, c7, c8, c9, c10]); rfl) ?_; refine (embV_nil hE (by simp) ?_).s; simp [oneA, ren, renL, bareB, c0, c1, c2, c3, c4, c5, c6, c7, c8, c9, c10])
  (repeat' (first | refine awp_seq ?_ | refine awp_block ?_ | refine awp_skip ?_ | refine awp_exit ?_ | ((first | refine awp_r (by kernel_rfl) (fun K kp hK hkp => ?_)); simp (implicitDefEqProofs := false) (maxSteps := 2000000) (disch := omega) only [go_sem, eST, c0, c1, c2, c3, c4, c5, c6, c7, c8, c9, c10]; (repeat' (first | (refine hK _ ?_; clear hK hkp kp K) | (with_reducible refine And.intro ?_ ?_) | omega))) | ((first | refine goG_ask (fun h => ?_) (fun h => ?_) | refine goGD_ask (fun h => ?_) (fun h => ?_) | refine goGX_ask (fun h => ?_) (fun h => ?_)) <;> (simp (implicitDefEqProofs := false) (maxSteps := 2000000) (disch := omega) only [go_sem, eST, c0, c1, c2, c3, c4, c5, c6, c7, c8, c9, c10, h]; (repeat' (first | (refine hK _ ?_; clear hK hkp kp K) | (with_reducible refine And.intro ?_ ?_) | omega)))) | refine awp_cond_t rfl ?_ | refine awp_cond_f rfl ?_ | ((refine awp_cond rfl (fun h => ?_) (fun h => ?_) <;> try simp only [decide_eq_true_eq, decide_eq_false_iff_not, Int.not_lt, Int.not_le, Bool.not_eq_true, Bool.not_eq_false, bne_iff_ne, ne_eq, beq_iff_eq, bne_eq_false_iff_eq, beq_eq_false_iff_ne] at h) <;> (try (exfalso; omega))) | refine awp_ret ?_))
  (refine retA_is (by (simp (implicitDefEqProofs := false) (maxSteps := 2000000) (disch := omega) only [go_sem, Go.Proofs.Tryd.results63, bareB, c0, c1, c2, c3, c4, c5, c6, c7, c8, c9, c10]); rfl) ?_; refine (embV_nil hE (by simp) ?_).s; simp [oneA, ren, renL, bareB, c0, c1, c2, c3, c4, c5, c6, c7, c8, c9, c10])
end Go.AM
/- Lists that are copied. -/
namespace Go.AM
open Go Go.RowKit
open Go.Proofs.YtoecmmpjndcolaaDoor (OP nameM litM exprM marksS wordsS StrsAt str SlAt)
attribute [local irreducible] AWP retA
theorem cols_copy (G : List (Nat × List Value)) (t : Bool) (l : List CO) (hl : l.length ≤ 1048576) : Con Go.Proofs.Tryd.prog G 10 [.ro t 2 (l.map eC)] [] 0 (Is (.ro true 2 (l.map eC)) [] 0) No := by
  refine con_of_awp Go.Proofs.Tryd.func10 rfl (by kernel_rfl) (of_decide_eq_true (by kernel_rfl)) ?_; intro E hG hE; subst hG; simp only [ent]
  (repeat' (first | refine awp_seq ?_ | refine awp_block ?_ | refine awp_skip ?_ | refine awp_exit ?_ | ((first | refine awp_r (by kernel_rfl) (fun K kp hK hkp => ?_)); simp (implicitDefEqProofs := false) (maxSteps := 2000000) (disch := omega) only [go_sem]; (repeat' (first | (refine hK _ ?_; clear hK hkp kp K) | (with_reducible refine And.intro ?_ ?_) | omega))) | ((first | refine goG_ask (fun h => ?_) (fun h => ?_) | refine goGD_ask (fun h => ?_) (fun h => ?_) | refine goGX_ask (fun h => ?_) (fun h => ?_)) <;> (simp (implicitDefEqProofs := false) (maxSteps := 2000000) (disch := omega) only [go_sem, h]; (repeat' (first | (refine hK _ ?_; clear hK hkp kp K) | (with_reducible refine And.intro ?_ ?_) | omega)))) | refine awp_cond_t rfl ?_ | refine awp_cond_f rfl ?_ | ((refine awp_cond rfl (fun h => ?_) (fun h => ?_) <;> try simp only [decide_eq_true_eq, decide_eq_false_iff_not, Int.not_lt, Int.not_le, Bool.not_eq_true, Bool.not_eq_false, bne_iff_ne, ne_eq, beq_iff_eq, bne_eq_false_iff_eq, beq_eq_false_iff_ne] at h) <;> (try (exfalso; omega))) | refine awp_ret ?_))
  (refine retA_is (by (simp (implicitDefEqProofs := false) (maxSteps := 2000000) (disch := omega) only [go_sem, Go.Proofs.Tryd.results10]); rfl) ?_; refine embS_frz (by simp only [oneA]; simp (implicitDefEqProofs := false) (maxSteps := 2000000) (disch := omega) only [go_sem]; rfl) ?_; refine (embV_nil hE (by simp) ?_).s; simp [oneA, ren, renL])
theorem values_copy (G : List (Nat × List Value)) (t : Bool) (l : List V) (hl : l.length ≤ 1048576) : Con Go.Proofs.Tryd.prog G 13 [.ro t 3 (l.map eV)] [] 0 (Is (.ro true 3 (l.map eV)) [] 0) No := by
  refine con_of_awp Go.Proofs.Tryd.func13 rfl (by kernel_rfl) (of_decide_eq_true (by kernel_rfl)) ?_; intro E hG hE; subst hG; simp only [ent]
  (repeat' (first | refine awp_seq ?_ | refine awp_block ?_ | refine awp_skip ?_ | refine awp_exit ?_ | ((first | refine awp_r (by kernel_rfl) (fun K kp hK hkp => ?_)); simp (implicitDefEqProofs := false) (maxSteps := 2000000) (disch := omega) only [go_sem]; (repeat' (first | (refine hK _ ?_; clear hK hkp kp K) | (with_reducible refine And.intro ?_ ?_) | omega))) | ((first | refine goG_ask (fun h => ?_) (fun h => ?_) | refine goGD_ask (fun h => ?_) (fun h => ?_) | refine goGX_ask (fun h => ?_) (fun h => ?_)) <;> (simp (implicitDefEqProofs := false) (maxSteps := 2000000) (disch := omega) only [go_sem, h]; (repeat' (first | (refine hK _ ?_; clear hK hkp kp K) | (with_reducible refine And.intro ?_ ?_) | omega)))) | refine awp_cond_t rfl ?_ | refine awp_cond_f rfl ?_ | ((refine awp_cond rfl (fun h => ?_) (fun h => ?_) <;> try simp only [decide_eq_true_eq, decide_eq_false_iff_not, Int.not_lt, Int.not_le, Bool.not_eq_true, Bool.not_eq_false, bne_iff_ne, ne_eq, beq_iff_eq, bne_eq_false_iff_eq, beq_eq_false_iff_ne] at h) <;> (try (exfalso; omega))) | refine awp_ret ?_))
  (refine retA_is (by (simp (implicitDefEqProofs := false) (maxSteps := 2000000) (disch := omega) only [go_sem, Go.Proofs.Tryd.results13]); rfl) ?_; refine embS_frz (by simp only [oneA]; simp (implicitDefEqProofs := false) (maxSteps := 2000000) (disch := omega) only [go_sem]; rfl) ?_; refine (embV_nil hE (by simp) ?_).s; simp [oneA, ren, renL])
@[simp] theorem ptA_eO (a : OP) : (∀ x, x ∈ eO a → PT x) = True := eq_true (by intro x hx; simp [eO] at hx; rcases hx with rfl | rfl | rfl | rfl | rfl <;> exact .r _)
instance : PTf eO := ⟨fun a => of_eq_true (ptA_eO a)⟩
theorem ops_copy (G : List (Nat × List Value)) (t : Bool) (l : List OP) (hl : l.length ≤ 1048576) : Con Go.Proofs.Tryd.prog G 16 [.ro t 5 (l.map eO)] [] 0 (Is (.ro true 5 (l.map eO)) [] 0) No := by
  refine con_of_awp Go.Proofs.Tryd.func16 rfl (by kernel_rfl) (of_decide_eq_true (by kernel_rfl)) ?_; intro E hG hE; subst hG; simp only [ent]
  (repeat' (first | refine awp_seq ?_ | refine awp_block ?_ | refine awp_skip ?_ | refine awp_exit ?_ | ((first | refine awp_r (by kernel_rfl) (fun K kp hK hkp => ?_)); simp (implicitDefEqProofs := false) (maxSteps := 2000000) (disch := omega) only [go_sem]; (repeat' (first | (refine hK _ ?_; clear hK hkp kp K) | (with_reducible refine And.intro ?_ ?_) | omega))) | ((first | refine goG_ask (fun h => ?_) (fun h => ?_) | refine goGD_ask (fun h => ?_) (fun h => ?_) | refine goGX_ask (fun h => ?_) (fun h => ?_)) <;> (simp (implicitDefEqProofs := false) (maxSteps := 2000000) (disch := omega) only [go_sem, h]; (repeat' (first | (refine hK _ ?_; clear hK hkp kp K) | (with_reducible refine And.intro ?_ ?_) | omega)))) | refine awp_cond_t rfl ?_ | refine awp_cond_f rfl ?_ | ((refine awp_cond rfl (fun h => ?_) (fun h => ?_) <;> try simp only [decide_eq_true_eq, decide_eq_false_iff_not, Int.not_lt, Int.not_le, Bool.not_eq_true, Bool.not_eq_false, bne_iff_ne, ne_eq, beq_iff_eq, bne_eq_false_iff_eq, beq_eq_false_iff_ne] at h) <;> (try (exfalso; omega))) | refine awp_ret ?_))
  (refine retA_is (by (simp (implicitDefEqProofs := false) (maxSteps := 2000000) (disch := omega) only [go_sem, Go.Proofs.Tryd.results16]); rfl) ?_; refine embS_frz (by simp only [oneA]; simp (implicitDefEqProofs := false) (maxSteps := 2000000) (disch := omega) only [go_sem]; rfl) ?_; refine (embV_nil hE (by simp) ?_).s; simp [oneA, ren, renL])
end Go.AM
namespace Go.Proofs.YtoecmmpjndcolaaDoor
open Go.RowKit Go.AM
theorem cellsOpA : Tryd.prog.cellsOf 79 = 5 := by kernel_rfl
end Go.Proofs.YtoecmmpjndcolaaDoor
/- How arguments and the listed tables read: the seat of lex and parse. -/
namespace Go.Proofs.YtoecmmpjndcolaaDoor
open Go.ChangeShapes Go.WideShapes Go.ChangeAt Go.RowKit
theorem cellsToken : Tryd.prog.cellsOf 61 = 3 := by kernel_rfl
set_option maxRecDepth 100000 in
theorem open_token {H : Type} {enc : TypeId × Value → H} {w : World} {base : Nat} {spare : Nat → Bool} {held : Bool} {b0 : Nat} {v : Value} {d : DataW H} {p : List MemPlace}
    (hv : Value.okWide Tryd.prog w .any b0 61 v) (h : DataW.Trod enc Tryd.prog w base spare held 61 v d p) :
    ∃ (k : Int) (s : ByteArray) (n : Int), v = .agg #[.int .i64 k, .string s, .int .i64 n] ∧ (Lit.int .i64 k).wf = true ∧ (Lit.int .i64 n).wf = true ∧ s.size ≤ maxLen := by
  obtain ⟨c0, c1, c2, y0, y1, y2, m, rfl, _, _, h0, h1, h2⟩ := Joins.open_agg3 Tryd.underlying61 (by kernel_rfl) cellsToken hv h
  obtain ⟨k, e0, _, w0⟩ := DataW.trod_int Tryd.underlying3 h0
  obtain ⟨s, e1, _, w1⟩ := DataW.trod_string Tryd.underlying9 h1
  obtain ⟨n, e2, _, w2⟩ := DataW.trod_int Tryd.underlying3 h2
  simp at e0 e1 e2
  subst e0 e1 e2
  exact ⟨k, s, n, rfl, w0, w2, w1⟩
set_option maxRecDepth 100000 in
theorem open_str {H : Type} {enc : TypeId × Value → H} {w : World} {base : Nat} {spare : Nat → Bool} {held : Bool} {b0 : Nat} {v : Value} {d : DataW H} {p : List MemPlace}
    (hv : Value.okWide Tryd.prog w .any b0 9 v) (h : DataW.Trod enc Tryd.prog w base spare held 9 v d p) : ∃ s : ByteArray, v = .string s ∧ s.size ≤ maxLen := by
  obtain ⟨s, rfl, _, _, w0⟩ := Go.ChangeMaps.open_string Tryd.underlying9 hv h
  exact ⟨s, rfl, w0⟩
/-- An array of strings, as laid: its cells. -/
theorem arrS {P : Program} {w : World} {t e : TypeId} {n fuel : Nat} {cs : List Value} {ls : List (List UInt8)} {p : List MemPlace} {base : Nat} {spare : Nat → Bool} {held : Bool}
    (ht : P.underlying t = some (.array n e)) (he : P.underlying e = some .string) (hce : P.cellsOf e = 1)
    (h : DataW.trod (fun _ => ()) P w base spare held fuel t cs = some (.agg (ls.map fun l => .lit (.string l)), p)) :
    ls.length = n ∧ ∀ j : Nat, j < n → cs[j]? = some (.string (str (ls.getD j []))) := by
  obtain ⟨xs, m', rfl, hx, hl, hn, hi⟩ := DataW.trod_array ht h
  simp only [Prod.mk.injEq, DataW.agg.injEq] at hx
  have hlen : ls.length = n := by
    have := congrArg List.length hx.1
    simpa [hn] using this
  refine ⟨hlen, fun j hj => ?_⟩
  have h1 := hi j hj
  obtain ⟨y, hy⟩ : ∃ y, xs[j]? = some y := ⟨xs[j], by simp [hn, hj]⟩
  rw [hy] at h1
  obtain ⟨s, e1, rfl, _⟩ := DataW.trod_string he h1
  have h2 := congrArg (fun l => l[j]?) hx.1
  simp only [List.getElem?_map, hy, Option.map_some] at h2
  have hj' : j < ls.length := by omega
  rw [List.getElem?_eq_getElem hj'] at h2
  simp only [Option.map_some, Option.some.injEq, DataW.lit.injEq, Lit.string.injEq] at h2
  rw [hce] at e1
  have h4 := congrArg (fun l => l[0]?) e1
  simp at h4
  rw [h4]
  have : s = str (ls.getD j []) := by
    rw [List.getD, List.getElem?_eq_getElem hj', Option.getD_some, h2]
    rfl
  rw [this]
def marksL : List (List UInt8) := [[60, 61], [62, 61], [60, 62], [40], [41], [44], [42], [43], [45], [61], [60], [62]]
theorem gMarks : Tryd.prog.globalNamed "padlock/lex.marks" = some 1 := by kernel_rfl
theorem gMarksT : (Tryd.prog.globals[1]?).map (·.type) = some 99 := by kernel_rfl
set_option maxRecDepth 100000 in
theorem marks_head {W : World} {rest : List (String × DataW Unit)} {ps : List MemPlace} (h : DataW.LaidVars Tryd.prog W (("padlock/lex.marks", Rows.laid_padlock_lex_marks) :: rest) ps) :
    StrsAt W 1 marksS ∧ 1 < W.heap.size ∧ ∃ q, DataW.LaidVars Tryd.prog W rest q := by
  obtain ⟨g, t, cs, fuel, p, q, hg, ht, hvar, hd, hr, _⟩ := h
  obtain rfl := Option.some.inj (gMarks.symm.trans hg)
  obtain rfl := Option.some.inj (gMarksT.symm.trans ht)
  have e : (Rows.laid_padlock_lex_marks : DataW Unit) = .agg (marksL.map fun l => .lit (.string l)) := rfl
  rw [e] at hd
  obtain ⟨h1, h2⟩ := arrS Tryd.underlying99 Tryd.underlying9 (by kernel_rfl) hd
  have hc : ∀ j : Nat, j < 12 → W.cell? ⟨1, j, none⟩ = some (.string (str (marksL.getD j []))) := fun j hj => by
    rw [World.var?_cell gMarks hvar]
    have := h2 j hj
    rwa [Array.getElem?_toList] at this
  refine ⟨fun j hj => ?_, ?_, q, hr⟩
  · rw [hc j hj]
    have : marksS = marksL.map str := rfl
    rw [this, List.getD, List.getD, List.getElem?_map, List.getElem?_eq_getElem (show j < marksL.length from hj)]
    rfl
  · have h0 := hc 0 (by decide)
    rcases Nat.lt_or_ge 1 W.heap.size with h | h
    · exact h
    · simp [World.cell?, Array.getElem?_eq_none h] at h0
end Go.Proofs.YtoecmmpjndcolaaDoor
/- What the listed variables of the row ParseNames hold. -/
namespace Go.Proofs.YtoecmmpjndcolaaDoor
open Go.ChangeShapes Go.WideShapes Go.ChangeAt Go.RowKit
theorem gWords : Tryd.prog.globalNamed "padlock/parse.words" = some 2 := by kernel_rfl
theorem gWordsT : (Tryd.prog.globals[2]?).map (·.type) = some 113 := by kernel_rfl
set_option maxRecDepth 100000 in
theorem words_head {W : World} {rest : List (String × DataW Unit)} {ps : List MemPlace} (h : DataW.LaidVars Tryd.prog W (("padlock/parse.words", Rows.laid_padlock_parse_words) :: rest) ps) :
    StrsAt W 2 wordsS ∧ 2 < W.heap.size ∧ ∃ q, DataW.LaidVars Tryd.prog W rest q := by
  obtain ⟨g, t, cs, fuel, p, q, hg, ht, hvar, hd, hr, _⟩ := h
  obtain rfl := Option.some.inj (gWords.symm.trans hg)
  obtain rfl := Option.some.inj (gWordsT.symm.trans ht)
  have e : (Rows.laid_padlock_parse_words : DataW Unit) = .agg (wordsL.map fun l => .lit (.string l)) := rfl
  rw [e] at hd
  obtain ⟨h1, h2⟩ := arrS Tryd.underlying113 Tryd.underlying9 (by kernel_rfl) hd
  have hc : ∀ j : Nat, j < 30 → W.cell? ⟨2, j, none⟩ = some (.string (str (wordsL.getD j []))) := fun j hj => by
    rw [World.var?_cell gWords hvar]
    have := h2 j hj
    rwa [Array.getElem?_toList] at this
  refine ⟨fun j hj => ?_, ?_, q, hr⟩
  · rw [hc j hj]
    have : wordsS = wordsL.map str := rfl
    rw [this, List.getD, List.getD, List.getElem?_map, List.getElem?_eq_getElem (show j < wordsL.length from hj)]
    rfl
  · have h0 := hc 0 (by decide)
    rcases Nat.lt_or_ge 2 W.heap.size with h | h
    · exact h
    · simp [World.cell?, Array.getElem?_eq_none h] at h0
end Go.Proofs.YtoecmmpjndcolaaDoor
/- What the listed variables hold; how columns that came in read. -/
namespace Go.Proofs.YtoecmmpjndcolaaDoor
open Go.ChangeShapes Go.WideShapes Go.ChangeAt Go.RowKit Go.AM
def typesL : List (List UInt8) := [[], [66, 79, 79, 76], [73, 78, 84], [84, 69, 88, 84]]
theorem gTypes : Tryd.prog.globalNamed "padlock/parse.types" = some 0 := by kernel_rfl
theorem gTypesT : (Tryd.prog.globals[0]?).map (·.type) = some 88 := by kernel_rfl
set_option maxRecDepth 100000 in
theorem types_head {W : World} {rest : List (String × DataW Unit)} {ps : List MemPlace} (h : DataW.LaidVars Tryd.prog W (("padlock/parse.types", Rows.laid_padlock_parse_types) :: rest) ps) :
    (∀ j : Nat, j < 4 → W.cell? ⟨0, j, none⟩ = some (.string (str (typesL.getD j [])))) ∧ 0 < W.heap.size ∧ ∃ q, DataW.LaidVars Tryd.prog W rest q := by
  obtain ⟨g, t, cs, fuel, p, q, hg, ht, hvar, hd, hr, _⟩ := h
  obtain rfl := Option.some.inj (gTypes.symm.trans hg)
  obtain rfl := Option.some.inj (gTypesT.symm.trans ht)
  have e : (Rows.laid_padlock_parse_types : DataW Unit) = .agg (typesL.map fun l => .lit (.string l)) := rfl
  rw [e] at hd
  obtain ⟨h1, h2⟩ := arrS Tryd.underlying88 Tryd.underlying9 (by kernel_rfl) hd
  have hc : ∀ j : Nat, j < 4 → W.cell? ⟨0, j, none⟩ = some (.string (str (typesL.getD j []))) := fun j hj => by
    rw [World.var?_cell gTypes hvar]
    have := h2 j hj
    rwa [Array.getElem?_toList] at this
  refine ⟨hc, ?_, q, hr⟩
  have h0 := hc 0 (by decide)
  rcases Nat.lt_or_ge 0 W.heap.size with h | h
  · exact h
  · simp [World.cell?, Array.getElem?_eq_none h] at h0
/-- The package's tables. -/
def GT : List (Nat × List Value) := [(0, typesV.map .string), (1, marksS.map .string), (2, wordsS.map .string)]
theorem tabsGT : Tabs GT := ⟨by simp [GT], by simp [GT], rfl⟩
theorem tabs_all {W : World} (h : laidMetH Tryd.prog [("padlock/lex.marks", Rows.laid_padlock_lex_marks), ("padlock/parse.words", Rows.laid_padlock_parse_words), ("padlock/parse.types", Rows.laid_padlock_parse_types)] W) : Globs GT W := by
  obtain ⟨ps, h, _⟩ := h
  obtain ⟨h1, h2, q, h3⟩ := marks_head h
  obtain ⟨h4, h5, q2, h6⟩ := words_head h3
  obtain ⟨h7, h8, _⟩ := types_head h6
  intro g cs hg
  simp only [GT, List.mem_cons, Prod.mk.injEq, List.not_mem_nil, or_false] at hg
  rcases hg with ⟨rfl, rfl⟩ | ⟨rfl, rfl⟩ | ⟨rfl, rfl⟩
  · refine ⟨h8, fun j u hu => ?_⟩
    have hj : j < 4 := by have := (List.getElem?_eq_some_iff.1 hu).1; simpa [typesV] using this
    rw [h7 j hj, ← hu]
    match j, hj with
    | 0, _ => rfl
    | 1, _ => rfl
    | 2, _ => rfl
    | 3, _ => rfl
  · refine ⟨h2, fun j u hu => ?_⟩
    have hj := (List.getElem?_eq_some_iff.1 hu).1
    rw [List.length_map] at hj
    rw [h1 j hj, ← hu, List.getElem?_map, List.getD, List.getElem?_eq_getElem hj]; rfl
  · refine ⟨h5, fun j u hu => ?_⟩
    have hj := (List.getElem?_eq_some_iff.1 hu).1
    rw [List.length_map] at hj
    rw [h4 j hj, ← hu, List.getElem?_map, List.getD, List.getElem?_eq_getElem hj]; rfl
theorem cellsCol : Tryd.prog.cellsOf 55 = 2 := by kernel_rfl
set_option maxRecDepth 100000 in
theorem leaf_col {H : Type} {E : TypeId × Value → H} {w : World} {base : Nat} {spare : Nat → Bool} {held : Bool} (fuel : Nat) (cs : List Value) (x : DataW H × List MemPlace)
    (h : DataW.trod E Tryd.prog w base spare held fuel 55 cs = some x) : ∃ y : CO, Reps w (zAll w) [] (eC y) cs ∧ (∀ v ∈ cs, v.oneCell' = true) ∧ okS y.nm := by
  obtain ⟨y0, y1, n, _, hl, h0, h1⟩ := trod_struct2 Tryd.underlying55 h
  rw [cellsCol] at hl
  obtain ⟨c0, c1, rfl⟩ : ∃ a b, cs = [a, b] := by
    match cs, hl with
    | [a, b], _ => exact ⟨a, b, rfl⟩
  obtain ⟨s, e0, _, w0⟩ := DataW.trod_string Tryd.underlying9 h0
  obtain ⟨k, e1, _, _⟩ := DataW.trod_int Tryd.underlying3 h1
  rw [show Tryd.prog.cellsOf 9 = 1 by kernel_rfl] at e0
  rw [show Tryd.prog.cellsOf 3 = 1 by kernel_rfl] at e1
  simp at e0 e1
  subst e0 e1
  exact ⟨⟨s, k⟩, .cons (.r _ _) (.cons (.r _ _) .nil), by simp [Value.oneCell'], w0⟩
set_option maxRecDepth 100000 in
/-- Columns that came in. -/
theorem open_cols {H : Type} {E : TypeId × Value → H} {w : World} {base : Nat} {spare : Nat → Bool} {held : Bool} {b0 : Nat} {v : Value} {d : DataW H} {p : List MemPlace}
    (hv : Value.okWide Tryd.prog w .any b0 22 v) (h : DataW.Trod E Tryd.prog w base spare held 22 v d p) :
    ∃ l : List CO, Rep w (zAll w) [] (.ro true 2 (l.map eC)) v ∧ l.length ≤ Rows.uptoBulk d ∧ ∀ c ∈ l, okS c.nm := by
  obtain ⟨f, hf⟩ := h
  obtain ⟨u, l, h1, h2, _, h3⟩ := open_ro eC (fun y _ => okS y.nm) true Tryd.underlying22 cellsCol (by omega) leaf_col hf
  obtain ⟨a', n', c', rfl⟩ := okWide_slice Tryd.underlying22 hv
  obtain rfl : Value.slice a' n' c' = u := List.head_eq_of_cons_eq (show [Value.slice a' n' c'] = [u] from h1)
  refine ⟨l, h2, bulk_of h3, fun c hc => ?_⟩
  obtain ⟨i, hi⟩ := List.mem_iff_getElem?.1 hc
  rcases h3 with ⟨rfl, _⟩ | ⟨ds, rest, _, _, h6⟩
  · simp at hi
  · exact (h6 i c hi).choose_spec.2
end Go.Proofs.YtoecmmpjndcolaaDoor
/- The abstract machine, 21: regions that draw their order, where what allocates is not ordered: whatever order, the state comes out as in the written one. -/
namespace Go.AM
open Go
/-- The first says no more than the second. -/
structure AS.le (s s' : AS) : Prop where
  m : ∀ i x, lk s.m i = some x → lk s'.m i = some x
  o : ∀ i x, lk s.o i = some x → lk s'.o i = some x
section
variable {G : List (Nat × List Value)} {s s' : AS}
theorem ev_mono (h : s.le s') {x : Operand} {v : AV} (he : ev s G x = some v) : ev s' G x = some v := by
  cases x with
  | tmp t => exact h.m _ _ he
  | const v => exact he
  | global g => exact he
  | func f => exact he
theorem evs_mono (h : s.le s') : ∀ {l : List Operand} {c : List AV}, evs s G l = some c → evs s' G l = some c
  | [], c, he => he
  | x :: r, c, he => by
    simp only [evs] at he ⊢
    split at he
    · rename_i a l h1 h2; cases he; rw [ev_mono h h1, evs_mono h h2]
    · cases he
mutual
theorem bor_mono (h : s.le s') : ∀ (x : AV) {y : AV}, bor s x = some y → bor s' x = some y
  | .s n lo len, y, hb => by
    simp only [bor] at hb ⊢
    split at hb
    · rename_i T k els hn; rw [h.o _ _ hn]; exact hb
    · cases hb
  | .p n i off, y, hb => by
    simp only [bor] at hb ⊢
    split at hb
    · rename_i T c hn; rw [h.o _ _ hn]; exact hb
    · cases hb
  | .r u, y, hb => hb
  | .ro t k els, y, hb => hb
  | .re t c off, y, hb => hb
  | .agg c, y, hb => by
    simp only [bor, Option.map_eq_some_iff] at hb ⊢
    obtain ⟨c', h1, h2⟩ := hb; exact ⟨c', borL_mono h c h1, h2⟩
  | .tup c, y, hb => by
    simp only [bor, Option.map_eq_some_iff] at hb ⊢
    obtain ⟨c', h1, h2⟩ := hb; exact ⟨c', borL_mono h c h1, h2⟩
  | .fn f c, y, hb => by
    simp only [bor, Option.map_eq_some_iff] at hb ⊢
    obtain ⟨c', h1, h2⟩ := hb; exact ⟨c', borL_mono h c h1, h2⟩
  | .ifc t x, y, hb => by
    simp only [bor, Option.map_eq_some_iff] at hb ⊢
    obtain ⟨c', h1, h2⟩ := hb; exact ⟨c', bor_mono h x h1, h2⟩
theorem borL_mono (h : s.le s') : ∀ (c : List AV) {d : List AV}, borL s c = some d → borL s' c = some d
  | [], d, hb => hb
  | x :: r, d, hb => by
    simp only [borL] at hb ⊢
    split at hb
    · rename_i y l h1 h2; cases hb; rw [bor_mono h x h1, borL_mono h r h2]
    · cases hb
end
end
mutual
/-- No own thing in it. -/
def pureA : AV → Bool
  | .r _ | .ro _ _ _ | .re _ _ _ => true
  | .agg c | .tup c => pureL c
  | _ => false
def pureL : List AV → Bool
  | [] => true
  | x :: r => pureA x && pureL r
end
mutual
theorem frz_pure (st : AS) : ∀ (x : AV), pureA x = true → frz st x = some (x, st)
  | .r v, _ => rfl
  | .ro t k els, _ => rfl
  | .re t c off, _ => rfl
  | .agg c, h => by simp only [pureA] at h; simp only [frz, frzL_pure st c h]
  | .tup c, h => by simp only [pureA] at h; simp only [frz, frzL_pure st c h]
  | .s n lo len, h => by simp [pureA] at h
  | .p n i off, h => by simp [pureA] at h
  | .fn f c, h => by simp [pureA] at h
  | .ifc t x, h => by simp [pureA] at h
theorem frzL_pure (st : AS) : ∀ (c : List AV), pureL c = true → frzL st c = some (c, st)
  | [], _ => rfl
  | x :: r, h => by
    simp only [pureL, Bool.and_eq_true] at h
    simp only [frzL, frz_pure st x h.1, frzL_pure st r h.2]
end
section
variable {P : Program} {E : Env} {N : Nat} {st : AS} {th : List NLoc} {z : Zone} {a : Act} {w : World}
theorem Rep.lt {x : AV} {v : Value} (h : Rep w z th x v) {f : Nat → Nat} (hf : ∀ i, i < th.length → f i = i) : AM.ren f x = x := by
  have lists : ∀ (c : List AV) (ys : List Value), ys.length = c.length → (∀ (i : Nat) (x : AV) (y : Value), c[i]? = some x → ys[i]? = some y → AM.ren f x = x) → renL f c = c := by
    intro c
    induction c with
    | nil => intro ys _ _; rfl
    | cons x r ih =>
      intro ys hl hx
      match ys, hl with
      | y :: ys, hl =>
        simp only [renL]
        rw [hx 0 x y rfl rfl, ih ys (by simpa using hl) (fun i a b h1 h2 => hx (i + 1) a b (by simpa using h1) (by simpa using h2))]
  induction h with
  | r th v => rfl
  | nil th t k a c => rfl
  | ro th t k els b o c ys hz hc hk hy h1 hx ih => rfl
  | re th t c b o off ys hz hy hx ih => rfl
  | s th n lo len c o L hL hp hl hc ho => simp only [AM.ren]; rw [hf n (List.getElem?_eq_some_iff.1 hL).1]
  | sn th n lo L hL hp => simp only [AM.ren]; rw [hf n (List.getElem?_eq_some_iff.1 hL).1]
  | p th n i off L hL => simp only [AM.ren]; rw [hf n (List.getElem?_eq_some_iff.1 hL).1]
  | agg th c ys hl hx ih => simp only [AM.ren]; rw [lists c ys hl (fun i x y h1 h2 => ih i x y h1 h2 hf)]
  | tup th c ys hl hx ih => simp only [AM.ren]; rw [lists c ys hl (fun i x y h1 h2 => ih i x y h1 h2 hf)]
  | fn th g c ys hl hx ih => simp only [AM.ren]; rw [lists c ys hl (fun i x y h1 h2 => ih i x y h1 h2 hf)]
  | ifc th t x v hx ih => simp only [AM.ren]; rw [ih hf]
theorem Reps.lt {c : List AV} {ys : List Value} (h : Reps w z th c ys) {f : Nat → Nat} (hf : ∀ i, i < th.length → f i = i) : renL f c = c := by
  induction c generalizing ys with
  | nil => rfl
  | cons x r ih =>
    obtain ⟨y, ys', rfl, h1, h2⟩ := h.head
    simp only [renL]; rw [h1.lt hf, ih h2]
theorem NdAt.lt {L : NLoc} {nd : Nd} (h : NdAt w z th L nd) {f : Nat → Nat} (hf : ∀ i, i < th.length → f i = i) : renNd f nd = nd := by
  cases nd with
  | box T c => obtain ⟨_, cells, fr, _, _, _, h4⟩ := h; simp only [renNd]; rw [h4.lt hf]
  | lst T k els => rfl
/-- More numbers than there are things. -/
theorem Sim.more (h : Sim E N st th z a w) (k : Nat) : Sim E N { st with n := st.n + k } (th ++ List.replicate k ⟨0, 0, 0, 0, false⟩) z a w := by
  have m := h.mem
  have old : ∀ i nd L, lk st.o i = some nd → (th ++ List.replicate k (⟨0, 0, 0, 0, false⟩ : NLoc))[i]? = some L → th[i]? = some L := by
    intro i nd L hi hL
    obtain ⟨M, h1, _, _⟩ := m.nds i nd hi
    have := pre_get (List.replicate k (⟨0, 0, 0, 0, false⟩ : NLoc)) h1
    rw [hL] at this; cases this; exact h1
  refine ⟨⟨by simp [m.len], fun i nd hi => ?_, fun i j x y L M hi hj hL hM => m.inj i j x y L M hi hj (old i x L hi hL) (old j y M hj hM), m.zlt, m.grow, m.frame, m.zin, m.zout, m.zb, m.globs, fun i L hi => pre_get _ (m.pre i L hi), m.sys⟩, h.size, h.dfs, fun i x hi => ?_⟩
  · obtain ⟨L, h1, h2, h3⟩ := m.nds i nd hi
    exact ⟨L, pre_get _ h1, h2.on (Le.refl w z) (fun _ => rfl) _, h3⟩
  · obtain ⟨y, hy, hr⟩ := h.slots i x hi
    exact ⟨y, hy, hr.on (Le.refl w z) _⟩
/-- Memory under other numbers; what is asked of what is found alone. -/
theorem Sim.renL (h : Sim E N st th z a w) (ρ : List Nat) {st' : AS} (hr : ∀ j ∈ ρ, j < st.n) (hb : st.n ≤ 1000000000) (hm : ∀ i x, lk st'.m i = some x → lk st.m i = some (ren (by_ ρ) x)) (ho : ∀ i nd, lk st'.o i = some nd → ∃ j, ρ[i]? = some j ∧ lk st.o j = some (renNd (by_ ρ) nd)) (hn : st'.n = ρ.length)
    (hpre : ∀ i, i < E.th0.length → ρ[i]? = some i) (hnd : ρ.Nodup) : Sim E N st' (thOf th ρ) z a w := by
  have m := h.mem
  have hr' : ∀ j ∈ ρ, j < th.length := fun j hj => by rw [m.len]; exact hr j hj
  have hb' : th.length ≤ 1000000000 := by rw [m.len]; exact hb
  refine ⟨⟨by simp [thOf, hn], fun i nd hi => ?_, fun i i' x y L M hi hi' hL hM e1 e2 hbb => ?_, m.zlt, m.grow, m.frame, m.zin, m.zout, m.zb, m.globs, fun i L hi => ?_, m.sys⟩, h.size, h.dfs, fun i x hi => ?_⟩
  · obtain ⟨j, hj, hnd⟩ := ho i nd hi
    obtain ⟨L, k1, k2, k3⟩ := m.nds j _ hnd
    exact ⟨L, by rw [thOf_get hr' hj]; exact k1, k2.unren (thOf_by hr' hb'), k3⟩
  · obtain ⟨j, hj, hx⟩ := ho i x hi
    obtain ⟨j', hj', hy⟩ := ho i' y hi'
    rw [thOf_get hr' hj] at hL
    rw [thOf_get hr' hj'] at hM
    have := m.inj j j' _ _ L M hx hy hL hM e1 e2 hbb
    subst this
    obtain ⟨l1, e1⟩ := List.getElem?_eq_some_iff.1 hj
    exact (List.getElem?_inj l1 hnd).1 (hj.trans hj'.symm)
  · have hi' : i < E.th0.length := (List.getElem?_eq_some_iff.1 hi).1
    rw [thOf_get hr' (hpre i hi')]
    exact m.pre i L hi
  · obtain ⟨y, hy, hrep⟩ := h.slots i _ (hm i x hi)
    exact ⟨y, hy, hrep.unren (thOf_by hr' hb') x rfl⟩
/-- The numbers from r on are found from M on. -/
def rho (M r k : Nat) : List Nat := (List.range M).map fun i => if r ≤ i ∧ i < r + k then M + (i - r) else i
theorem rho_get {M r k i : Nat} (h : i < M) : (rho M r k)[i]? = some (if r ≤ i ∧ i < r + k then M + (i - r) else i) := by
  simp [rho, h]
theorem by_rho {M r k i : Nat} (h : i < M) : by_ (rho M r k) i = if r ≤ i ∧ i < r + k then M + (i - r) else i := by
  simp [by_, rho_get h]
theorem rho_len (M r k : Nat) : (rho M r k).length = M := by simp [rho]
theorem rho_lt {M r k : Nat} (h : r + k ≤ M) : ∀ j ∈ rho M r k, j < M + k := by
  intro j hj
  simp only [rho, List.mem_map, List.mem_range] at hj
  obtain ⟨i, hi, rfl⟩ := hj
  split <;> omega
theorem rho_nodup {M r k : Nat} : (rho M r k).Nodup := by
  unfold rho
  rw [List.Nodup, List.pairwise_map]
  refine List.Pairwise.imp_of_mem ?_ (List.nodup_range (n := M))
  intro i j hi hj hne
  simp only [List.mem_range] at hi hj
  split <;> split <;> omega
/-- What a new thing is, whatever else has been made in the meantime. -/
def FreshW (P : Program) (E : Env) (N : Nat) (R : AS) (o : Oper) (v : AV) (os : List (Nat × Nd)) (k : Nat) : Prop :=
  ∀ (S : AS) (th : List NLoc) (z : Zone) (a : Act) (w : World), R.le S → S.n = R.n → Sim E N S th z a w → ∀ (next : Act → World → Prop) (Q : Exit → Act → World → Prop),
    (∀ th' z' a' w', Sim E N ({ S with o := os ++ S.o, n := S.n + k }.put o.dst v) th' z' a' w' → next a' w') → o.wp P a w next Q
theorem fresh_q {R : AS} {o : Oper} {v : AV} (hd : ∀ i, o.dst = some i → i < N) (hv : qv P E.G R o.op = some v) : FreshW P E N R o v [] 0 := by
  intro S th z a w hle hn hs next Q hnext
  have hR : Sim E N R th z a w := hs.sub hn.symm hle.o hle.m
  obtain ⟨u, hr, hrun⟩ := qv_sound hR o hv
  unfold Oper.wp
  rw [hrun w SameK.refl, Oper.upon_value]
  exact hnext th z _ w (hs.put hr o.dst hd)
theorem fresh_list {R : AS} {o : Oper} {T e : TypeId} {len sz s1 b1 b2 : Nat} {z1 : Option (List Value)} {z2 : List Value} {k2 : TK} {parts : Array (Nat × Operand)} {c : List AV} {els : List (List AV)} (hd : ∀ i, o.dst = some i → i < N) (ho : o.op = .buildSlice T len parts) (hT : tyOf P T = some ⟨.slice e, s1, b1, z1⟩) (hTe : tyOf P e = some ⟨k2, sz, b2, some z2⟩)
    (hc : evs R E.G (parts.toList.map (·.2)) = some c) (hp : pureL c = true) (hels : elsL sz 0 (parts.toList.map (·.1)) c = some els) (hlen : len = els.length ∧ len * sz ≤ 16777216) : FreshW P E N R o (.s R.n 0 len) [(R.n, .lst e sz els)] 1 := by
  intro S th z a w hle hn hs next Q hnext
  have hk : stepG P E N S o.op (fun x s => x = .s S.n 0 len ∧ s = putNd S (.lst e sz els)) (fun _ _ => False) := by
    rw [ho]
    simp only [stepG, effR, hT, evs_mono hle hc, hTe, frzL_pure S c hp, hels, bindE]
    exact ⟨hlen, by simp⟩
  refine stepG_sound hs o hk hd (fun x st' th' z' a' w' ⟨h1, h2⟩ h3 _ => ?_) (fun x v st' th' z' w' h => h.elim)
  subst h1 h2
  refine hnext th' z' a' w' ?_
  rw [← hn]
  exact h3
theorem fresh_call {R : AS} {o : Oper} {f : Operand} {args : Array Operand} {ats : Array TypeId} {g k : Nat} {caps xs ys : List AV} {res : AV} {os : List (Nat × Nd)} (hd : ∀ i, o.dst = some i → i < N) (ho : o.op = .call { callee := .value f, args := args, argTypes := ats }) (hf : ev R E.G f = some (.fn g caps)) (hx : evs R E.G args.toList = some xs)
    (hc : Con P E.G g ys [] 0 (Is res os k) No) (hb : borL R (xs ++ caps) = some ys) (hp : PT res) (hp' : ∀ p ∈ os, PTNd p.2) : FreshW P E N R o (ren (· + R.n) res) (shO R.n os) k := by
  intro S th z a w hle hn hs next Q hnext
  have hk : stepG P E N S o.op (fun x s => x = ren (· + S.n) res ∧ s = { S with o := shO S.n os ++ S.o, n := S.n + k }) (fun _ _ => False) := by
    rw [ho]
    simp only [stepG, ev_mono hle hf, evs_mono hle hx, bindF]
    exact callG_is hc (borL_mono hle _ hb) hp hp' ⟨rfl, rfl⟩
  refine stepG_sound hs o hk hd (fun x st' th' z' a' w' ⟨h1, h2⟩ h3 _ => ?_) (fun x v st' th' z' w' h => h.elim)
  subst h1 h2
  refine hnext th' z' a' w' ?_
  rw [← hn]
  exact h3
end
/-- What an operation has made: its place, its slot, its value, its own things. -/
structure En where
  i : Nat
  d : Nat
  v : AV
  o : List (Nat × Nd)
/-- The plan of an operation: its numbers from r on (behind those that there are), how many, what it waits for, the numbers that may be made later than it. -/
structure PU where
  r : Nat
  k : Nat
  anc : List Nat
  chk : List (Nat × Nat)
def finM : List En → List (Nat × AV) → List (Nat × AV)
  | [], m => m
  | e :: r, m => (e.d, e.v) :: finM r m
def finO : List En → List (Nat × Nd) → List (Nat × Nd)
  | [], m => m
  | e :: r, m => e.o ++ finO r m
def memN : List Nat → Nat → Bool
  | [], _ => false
  | d :: r, i => if d = i then true else memN r i
theorem memN_eq (l : List Nat) (i : Nat) : memN l i = l.contains i := by
  induction l with
  | nil => rfl
  | cons d r ih =>
    simp only [memN, List.contains_cons, ih]
    by_cases h : d = i
    · subst h; simp
    · rw [if_neg h]; simp [Ne.symm h]
def fltE (anc : List Nat) : List En → List En
  | [] => []
  | e :: r => bif memN anc e.i then e :: fltE anc r else fltE anc r
def fltM (ds : List Nat) : List (Nat × AV) → List (Nat × AV)
  | [] => []
  | p :: r => bif memN ds p.1 then fltM ds r else p :: fltM ds r
def stE (bs : AS) (es : List En) : AS := ⟨finM es bs.m, finO es bs.o, bs.n⟩
theorem fltE_mem {anc : List Nat} {e : En} : ∀ {es : List En}, e ∈ fltE anc es ↔ e ∈ es ∧ anc.contains e.i = true
  | [] => by simp [fltE]
  | x :: r => by
    simp only [fltE, memN_eq]
    cases h : anc.contains x.i
    · simp only [cond_false, fltE_mem (es := r), List.mem_cons]
      constructor
      · rintro ⟨h1, h2⟩; exact ⟨.inr h1, h2⟩
      · rintro ⟨rfl | h1, h2⟩
        · rw [h] at h2; cases h2
        · exact ⟨h1, h2⟩
    · simp only [cond_true, fltE_mem (es := r), List.mem_cons]
      constructor
      · rintro (rfl | ⟨h1, h2⟩)
        · exact ⟨.inl rfl, h⟩
        · exact ⟨.inr h1, h2⟩
      · rintro ⟨rfl | h1, h2⟩
        · exact .inl rfl
        · exact .inr ⟨h1, h2⟩
theorem lk_finM : ∀ {es : List En} {m : List (Nat × AV)} {i : Nat} {x : AV}, lk (finM es m) i = some x → (∃ e ∈ es, e.d = i ∧ e.v = x) ∨ ((∀ e ∈ es, e.d ≠ i) ∧ lk m i = some x)
  | [], m, i, x, h => .inr ⟨by simp, h⟩
  | e :: r, m, i, x, h => by
    simp only [finM, lk] at h
    split at h
    · rename_i he; cases h; exact .inl ⟨e, by simp, he, rfl⟩
    · rename_i he
      rcases lk_finM h with ⟨e', h1, h2⟩ | ⟨h1, h2⟩
      · exact .inl ⟨e', by simp [h1], h2⟩
      · exact .inr ⟨fun e' h' => (List.mem_cons.1 h').elim (fun q => by subst q; exact he) (h1 e'), h2⟩
theorem finM_none : ∀ {es : List En} {m : List (Nat × AV)} {i : Nat}, (∀ e ∈ es, e.d ≠ i) → lk (finM es m) i = lk m i
  | [], m, i, h => rfl
  | e :: r, m, i, h => by
    simp only [finM, lk]
    rw [if_neg (h e (by simp)), finM_none (fun e' h' => h e' (by simp [h']))]
theorem finM_get : ∀ {es : List En} {m : List (Nat × AV)} {e : En}, e ∈ es → (∀ a ∈ es, ∀ b ∈ es, a.d = b.d → a = b) → lk (finM es m) e.d = some e.v
  | x :: r, m, e, he, hu => by
    simp only [finM, lk]
    split
    · rename_i h; rw [hu x (by simp) e he h]
    · rename_i h
      rcases List.mem_cons.1 he with rfl | he
      · exact (h rfl).elim
      · exact finM_get he (fun a ha b hb => hu a (by simp [ha]) b (by simp [hb]))
theorem lk_finO : ∀ {es : List En} {m : List (Nat × Nd)} {i : Nat} {x : Nd}, lk (finO es m) i = some x → (∃ e ∈ es, lk e.o i = some x) ∨ lk m i = some x
  | [], m, i, x, h => .inr h
  | e :: r, m, i, x, h => by
    simp only [finO] at h
    rw [lk_append] at h
    split at h
    · rename_i y hy; cases h; exact .inl ⟨e, by simp, hy⟩
    · rcases lk_finO h with ⟨e', h1, h2⟩ | h1
      · exact .inl ⟨e', by simp [h1], h2⟩
      · exact .inr h1
theorem finO_get : ∀ {es : List En} {m : List (Nat × Nd)} {i : Nat} {x : Nd}, (∀ e ∈ es, ∀ y, lk e.o i = some y → y = x) → ((∃ e ∈ es, lk e.o i = some x) ∨ lk m i = some x) → lk (finO es m) i = some x
  | [], m, i, x, _, h => h.elim (fun ⟨e, he, _⟩ => by cases he) id
  | e :: r, m, i, x, hu, h => by
    simp only [finO]
    rw [lk_append]
    split
    · rename_i y hy; rw [hu e (by simp) y hy]
    · rename_i hy
      refine finO_get (fun e' h' => hu e' (by simp [h'])) ?_
      rcases h with ⟨e', he, h2⟩ | h
      · rcases List.mem_cons.1 he with rfl | he
        · rw [hy] at h2; cases h2
        · exact .inl ⟨e', he, h2⟩
      · exact .inr h
theorem fltM_lk {ds : List Nat} : ∀ {m : List (Nat × AV)} {i : Nat} {x : AV}, lk (fltM ds m) i = some x → ds.contains i = false ∧ lk m i = some x
  | [], i, x, h => by simp [fltM, lk] at h
  | p :: r, i, x, h => by
    obtain ⟨j, y⟩ := p
    simp only [fltM, memN_eq] at h
    cases hc : ds.contains j
    · rw [hc] at h
      simp only [cond_false, lk] at h
      split at h
      · rename_i e; subst e; exact ⟨hc, by simp [lk, h]⟩
      · rename_i e
        obtain ⟨h1, h2⟩ := fltM_lk h
        exact ⟨h1, by simp [lk, e, h2]⟩
    · rw [hc] at h
      simp only [cond_true] at h
      obtain ⟨h1, h2⟩ := fltM_lk h
      refine ⟨h1, ?_⟩
      simp only [lk]
      rw [if_neg]
      · exact h2
      · rintro rfl; rw [hc] at h1; cases h1
theorem fltM_get {ds : List Nat} : ∀ {m : List (Nat × AV)} {i : Nat}, ds.contains i = false → lk (fltM ds m) i = lk m i
  | [], i, h => rfl
  | p :: r, i, h => by
    obtain ⟨j, y⟩ := p
    simp only [fltM, memN_eq, lk]
    cases hc : ds.contains j
    · simp only [cond_false, lk, fltM_get (m := r) h]
    · simp only [cond_true]
      rw [if_neg (by rintro rfl; rw [hc] at h; cases h), fltM_get h]
end Go.AM
/- The abstract machine, 22: regions that draw their order, where what allocates is not ordered: the law. -/
namespace Go.AM
open Go
def lstU (P : Program) (G : List (Nat × List Value)) (R : AS) : Op → Option (Prop × TypeId × Nat × Nat × List (List AV))
  | .buildSlice T len parts => match tyOf P T, evs R G (parts.toList.map (·.2)) with
    | some ⟨.slice e, _, _, _⟩, some c => match tyOf P e with
      | some ⟨_, sz, _, some _⟩ => match elsL sz 0 (parts.toList.map (·.1)) c with
        | some els => some (pureL c = true ∧ len = els.length ∧ len * sz ≤ 16777216, e, sz, len, els)
        | none => none
      | _ => none
    | _, _ => none
  | _ => none
def CallU (P : Program) (G : List (Nat × List Value)) (R : AS) (g : Nat) (xs : List AV) (r k : Nat) (kont : AV → List (Nat × Nd) → Prop) : Prop :=
  ∃ ys res os, Con P G g ys [] 0 (Is res os k) No ∧ borL R xs = some ys ∧ PT res ∧ (∀ p ∈ os, PTNd p.2) ∧ (∀ p ∈ os, p.1 < k) ∧ (k = 0 → ren (· + R.n) res = ren (· + r) res) ∧ (0 < k → ren (by_ (rho R.n r k)) (ren (· + r) res) = ren (· + R.n) res ∧ mapO (by_ (rho R.n r k)) (shO r os) = shO R.n os) ∧ kont (ren (· + r) res) (shO r os)
/-- What an operation makes, with its numbers from r on. -/
def MakesU (P : Program) (E : Env) (R : AS) (op : Op) (r k : Nat) (kont : AV → List (Nat × Nd) → Prop) : Prop :=
  match op with
  | .buildSlice T len parts => match lstU P E.G R (.buildSlice T len parts) with
    | some (c, e, sz, len, els) => c ∧ k = 1 ∧ kont (.s r 0 len) [(r, .lst e sz els)]
    | none => False
  | .call { callee := .value f, args, .. } => match ev R E.G f, evs R E.G args.toList with
    | some (.fn g caps), some xs => CallU P E.G R g (xs ++ caps) r k kont
    | _, _ => False
  | op => match qv P E.G R op with
    | some v => k = 0 ∧ kont v []
    | none => False
def fixO (f : Nat → Nat) : List (Nat × Nd) → Prop
  | [] => True
  | x :: r => renNd f x.2 = x.2 ∧ fixO f r
theorem fixO_mem {f : Nat → Nat} : ∀ {o : List (Nat × Nd)}, fixO f o → ∀ x ∈ o, renNd f x.2 = x.2
  | y :: r, h, x, hx => by
    rcases List.mem_cons.1 hx with rfl | hx
    · exact h.1
    · exact fixO_mem h.2 x hx
def fixU (M n0 : Nat) : List (Nat × Nat) → AV → List (Nat × Nd) → Prop
  | [], _, _ => True
  | q :: r, v, o => (ren (by_ (rho M (n0 + q.1) q.2)) v = v ∧ fixO (by_ (rho M (n0 + q.1) q.2)) o) ∧ fixU M n0 r v o
theorem fixU_mem {M n0 : Nat} : ∀ {l : List (Nat × Nat)} {v : AV} {o : List (Nat × Nd)} {q : Nat × Nat}, fixU M n0 l v o → q ∈ l → ren (by_ (rho M (n0 + q.1) q.2)) v = v ∧ ∀ x ∈ o, renNd (by_ (rho M (n0 + q.1) q.2)) x.2 = x.2
  | q :: r, v, o, q', h, hq => by
    rcases List.mem_cons.1 hq with rfl | hq
    · exact ⟨h.1.1, fixO_mem h.1.2⟩
    · exact fixU_mem h.2 hq
def exU (P : Program) (E : Env) (N : Nat) (ds : List (Option Nat)) (kp : AV → AS → Prop) (tail : List Oper) (n0 : Nat) (bs : AS) : List PU → List Oper → Nat → List En → (AS → Prop) → Prop
  | _, [], _, es, K => ex P E N ds kp tail (stE bs es) K
  | [], _ :: _, _, _, _ => False
  | p :: pl, o :: rest, j, es, K => o.guard = none ∧ match o.dst with
    | none => False
    | some d => MakesU P E (stE bs (fltE p.anc es)) o.op (n0 + p.r) p.k (fun v oo => fixU bs.n n0 p.chk v oo ∧ exU P E N ds kp tail n0 bs pl rest (j + 1) (⟨j, d, v, oo⟩ :: es) K)
section
variable {P : Program} {E : Env} {N : Nat}
structure PropE (P : Program) (E : Env) (N : Nat) (bs : AS) (n0 : Nat) (L : List En) (j : Nat) (o : Oper) (p : PU) (e : En) : Prop where
  i : e.i = j
  g : o.guard = none
  d : o.dst = some e.d
  fr : ∃ vM oM, FreshW P E N (stE bs (fltE p.anc (L.take j).reverse)) o vM oM p.k ∧ (p.k = 0 → vM = e.v ∧ oM = e.o) ∧ (0 < p.k → vM = ren (by_ (rho bs.n (n0 + p.r) p.k)) e.v ∧ oM = mapO (by_ (rho bs.n (n0 + p.r) p.k)) e.o)
  fix : fixU bs.n n0 p.chk e.v e.o
  keys : ∀ x ∈ e.o, n0 + p.r ≤ x.1 ∧ x.1 < n0 + p.r + p.k
theorem makes_out {R : AS} {o : Oper} {r k : Nat} {kont : AV → List (Nat × Nd) → Prop} (hd : ∀ i, o.dst = some i → i < N) (hr : r + k ≤ R.n) (h : MakesU P E R o.op r k kont) :
    ∃ v oo vM oM, kont v oo ∧ FreshW P E N R o vM oM k ∧ (k = 0 → vM = v ∧ oM = oo) ∧ (0 < k → vM = ren (by_ (rho R.n r k)) v ∧ oM = mapO (by_ (rho R.n r k)) oo) ∧ ∀ x ∈ oo, r ≤ x.1 ∧ x.1 < r + k := by
  obtain ⟨dst, op, ty, pos, aft, gd⟩ := o
  simp only at h hd
  unfold MakesU at h
  split at h
  · rename_i T len parts
    split at h
    · rename_i c e sz len' els hl
      obtain ⟨hc, rfl, hk⟩ := h
      simp only [lstU] at hl
      split at hl
      · rename_i e1 s1 b1 z1 c1 hT he
        split at hl
        · rename_i k2 sz2 b2 z2 hTe
          split at hl
          · rename_i els2 hels
            simp only [Option.some.injEq, Prod.mk.injEq] at hl
            obtain ⟨rfl, rfl, rfl, rfl, rfl⟩ := hl
            refine ⟨_, _, _, _, hk, fresh_list hd rfl hT hTe he hc.1 hels hc.2, fun h0 => (by cases h0), fun _ => ?_, fun x hx => ?_⟩
            · have e1 : by_ (rho R.n r 1) r = R.n := by rw [by_rho (by omega)]; simp
              simp [ren, mapO, renNd, e1]
            · simp only [List.mem_singleton] at hx; subst hx; exact ⟨Nat.le_refl _, by simp⟩
          · cases hl
        · cases hl
      · cases hl
    · exact h.elim
  · rename_i f args ats
    split at h
    · rename_i g caps xs hf hx
      obtain ⟨ys, res, os, hc, hb, hp, hp', hkeys, e1, e2, hk⟩ := h
      refine ⟨_, _, _, _, hk, fresh_call hd rfl hf hx hc hb hp hp', fun h0 => ?_, fun h0 => ⟨(e2 h0).1.symm, (e2 h0).2.symm⟩, fun x hx => ?_⟩
      · subst h0
        have ho : os = [] := by
          cases os with
          | nil => rfl
          | cons p r => exact absurd (hkeys p (by simp)) (by omega)
        subst ho
        exact ⟨e1 rfl, rfl⟩
      · simp only [shO, List.mem_map] at hx
        obtain ⟨p, hp1, rfl⟩ := hx
        have := hkeys p hp1
        simp only; omega
    · exact h.elim
  · rename_i hq
    split at h
    · rename_i v hv
      obtain ⟨rfl, hk⟩ := h
      exact ⟨v, [], v, [], hk, fresh_q hd hv, fun _ => ⟨rfl, rfl⟩, fun h0 => (by omega), fun x hx => by cases hx⟩
    · exact h.elim
theorem exU_out {ds : List (Option Nat)} {kp : AV → AS → Prop} {tail : List Oper} {n0 : Nat} {bs : AS} {K : AS → Prop} : ∀ {ops : List Oper} {pl : List PU} {j : Nat} {es : List En}, es.length = j → (∀ o ∈ ops, ∀ i, o.dst = some i → i < N) → (∀ p ∈ pl, n0 + p.r + p.k ≤ bs.n) →
    exU P E N ds kp tail n0 bs pl ops j es K → ∃ L : List En, L.take j = es.reverse ∧ L.length = j + ops.length ∧ (∀ t, t < ops.length → ∃ o p e, ops[t]? = some o ∧ pl[t]? = some p ∧ L[j + t]? = some e ∧ PropE P E N bs n0 L (j + t) o p e) ∧ ex P E N ds kp tail (stE bs L.reverse) K
  | [], pl, j, es, hj, _, _, h => by
    have h' : ex P E N ds kp tail (stE bs es) K := by cases pl <;> exact h
    refine ⟨es.reverse, List.take_of_length_le (by rw [List.length_reverse, hj]; exact Nat.le_refl _), by simp [hj], fun t ht => by simp at ht, ?_⟩
    rw [List.reverse_reverse]; exact h'
  | o :: rest, [], j, es, hj, _, _, h => h.elim
  | o :: rest, p :: pl, j, es, hj, hd, hp, h => by
    simp only [exU] at h
    obtain ⟨hg, h⟩ := h
    split at h
    · exact h.elim
    · rename_i d hdst
      obtain ⟨v, oo, vM, oM, ⟨hfix, hrest⟩, hfr, hk0, hk1, hkeys⟩ := makes_out (N := N) (R := stE bs (fltE p.anc es)) (hd o (by simp)) (hp p (by simp)) h
      obtain ⟨L, h1, h2, h3, h4⟩ := exU_out (by simp [hj]) (fun o' ho' => hd o' (by simp [ho'])) (fun p' hp' => hp p' (by simp [hp'])) hrest
      have hLj : L[j]? = some ⟨j, d, v, oo⟩ := by
        have : (L.take (j + 1))[j]? = L[j]? := List.getElem?_take_of_lt (by omega)
        rw [← this, h1]; simp [hj]
      have htk : L.take j = es.reverse := by
        have : (L.take (j + 1)).take j = L.take j := by rw [List.take_take]; congr 1; omega
        rw [← this, h1]; simp [hj]
      refine ⟨L, htk, by simp [h2]; omega, fun t ht => ?_, h4⟩
      cases t with
      | zero =>
        refine ⟨o, p, ⟨j, d, v, oo⟩, rfl, rfl, hLj, ⟨rfl, hg, hdst, ⟨vM, oM, ?_, hk0, hk1⟩, hfix, hkeys⟩⟩
        rw [Nat.add_zero, htk, List.reverse_reverse]; exact hfr
      | succ t =>
        obtain ⟨o', p', e', q1, q2, q3, q4⟩ := h3 t (by simpa using ht)
        have e1 : j + 1 + t = j + (t + 1) := by omega
        rw [e1] at q3 q4
        exact ⟨o', p', e', by simpa using q1, by simpa using q2, q3, q4⟩
/-- A plan is right. -/
def okU (ops : Array Oper) (n : Nat) (pl : List PU) (tot : Nat) (dss : List Nat) : Bool :=
  decide (pl.length = n) && (decide (n = ops.size) || (Region.sinkB .any ops n && Region.chainB .any ops n && decide (n < ops.size))) &&
  ((List.range n).all fun i => match ops[i]?, pl[i]? with
    | some o, some p => (match o.dst with | some d => dss.contains d | none => false) && (o.after.toList.all fun e => !Region.binds .any e || decide (e.on < i)) &&
      (p.anc.all fun a => o.after.toList.any fun e => Region.binds .any e && (e.on == a || (match pl[e.on]? with | some q => q.anc.contains a | none => false))) &&
      decide (p.r + p.k ≤ tot) && ((List.range n).all fun h => h == i || (match ops[h]?, pl[h]? with
        | some oh, some q => !(oh.dst == o.dst) && (q.k == 0 || p.anc.contains h || p.chk.contains (q.r, q.k)) && decide (p.r + p.k ≤ q.r ∨ q.r + q.k ≤ p.r)
        | _, _ => false))
    | _, _ => false) &&
  Region.seqB .any ops (ops.size - n) n ((List.range ops.size).map fun i => decide (i < n)).toArray
theorem nodup_sub_len {α : Type} [DecidableEq α] : ∀ {l l' : List α}, l.Nodup → (∀ x ∈ l, x ∈ l') → l.length ≤ l'.length
  | [], _, _, _ => Nat.zero_le _
  | x :: r, l', h, hs => by
    obtain ⟨h1, h2⟩ := List.nodup_cons.1 h
    have hx := hs x (by simp)
    have := nodup_sub_len (l' := l'.erase x) h2 (fun y hy => (List.mem_erase_of_ne (fun e => by subst e; exact h1 hy)).2 (hs y (by simp [hy])))
    rw [List.length_erase_of_mem hx] at this
    have := List.length_pos_of_mem hx
    simp only [List.length_cons]; omega
end
end Go.AM
/- The abstract machine, 23: regions that draw their order, where what allocates is not ordered: whatever order. -/
namespace Go.AM
open Go
section
variable {P : Program} {E : Env} {N : Nat}
/-- What a plan that is right gives. -/
structure OkU (ops : Array Oper) (n : Nat) (pl : List PU) (tot : Nat) (dss : List Nat) : Prop where
  len : pl.length = n
  le : n ≤ ops.size
  head : ∀ s, HeadInv .any ops n s → ∀ i, i < n → s.getD i true = false → ∀ j ∈ Region.ready .any ops s, j < n
  dst : ∀ (i : Nat) o p, i < n → ops[i]? = some o → pl[i]? = some p → ∃ d, o.dst = some d ∧ dss.contains d = true
  back : ∀ (i : Nat) o, i < n → ops[i]? = some o → ∀ e ∈ o.after, Region.binds .any e = true → e.on < i
  anc : ∀ (i : Nat) o p, i < n → ops[i]? = some o → pl[i]? = some p → ∀ a ∈ p.anc, ∃ e ∈ o.after, Region.binds .any e = true ∧ (e.on = a ∨ ∃ q, pl[e.on]? = some q ∧ a ∈ q.anc)
  tot : ∀ (i : Nat) p, i < n → pl[i]? = some p → p.r + p.k ≤ tot
  pair : ∀ (i h : Nat) o p oh q, i < n → h < n → h ≠ i → ops[i]? = some o → pl[i]? = some p → ops[h]? = some oh → pl[h]? = some q → oh.dst ≠ o.dst ∧ (q.k = 0 ∨ h ∈ p.anc ∨ (q.r, q.k) ∈ p.chk) ∧ (p.r + p.k ≤ q.r ∨ q.r + q.k ≤ p.r)
  seq : Region.seqB .any ops (ops.size - n) n ((List.range ops.size).map fun i => decide (i < n)).toArray = true
theorem okU_spec {ops : Array Oper} {n : Nat} {pl : List PU} {tot : Nat} {dss : List Nat} (h : okU ops n pl tot dss = true) : OkU ops n pl tot dss := by
  simp only [okU, Bool.and_eq_true, decide_eq_true_eq] at h
  obtain ⟨⟨⟨h1, h2⟩, h3⟩, h4⟩ := h
  have hle : n ≤ ops.size := by
    rcases Bool.or_eq_true _ _ ▸ h2 with h2 | h2
    · exact Nat.le_of_eq (of_decide_eq_true h2)
    · simp only [Bool.and_eq_true, decide_eq_true_eq] at h2; exact Nat.le_of_lt h2.2
  have key : ∀ (i : Nat) o p, i < n → ops[i]? = some o → pl[i]? = some p → _ := fun i o p hi ho hp => (by
    have := List.all_eq_true.1 h3 i (by simpa using hi)
    rw [ho, hp] at this
    exact this)
  refine ⟨h1, hle, ?_, fun i o p hi ho hp => ?_, fun i o hi ho e he hb => ?_, fun i o p hi ho hp a ha => ?_, fun i p hi hp => ?_, fun i h o p oh q hi hh hne ho hp hoh hq => ?_, h4⟩
  · intro s inv i hi hs j hj
    rcases Bool.or_eq_true _ _ ▸ h2 with b2 | b2
    · have := of_decide_eq_true b2
      obtain ⟨_, oj, hoj, _⟩ := mem_ready.1 hj
      rw [this]; exact (Array.getElem?_eq_some_iff.1 hoj).1
    · simp only [Bool.and_eq_true, decide_eq_true_eq] at b2
      by_cases h : j < n
      · exact h
      · exact absurd hj (tail_waits b2.1.1 b2.1.2 b2.2 inv _ i rfl hi hs j (by omega))
  · have := key i o p hi ho hp
    simp only [Bool.and_eq_true] at this
    obtain ⟨⟨⟨⟨g1, _⟩, _⟩, _⟩, _⟩ := this
    split at g1
    · rename_i d hd; exact ⟨d, hd, g1⟩
    · cases g1
  · obtain ⟨p, hp⟩ : ∃ p, pl[i]? = some p := ⟨pl[i]'(by omega), by simp⟩
    have := key i o p hi ho hp
    simp only [Bool.and_eq_true] at this
    obtain ⟨⟨⟨⟨_, g2⟩, _⟩, _⟩, _⟩ := this
    have := List.all_eq_true.1 g2 e (by simpa using he)
    simpa [hb] using this
  · have := key i o p hi ho hp
    simp only [Bool.and_eq_true] at this
    obtain ⟨⟨⟨⟨_, _⟩, g3⟩, _⟩, _⟩ := this
    obtain ⟨e, he, h5⟩ := List.any_eq_true.1 (List.all_eq_true.1 g3 a ha)
    simp only [Bool.and_eq_true, Bool.or_eq_true, beq_iff_eq] at h5
    refine ⟨e, by simpa using he, h5.1, h5.2.imp id fun h6 => ?_⟩
    split at h6
    · rename_i q hq; exact ⟨q, hq, by simpa using h6⟩
    · cases h6
  · obtain ⟨o, ho⟩ : ∃ o, ops[i]? = some o := ⟨ops[i]'(by omega), by simp⟩
    have := key i o p hi ho hp
    simp only [Bool.and_eq_true, decide_eq_true_eq] at this
    exact this.1.2
  · have := key i o p hi ho hp
    simp only [Bool.and_eq_true, decide_eq_true_eq] at this
    have := List.all_eq_true.1 this.2 h (by simpa using hh)
    rw [hoh, hq] at this
    simp only [Bool.or_eq_true, Bool.and_eq_true, beq_iff_eq, decide_eq_true_eq, Bool.not_eq_true', beq_eq_false_iff_ne, ne_eq] at this
    obtain ⟨⟨g1, g2⟩, g3⟩ := this.resolve_left hne
    refine ⟨g1, ?_, g3⟩
    rcases g2 with (g2 | g2) | g2
    · exact .inl g2
    · exact .inr (.inl (by simpa using g2))
    · exact .inr (.inr (by simpa using g2))
theorem lk_mapO_get {φ : Nat → Nat} : ∀ {o : List (Nat × Nd)} {i : Nat} {x : Nd}, (∀ p ∈ o, φ p.1 = φ i → p.1 = i) → lk o i = some x → lk (mapO φ o) (φ i) = some (renNd φ x)
  | [], i, x, _, h => by simp [lk] at h
  | (j, y) :: r, i, x, hi, h => by
    simp only [lk] at h
    simp only [mapO, List.map_cons, lk]
    split at h
    · rename_i e; subst e; cases h; rw [if_pos rfl]
    · rename_i e
      rw [if_neg (fun e2 => e (hi (j, y) (by simp) e2))]
      exact lk_mapO_get (fun p hp => hi p (by simp [hp])) h
theorem mapO_none {φ : Nat → Nat} {o : List (Nat × Nd)} {i : Nat} (h : ∀ p ∈ o, φ p.1 ≠ i) : lk (mapO φ o) i = none := by
  induction o with
  | nil => rfl
  | cons p r ih =>
    obtain ⟨j, y⟩ := p
    simp only [mapO, List.map_cons, lk]
    rw [if_neg (h (j, y) (by simp))]
    exact ih (fun p hp => h p (by simp [hp]))
theorem anyU {ops : Array Oper} {n : Nat} {pl : List PU} {tot : Nat} {dss : List Nat} {L : List En} {bs : AS} {n0 : Nat} {Q : Exit → Act → World → Prop} {g : Nat} (ok : OkU ops n pl tot dss) (hL : L.length = n) (hM : bs.n = n0 + tot) (hbig : bs.n + tot ≤ 1000000000) (hE : E.th0.length ≤ n0)
    (hprop : ∀ j, j < n → ∃ o p e, ops[j]? = some o ∧ pl[j]? = some p ∧ L[j]? = some e ∧ PropE P E N bs n0 L j o p e)
    (hbm : ∀ i x, lk bs.m i = some x → dss.contains i = false ∧ ∀ f : Nat → Nat, (∀ i, i < n0 → f i = i) → ren f x = x) (hbo : ∀ i nd, lk bs.o i = some nd → i < n0 ∧ ∀ f : Nat → Nat, (∀ i, i < n0 → f i = i) → renNd f nd = nd)
    (hend : ∀ lD th z a w, (∀ e ∈ lD, L[e.i]? = some e) → (∀ e ∈ L, e ∈ lD) → Sim E N (stE bs lD) th z a w → wpAny P .any ops Q g ((List.range ops.size).map fun i => decide (i < n)).toArray a w) :
    ∀ (f : Nat) (lD : List En) (s : Array Bool) (th : List NLoc) (z : Zone) (a : Act) (w : World), HeadInv .any ops n s → f + lD.length = n → (∀ e ∈ lD, e.i < n ∧ L[e.i]? = some e) → (lD.map (·.i)).Nodup → (∀ i, i < n → (s.getD i false = true ↔ ∃ e ∈ lD, e.i = i)) →
      (∀ e ∈ lD, ∀ p, pl[e.i]? = some p → ∀ x ∈ p.anc, ∃ e' ∈ lD, e'.i = x) → Sim E N (stE bs lD) th z a w → wpAny P .any ops Q (f + g) s a w := by
  have same : ∀ {a b : En}, L[a.i]? = some a → L[b.i]? = some b → a.i = b.i → a = b := fun {a b} h1 h2 h => by rw [h] at h1; exact Option.some.inj (h1.symm.trans h2)
  have range : (List.range n).Nodup := List.nodup_range
  intro f
  induction f with
  | zero =>
    intro lD s th z a w inv hlen hmem hnd hs hanc hsim
    have hall : ∀ i, i < n → ∃ e ∈ lD, e.i = i := by
      intro i hi
      apply Classical.byContradiction
      intro hno
      have h1 : (i :: lD.map (·.i)).Nodup := List.nodup_cons.2 ⟨fun h => by
        obtain ⟨e, he, rfl⟩ := List.mem_map.1 h
        exact hno ⟨e, he, rfl⟩, hnd⟩
      have := nodup_sub_len (l' := List.range n) h1 (fun x hx => by
        rcases List.mem_cons.1 hx with rfl | hx
        · simpa using hi
        · obtain ⟨e, he, rfl⟩ := List.mem_map.1 hx
          simpa using (hmem e he).1)
      simp at this; omega
    have hsF : s = ((List.range ops.size).map fun i => decide (i < n)).toArray := by
      apply Array.ext
      · simp [inv.size]
      · intro i h1 h2
        simp only [List.getElem_toArray, List.getElem_map, List.getElem_range]
        by_cases hi : i < n
        · have := (hs i hi).2 (hall i hi)
          simp [h1] at this
          simp [this, hi]
        · have := inv.tail i (by omega) (by rw [← inv.size]; exact h1)
          simp [h1] at this
          simp [this, hi]
    rw [Nat.zero_add, hsF]
    refine hend lD th z a w (fun e he => (hmem e he).2) (fun e he => ?_) hsim
    obtain ⟨i, hi, rfl⟩ := List.mem_iff_getElem.1 he
    rw [hL] at hi
    obtain ⟨e', he', h2⟩ := hall i hi
    obtain ⟨o, p, e, _, _, q3, q4⟩ := hprop i hi
    have h3 := (hmem e' he').2
    rw [h2] at h3
    have : L[i]'(by omega) = e' := by
      have := List.getElem?_eq_some_iff.1 h3
      exact this.2
    rw [this]; exact he'
  | succ f ih =>
    intro lD s th z a w inv hlen hmem hnd hs hanc hsim
    have hund : ∀ i, i < n → (¬ ∃ e ∈ lD, e.i = i) → s.getD i true = false := by
      intro i hi hno
      refine getD_in (by rw [inv.size]; have := ok.le; omega) ?_
      cases hv : s.getD i false with
      | false => rfl
      | true => exact (hno ((hs i hi).1 hv)).elim
    have hready : Region.ready .any ops s ≠ [] := by
      have hex : ∃ i, i < n ∧ ¬ ∃ e ∈ lD, e.i = i := by
        apply Classical.byContradiction
        intro hno
        have := nodup_sub_len (l' := lD.map (·.i)) range (fun i hi => by
          have hi : i < n := by simpa using hi
          have : ∃ e ∈ lD, e.i = i := Classical.byContradiction fun h => hno ⟨i, hi, h⟩
          obtain ⟨e, he, rfl⟩ := this
          exact List.mem_map_of_mem he)
        simp at this; omega
      obtain ⟨i0, hi0⟩ := hex
      obtain ⟨i, ⟨hi, hno⟩, hmin⟩ := exists_min (fun i => i < n ∧ ¬ ∃ e ∈ lD, e.i = i) i0 hi0
      obtain ⟨o, p, e, q1, q2, q3, q4⟩ := hprop i hi
      have : i ∈ Region.ready .any ops s := mem_ready.2 ⟨hund i hi hno, o, q1, fun e he hb => by
        have hlt := ok.back i o hi q1 e he hb
        refine (hs e.on (by omega)).2 (Classical.byContradiction fun h => ?_)
        have := hmin e.on ⟨by omega, h⟩
        omega⟩
      intro h; rw [h] at this; cases this
    rw [show f + 1 + g = (f + g) + 1 by omega]
    refine ⟨fun h => absurd h hready, fun i hir => ?_⟩
    have hun := (mem_ready.1 hir).1
    have hi : i < n := by
      obtain ⟨i0, hi0⟩ : ∃ i, i < n ∧ ¬ ∃ e ∈ lD, e.i = i := by
        apply Classical.byContradiction
        intro hno
        have := nodup_sub_len (l' := lD.map (·.i)) range (fun i hi => by
          have hi : i < n := by simpa using hi
          have : ∃ e ∈ lD, e.i = i := Classical.byContradiction fun h => hno ⟨i, hi, h⟩
          obtain ⟨e, he, rfl⟩ := this
          exact List.mem_map_of_mem he)
        simp at this; omega
      exact ok.head s inv i0 hi0.1 (hund i0 hi0.1 hi0.2) i hir
    obtain ⟨_, o', ho', hdeps⟩ := mem_ready.1 hir
    obtain ⟨o, p, e, q1, q2, q3, ⟨ei, eg, ed, ⟨vM, oM, hfr, hk0, hk1⟩, efix, ekeys⟩⟩ := hprop i hi
    obtain rfl : o' = o := Option.some.inj (ho'.symm.trans q1)
    have hnot : ¬ ∃ e ∈ lD, e.i = i := fun h => by
      have := (hs i hi).2 h
      rw [getD_both hun] at this; cases this
    have hancD : ∀ x ∈ p.anc, ∃ e' ∈ lD, e'.i = x := by
      intro x hx
      obtain ⟨ed', he', hb, h6⟩ := ok.anc i o' p hi q1 q2 x hx
      have hdone := hdeps ed' he' hb
      have hlt := ok.back i o' hi q1 ed' he' hb
      obtain ⟨e1, h7, h8⟩ := (hs ed'.on (by omega)).1 hdone
      rcases h6 with rfl | ⟨q, hq, hxq⟩
      · exact ⟨e1, h7, h8⟩
      · exact hanc e1 h7 q (by rw [h8]; exact hq) x hxq
    have epair : ∀ e1 ∈ lD, ∃ o1 p1, ops[e1.i]? = some o1 ∧ pl[e1.i]? = some p1 ∧ PropE P E N bs n0 L e1.i o1 p1 e1 ∧ e1.i ≠ i := by
      intro e1 he1
      obtain ⟨h1, h2⟩ := hmem e1 he1
      obtain ⟨o1, p1, e1', r1, r2, r3, r4⟩ := hprop e1.i h1
      rw [h2] at r3; cases r3
      exact ⟨o1, p1, r1, r2, r4, fun h => hnot ⟨e1, he1, h⟩⟩
    have hdist : ∀ a ∈ lD, ∀ b ∈ lD, a.d = b.d → a = b := by
      intro a ha b hb hab
      obtain ⟨o1, p1, r1, r2, r3, _⟩ := epair a ha
      obtain ⟨o2, p2, t1, t2, t3, _⟩ := epair b hb
      by_cases hne : b.i = a.i
      · exact same (hmem a ha).2 (hmem b hb).2 hne.symm
      · have := (ok.pair a.i b.i o1 p1 o2 p2 (hmem a ha).1 (hmem b hb).1 hne r1 r2 t1 t2).1
        rw [t3.d, r3.d, hab] at this; exact (this rfl).elim
    have hle : (stE bs (fltE p.anc (L.take i).reverse)).le (stE bs lD) := by
      have hin : ∀ e1 ∈ fltE p.anc (L.take i).reverse, e1 ∈ lD := by
        intro e1 he1
        obtain ⟨h1, h2⟩ := fltE_mem.1 he1
        obtain ⟨e2, h3, h4⟩ := hancD e1.i (by simpa using h2)
        obtain ⟨k, hk, hk2⟩ := List.mem_iff_getElem.1 (List.mem_of_mem_take (List.mem_reverse.1 h1))
        have hkn : k < n := by omega
        obtain ⟨_, _, e3, _, _, u3, u4⟩ := hprop k hkn
        have : e3 = e1 := by
          have := List.getElem?_eq_some_iff.1 u3
          exact this.2.symm.trans hk2
        subst this
        have hl : L[e3.i]? = some e3 := by rw [u4.i]; exact u3
        rw [same hl (hmem e2 h3).2 h4.symm]; exact h3
      have hbase : ∀ e1 ∈ lD, dss.contains e1.d = true := by
        intro e1 he1
        obtain ⟨o1, p1, r1, r2, r3, _⟩ := epair e1 he1
        obtain ⟨d, h1, h2⟩ := ok.dst e1.i o1 p1 (hmem e1 he1).1 r1 r2
        rw [r3.d] at h1; cases h1; exact h2
      refine ⟨fun j x hj => ?_, fun j x hj => ?_⟩
      · rcases lk_finM hj with ⟨e1, h1, rfl, rfl⟩ | ⟨_, h2⟩
        · exact finM_get (hin e1 h1) hdist
        · show lk (finM lD bs.m) j = some x
          rw [finM_none (fun e1 he1 h => by have := hbase e1 he1; rw [h, (hbm j x h2).1] at this; cases this)]; exact h2
      · refine finO_get (fun e1 he1 y hy => ?_) ?_
        · obtain ⟨o1, p1, r1, r2, r3, _⟩ := epair e1 he1
          have hk1 := r3.keys _ (lk_mem hy)
          rcases lk_finO hj with ⟨e2, h1, h2⟩ | h2
          · obtain ⟨o2, p2, t1, t2, t3, _⟩ := epair e2 (hin e2 h1)
            have hk2 := t3.keys _ (lk_mem h2)
            by_cases hne : e2.i = e1.i
            · rw [same (hmem e2 (hin e2 h1)).2 (hmem e1 he1).2 hne, hy] at h2; exact Option.some.inj h2
            · have := (ok.pair e1.i e2.i o1 p1 o2 p2 (hmem e1 he1).1 (hmem e2 (hin e2 h1)).1 hne r1 r2 t1 t2).2.2
              simp only at hk1 hk2; omega
          · have := (hbo j x h2).1
            simp only at hk1; omega
        · rcases lk_finO hj with ⟨e2, h1, h2⟩ | h2
          · exact .inl ⟨e2, hin e2 h1, h2⟩
          · exact .inr h2
    have hptot := ok.tot i p hi q2
    unfold wpOp
    simp only [q1]
    have hw : Region.wanted o' (yielded ops a.tmps) = true := by simp [Region.wanted, eg]
    rw [if_pos hw]
    refine .inl (hfr (stE bs lD) th z a w hle rfl hsim _ _ (fun th' z' a' w' hS => ?_))
    have hnext : ∃ th'', Sim E N (stE bs (e :: lD)) th'' z' a' w' := by
      rw [ed] at hS
      by_cases hk : p.k = 0
      · obtain ⟨rfl, rfl⟩ := hk0 hk
        rw [hk] at hS
        exact ⟨th', hS⟩
      · obtain ⟨rfl, rfl⟩ := hk1 (by omega)
        refine ⟨_, hS.renL (rho bs.n (n0 + p.r) p.k) (rho_lt (by omega)) (by show bs.n + p.k ≤ 1000000000; omega) ?_ ?_ (by rw [rho_len]; rfl) ?_ rho_nodup⟩
        · intro j x hj
          have hj' : lk ((e.d, e.v) :: finM lD bs.m) j = some x := hj
          show lk ((e.d, ren (by_ (rho bs.n (n0 + p.r) p.k)) e.v) :: finM lD bs.m) j = _
          simp only [lk] at hj' ⊢
          split at hj'
          · rename_i h; cases hj'; rw [if_pos h]
          · rename_i h
            rw [if_neg h, hj']
            congr 1
            rcases lk_finM hj' with ⟨e1, h1, _, rfl⟩ | ⟨_, h2⟩
            · obtain ⟨o1, p1, r1, r2, r3, r4⟩ := epair e1 h1
              rcases (ok.pair e1.i i o1 p1 o' p (hmem e1 h1).1 hi (Ne.symm r4) r1 r2 q1 q2).2.1 with h5 | h5 | h5
              · exact (hk h5).elim
              · exact (hnot (hanc e1 h1 p1 r2 i h5)).elim
              · exact (fixU_mem r3.fix h5).1.symm
            · exact ((hbm j x h2).2 _ (fun i hi => by rw [by_rho (by omega), if_neg (by omega)])).symm
        · intro j nd hj
          have hj' : lk (e.o ++ finO lD bs.o) j = some nd := hj
          have eqS : ∀ j, lk (({ stE bs lD with o := mapO (by_ (rho bs.n (n0 + p.r) p.k)) e.o ++ (stE bs lD).o, n := (stE bs lD).n + p.k }.put (some e.d) (ren (by_ (rho bs.n (n0 + p.r) p.k)) e.v)).o) j = lk (mapO (by_ (rho bs.n (n0 + p.r) p.k)) e.o ++ finO lD bs.o) j := fun _ => rfl
          rw [lk_append] at hj'
          split at hj'
          · rename_i y hy; cases hj'
            have hkk := ekeys _ (lk_mem hy)
            simp only at hkk
            refine ⟨bs.n + (j - (n0 + p.r)), by rw [rho_get (by omega), if_pos (by omega)], ?_⟩
            have e1 : by_ (rho bs.n (n0 + p.r) p.k) j = bs.n + (j - (n0 + p.r)) := by rw [by_rho (by omega), if_pos (by omega)]
            rw [eqS, lk_append, ← e1, lk_mapO_get (fun q hq h => by
              have := ekeys q hq
              rw [by_rho (by omega), by_rho (by omega), if_pos (by omega), if_pos (by omega)] at h
              omega) hy]
          · rename_i hy
            have hjn : j < bs.n ∧ ¬ (n0 + p.r ≤ j ∧ j < n0 + p.r + p.k) ∧ renNd (by_ (rho bs.n (n0 + p.r) p.k)) nd = nd := by
              rcases lk_finO hj' with ⟨e1, h1, h2⟩ | h2
              · obtain ⟨o1, p1, r1, r2, r3, r4⟩ := epair e1 h1
                have hk1 := r3.keys _ (lk_mem h2)
                have ht1 := ok.tot e1.i p1 (hmem e1 h1).1 r2
                simp only at hk1
                have hp := ok.pair e1.i i o1 p1 o' p (hmem e1 h1).1 hi (Ne.symm r4) r1 r2 q1 q2
                refine ⟨by omega, by have := hp.2.2; omega, ?_⟩
                rcases hp.2.1 with h5 | h5 | h5
                · exact (hk h5).elim
                · exact (hnot (hanc e1 h1 p1 r2 i h5)).elim
                · exact (fixU_mem r3.fix h5).2 _ (lk_mem h2)
              · obtain ⟨h3, h4⟩ := hbo j nd h2
                exact ⟨by omega, by omega, h4 _ (fun i hi => by rw [by_rho (by omega), if_neg (by omega)])⟩
            refine ⟨j, by rw [rho_get hjn.1, if_neg hjn.2.1], ?_⟩
            rw [eqS, lk_append, mapO_none (fun q hq h => by
              have := ekeys q hq
              rw [by_rho (by omega), if_pos (by omega)] at h
              omega), hjn.2.2]
            exact hj'
        · intro j hj
          rw [rho_get (by omega), if_neg (by omega)]
    obtain ⟨th'', hS2⟩ := hnext
    refine ih (e :: lD) (s.setIfInBounds i true) th'' z' a' w' (inv.set hir hi) (by simp; omega) ?_ ?_ ?_ ?_ hS2
    · intro e1 he1
      rcases List.mem_cons.1 he1 with rfl | he1
      · rw [ei]; exact ⟨hi, q3⟩
      · exact hmem e1 he1
    · rw [List.map_cons, ei]
      exact List.nodup_cons.2 ⟨fun h => by
        obtain ⟨e1, h1, h2⟩ := List.mem_map.1 h
        exact hnot ⟨e1, h1, h2⟩, hnd⟩
    · intro j hj
      by_cases hij : i = j
      · subst hij
        refine ⟨fun _ => ⟨e, by simp, ei⟩, fun _ => ?_⟩
        have : i < s.size := by rw [inv.size]; have := ok.le; omega
        simp [this]
      · rw [getD_set_ne false hij, hs j hj]
        constructor
        · rintro ⟨e1, h1, h2⟩; exact ⟨e1, by simp [h1], h2⟩
        · rintro ⟨e1, h1, h2⟩
          rcases List.mem_cons.1 h1 with rfl | h1
          · exact (hij (ei.symm.trans h2)).elim
          · exact ⟨e1, h1, h2⟩
    · intro e1 he1 p1 hp1 x hx
      rcases List.mem_cons.1 he1 with rfl | he1
      · rw [ei, q2] at hp1; cases hp1
        obtain ⟨e2, h1, h2⟩ := hancD x hx
        exact ⟨e2, by simp [h1], h2⟩
      · obtain ⟨e2, h1, h2⟩ := hanc e1 he1 p1 hp1 x hx
        exact ⟨e2, by simp [h1], h2⟩
end
end Go.AM
/- The abstract machine, 24: regions that draw their order, where what allocates is not ordered: how they are run. -/
namespace Go.AM
open Go
section
variable {P : Program} {E : Env} {N : Nat} {st : AS}
theorem awp_du {id : Nat} {ops : Array Oper} {AQ : AExit → AS → Prop} {ds : List (Option Nat)} {l l' : List Oper} (hm : P.follows .mixedOrders = true) (n : Nat) (pl : List PU) (tot : Nat) (dss : List Nat) (hB : okU ops n pl tot dss = true) (hd : dstOK N ops = true) (hds : dsOf ops = ds) (ht : ops.toList.drop n = l') (hh : ops.toList.take n = l)
    {m' : List (Nat × AV)} {M : Nat} (hf : fltM dss st.m = m') (hM : st.n + tot = M) (hbig : M + tot ≤ 1000000000) (h : ∀ (K : AS → Prop) (kp : AV → AS → Prop), (∀ st', AQ .normal st' → K st') → (∀ x st', AQ (.pan x) st' → kp x st') → exU P E N ds kp l' st.n ⟨m', st.o, M⟩ pl l 0 [] K) : AWP P E N (.region id ops true) st AQ := by
  subst hds ht hh hf
  have h := h (AQ .normal) (fun x st => AQ (.pan x) st) (fun _ h => h) (fun _ _ h => h)
  have ok := okU_spec hB
  intro Q hQ th z a w hs
  let Q' : Exit → Act → World → Prop := fun e a w => match e with
    | .panic c => ∀ a' : Act, a'.defers = a.defers → Q (.panic c) a' w
    | e => Q e a w
  refine wp_mono (Q := Q') ?_ (fun e a w hq => by
    cases e
    case panic c => exact hq a rfl
    all_goals exact hq)
  refine wp_region_any hm ?_
  have hdst := dstOK_spec hd
  obtain ⟨L, _, hL, hprop, htail⟩ := exU_out (N := N) (es := []) (j := 0) rfl (fun o ho => hdst o (List.mem_of_mem_take ho)) (fun p hp => by
    obtain ⟨i, hi⟩ := List.mem_iff_getElem?.1 hp
    have hi' : i < n := by have := (List.getElem?_eq_some_iff.1 hi).1; have := ok.len; omega
    have := ok.tot i p hi' hi
    show st.n + p.r + p.k ≤ M
    omega) h
  have hlen : (ops.toList.take n).length = n := by have := ok.le; simp; omega
  rw [hlen, Nat.zero_add] at hL
  simp only [Nat.zero_add] at hprop
  have hprop' : ∀ j, j < n → ∃ o p e, ops[j]? = some o ∧ pl[j]? = some p ∧ L[j]? = some e ∧ PropE P E N ⟨fltM dss st.m, st.o, M⟩ st.n L j o p e := by
    intro j hj
    obtain ⟨o, p, e, q1, q2, q3, q4⟩ := hprop j (by omega)
    rw [List.getElem?_take_of_lt hj] at q1
    exact ⟨o, p, e, by simpa using q1, q2, q3, q4⟩
  have hs0 := hs.ext (ext_drew w)
  have hm0 := hs.mem.len
  have inv0 : HeadInv .any ops n (Array.replicate ops.size false) :=
    ⟨by simp, fun j oj _ hl => (by rw [getD_replicate_false] at hl; cases hl), fun t _ ht => getD_in (by simpa using ht) (getD_replicate_false _ _)⟩
  have hbase : Sim E N (stE ⟨fltM dss st.m, st.o, M⟩ []) (th ++ List.replicate tot ⟨0, 0, 0, 0, false⟩) z a w.drew :=
    (hs0.more tot).sub (by show M = st.n + tot; omega) (fun i x hi => hi) (fun i x hi => (fltM_lk hi).2)
  have hE : E.th0.length ≤ st.n := by
    apply Classical.byContradiction
    intro hno
    have := hs.mem.pre st.n E.th0[st.n] (by simp [show st.n < E.th0.length by omega])
    have := (List.getElem?_eq_some_iff.1 this).1
    omega
  have key := anyU (Q := Q') (g := ops.size - n) (bs := ⟨fltM dss st.m, st.o, M⟩) (n0 := st.n) ok hL hM.symm hbig hE hprop'
    (fun i x hi => by
      obtain ⟨h1, h2⟩ := fltM_lk hi
      refine ⟨h1, fun f hf => ?_⟩
      obtain ⟨y, _, hr⟩ := hs.slots i x h2
      exact hr.lt (fun i hi => hf i (by omega)))
    (fun i nd hi => by
      obtain ⟨L, h1, h2, _⟩ := hs.mem.nds i nd hi
      exact ⟨by have := (List.getElem?_eq_some_iff.1 h1).1; omega, fun f hf => h2.lt (fun i hi => hf i (by omega))⟩)
    (fun lD th' z' a' w' hin hall hsim => by
      have hsub : Sim E N (stE ⟨fltM dss st.m, st.o, M⟩ L.reverse) th' z' a' w' := by
        have hLi : ∀ e ∈ L, L[e.i]? = some e := fun e he => hin e (hall e he)
        have props : ∀ e ∈ L, ∃ o p, e.i < n ∧ ops[e.i]? = some o ∧ pl[e.i]? = some p ∧ PropE P E N ⟨fltM dss st.m, st.o, M⟩ st.n L e.i o p e := by
          intro e he
          have h1 := hLi e he
          have hlt : e.i < n := by have := (List.getElem?_eq_some_iff.1 h1).1; omega
          obtain ⟨o, p, e', q1, q2, q3, q4⟩ := hprop' e.i hlt
          rw [h1] at q3; cases q3
          exact ⟨o, p, hlt, q1, q2, q4⟩
        have back : ∀ e ∈ lD, e ∈ L := fun e he => List.mem_of_getElem? (hin e he)
        have hdist : ∀ a ∈ lD, ∀ b ∈ lD, a.d = b.d → a = b := by
          intro a ha b hb hab
          obtain ⟨o1, p1, l1, r1, r2, r3⟩ := props a (back a ha)
          obtain ⟨o2, p2, l2, t1, t2, t3⟩ := props b (back b hb)
          by_cases hne : b.i = a.i
          · have h1 := hin a ha
            have h2 := hin b hb
            rw [hne, h1] at h2; exact Option.some.inj h2
          · have := (ok.pair a.i b.i o1 p1 o2 p2 l1 l2 hne r1 r2 t1 t2).1
            rw [t3.d, r3.d, hab] at this; exact (this rfl).elim
        refine hsim.sub rfl (fun i x hi => ?_) (fun i x hi => ?_)
        · refine finO_get (fun e1 he1 y hy => ?_) ?_
          · obtain ⟨o1, p1, l1, r1, r2, r3⟩ := props e1 (back e1 he1)
            have hk1 := r3.keys _ (lk_mem hy)
            rcases lk_finO hi with ⟨e2, h1, h2⟩ | h2
            · obtain ⟨o2, p2, l2, t1, t2, t3⟩ := props e2 (List.mem_reverse.1 h1)
              have hk2 := t3.keys _ (lk_mem h2)
              by_cases hne : e2.i = e1.i
              · have g1 := hLi e2 (List.mem_reverse.1 h1)
                have g2 := hin e1 he1
                rw [hne, g2] at g1
                rw [← Option.some.inj g1, hy] at h2; exact Option.some.inj h2
              · have := (ok.pair e1.i e2.i o1 p1 o2 p2 l1 l2 hne r1 r2 t1 t2).2.2
                simp only at hk1 hk2; omega
            · obtain ⟨L', g1, _⟩ := hs.mem.nds i x h2
              have := (List.getElem?_eq_some_iff.1 g1).1
              simp only at hk1; omega
          · rcases lk_finO hi with ⟨e2, h1, h2⟩ | h2
            · exact .inl ⟨e2, hall e2 (List.mem_reverse.1 h1), h2⟩
            · exact .inr h2
        · rcases lk_finM hi with ⟨e2, h1, rfl, rfl⟩ | ⟨h1, h2⟩
          · exact finM_get (hall e2 (List.mem_reverse.1 h1)) hdist
          · show lk (finM lD _) i = _
            rw [finM_none (fun e1 he1 => h1 e1 (List.mem_reverse.2 (back e1 he1)))]; exact h2
      have := wpAny_of_seq (md := .any) (Q' := Q') (ops.toList.drop n) n ((List.range ops.size).map fun i => decide (i < n)).toArray a' w' (fun j => by simp [List.getElem?_drop]) (by simpa using ok.seq)
        (exec_sound (Q := Q') (K := AQ .normal) (kp := fun x st => AQ (.pan x) st) (fun x v st' th' z' a' w' g1 g2 g3 a2 ha => hQ.2.2.2 x v st' th' z' w' g1 g2.mem g3 a2 (ha.trans g2.dfs)) (fun st' th' z' a' w' g1 g2 => hQ.1 st' th' z' a' w' g1 g2) _ (fun o ho => hdst o (List.mem_of_mem_drop ho)) hsub (exec_of htail))
      simpa using this)
    n [] (Array.replicate ops.size false) _ z a w.drew inv0 (by simp) (by simp) (by simp) (fun i hi => by rw [getD_replicate_false]; simp) (by simp) hbase
  have e : n + (ops.size - n) = ops.size := by have := ok.le; omega
  rw [e] at key
  exact key
end
section
variable (P : Program) (E : Env) (N : Nat) (ds : List (Option Nat)) (kp : AV → AS → Prop) (tail : List Oper) (n0 : Nat) (bs : AS) (p : PU) (pl : List PU) (rest : List Oper) (j d : Nat) (es : List En) (K : AS → Prop)
def kontU (v : AV) (oo : List (Nat × Nd)) : Prop := fixU bs.n n0 p.chk v oo ∧ exU P E N ds kp tail n0 bs pl rest (j + 1) (⟨j, d, v, oo⟩ :: es) K
def goUQ (r : SR) : Prop := match r with
  | .val v _ => p.k = 0 ∧ kontU P E N ds kp tail n0 bs p pl rest j d es K v []
  | _ => False
def goUL (r : Option (Prop × TypeId × Nat × Nat × List (List AV))) : Prop := match r with
  | some (c, e, sz, len, els) => c ∧ p.k = 1 ∧ kontU P E N ds kp tail n0 bs p pl rest j d es K (.s (n0 + p.r) 0 len) [(n0 + p.r, .lst e sz els)]
  | none => False
def callU (R : AS) (g : Nat) (xs : List AV) : Prop := CallU P E.G R g xs (n0 + p.r) p.k (kontU P E N ds kp tail n0 bs p pl rest j d es K)
def goUC (R : AS) (f : Option AV) (xs : Option (List AV)) : Prop := match f, xs with
  | some (.fn g caps), some xs => callU P E N ds kp tail n0 bs p pl rest j d es K R g (xs ++ caps)
  | _, _ => False
def goU (q : Bool) (R : AS) (op : Op) : Prop := match q with
  | true => goUQ P E N ds kp tail n0 bs p pl rest j d es K (stepR P E.G R op)
  | false => MakesU P E R op (n0 + p.r) p.k (kontU P E N ds kp tail n0 bs p pl rest j d es K)
@[go_sem] theorem exU_nil (pl : List PU) : exU P E N ds kp tail n0 bs pl [] j es K = ex P E N ds kp tail (stE bs es) K := by cases pl <;> rfl
theorem makes_q (R : AS) (op : Op) (h : isQ op = true) (r k : Nat) (kont : AV → List (Nat × Nd) → Prop) : MakesU P E R op r k kont = (match stepR P E.G R op with | .val v _ => k = 0 ∧ kont v [] | _ => False) := by
  have key : ∀ x : Option AV, (match x with | some v => k = 0 ∧ kont v [] | none => False) = (match ofO R x with | .val v _ => k = 0 ∧ kont v [] | _ => False) := by
    intro x; cases x <;> rfl
  cases op
  case call c =>
    obtain ⟨callee, args, ats⟩ := c
    cases callee with
    | value f => simp [isQ] at h
    | builtin b => cases b <;> first | (simp [isQ] at h; done) | (rw [stepR_call_else (by simp) (by simp)]; exact key _)
    | invoke a b => simp [isQ] at h
  all_goals first | (simp [isQ] at h; done) | exact key _ | exact key none | rfl
@[go_sem] theorem exU_cons (op : Op) (t : TypeId) (pp : String) (af : Array Edge) : exU P E N ds kp tail n0 bs (p :: pl) (⟨some d, op, t, pp, af, none⟩ :: rest) j es K = goU P E N ds kp tail n0 bs p pl rest j d es K (isQ op) (stE bs (fltE p.anc es)) op := by
  have e : exU P E N ds kp tail n0 bs (p :: pl) (⟨some d, op, t, pp, af, none⟩ :: rest) j es K = MakesU P E (stE bs (fltE p.anc es)) op (n0 + p.r) p.k (kontU P E N ds kp tail n0 bs p pl rest j d es K) := by
    simp only [exU, true_and]; rfl
  rw [e]
  cases h : isQ op
  · rfl
  · exact makes_q P E _ op h _ _ _
@[go_sem] theorem goU_t (R : AS) (op : Op) : goU P E N ds kp tail n0 bs p pl rest j d es K true R op = goUQ P E N ds kp tail n0 bs p pl rest j d es K (stepR P E.G R op) := rfl
@[go_sem] theorem goU_list (R : AS) (T : TypeId) (len : Nat) (ps : Array (Nat × Operand)) : goU P E N ds kp tail n0 bs p pl rest j d es K false R (.buildSlice T len ps) = goUL P E N ds kp tail n0 bs p pl rest j d es K (lstU P E.G R (.buildSlice T len ps)) := rfl
@[go_sem] theorem goU_call (R : AS) (f : Operand) (args : Array Operand) (ats : Array TypeId) : goU P E N ds kp tail n0 bs p pl rest j d es K false R (.call { callee := .value f, args := args, argTypes := ats }) = goUC P E N ds kp tail n0 bs p pl rest j d es K R (ev R E.G f) (evs R E.G args.toList) := rfl
@[go_sem] theorem goUQ_val (v : AV) (s : AS) : goUQ P E N ds kp tail n0 bs p pl rest j d es K (.val v s) = (p.k = 0 ∧ kontU P E N ds kp tail n0 bs p pl rest j d es K v []) := rfl
@[go_sem] theorem goUL_some (c : Prop) (e : TypeId) (sz len : Nat) (els : List (List AV)) : goUL P E N ds kp tail n0 bs p pl rest j d es K (some (c, e, sz, len, els)) = (c ∧ p.k = 1 ∧ kontU P E N ds kp tail n0 bs p pl rest j d es K (.s (n0 + p.r) 0 len) [(n0 + p.r, .lst e sz els)]) := rfl
@[go_sem] theorem goUC_some (R : AS) (g : Nat) (caps xs : List AV) : goUC P E N ds kp tail n0 bs p pl rest j d es K R (some (.fn g caps)) (some xs) = callU P E N ds kp tail n0 bs p pl rest j d es K R g (xs ++ caps) := rfl
@[go_sem] theorem kontU_eq (v : AV) (oo : List (Nat × Nd)) : kontU P E N ds kp tail n0 bs p pl rest j d es K v oo = (fixU bs.n n0 p.chk v oo ∧ exU P E N ds kp tail n0 bs pl rest (j + 1) (⟨j, d, v, oo⟩ :: es) K) := rfl
end
section
variable {P : Program} {E : Env} {N : Nat} {ds : List (Option Nat)} {kp : AV → AS → Prop} {tail : List Oper} {n0 : Nat} {bs : AS} {p : PU} {pl : List PU} {rest : List Oper} {j d : Nat} {es : List En} {K : AS → Prop}
theorem callU_i {R : AS} {g : Nat} {xs ys : List AV} {res : AV} {os : List (Nat × Nd)} {k : Nat} (hc : Con P E.G g ys [] 0 (Is res os k) No) (hb : borL R xs = some ys) (hp : PT res) (hq : ∀ p ∈ os, PTNd p.2)
    (hx : k = p.k ∧ (∀ x ∈ os, x.1 < p.k) ∧ (p.k = 0 → ren (· + R.n) res = ren (· + (n0 + p.r)) res) ∧ (0 < p.k → ren (by_ (rho R.n (n0 + p.r) p.k)) (ren (· + (n0 + p.r)) res) = ren (· + R.n) res ∧ mapO (by_ (rho R.n (n0 + p.r) p.k)) (shO (n0 + p.r) os) = shO R.n os))
    (hk : kontU P E N ds kp tail n0 bs p pl rest j d es K (ren (· + (n0 + p.r)) res) (shO (n0 + p.r) os)) : callU P E N ds kp tail n0 bs p pl rest j d es K R g xs := by
  obtain ⟨rfl, h1, h2, h3⟩ := hx
  exact ⟨ys, res, os, hc, hb, hp, hq, h1, h2, h3, hk⟩
@[go_sem] theorem by_rho_in {M r k i : Nat} (h : i < M) (h1 : r ≤ i) (h2 : i < r + k) : by_ (rho M r k) i = M + (i - r) := by rw [by_rho h, if_pos ⟨h1, h2⟩]
@[go_sem] theorem by_rho_lo {M r k i : Nat} (h : i < M) (h1 : i < r) : by_ (rho M r k) i = i := by rw [by_rho h, if_neg (by omega)]
@[go_sem] theorem by_rho_hi {M r k i : Nat} (h : i < M) (h1 : r + k ≤ i) : by_ (rho M r k) i = i := by rw [by_rho h, if_neg (by omega)]
end
attribute [go_sem] stE finM finO fltE fltM fixU fixO lstU pureL pureA mapO memN true_and and_true cond_true cond_false
end Go.AM
/- Statements: the reference's tokens out of texts. -/
namespace Go.AM
open Go Go.RowKit
open Go.Proofs.YtoecmmpjndcolaaDoor (OP nameM litM exprM marksS wordsS StrsAt str SlAt letB wrdB digB bt)
attribute [local irreducible] AWP retA
theorem str_get (l : List UInt8) (i : Nat) : (str l)[i]? = l[i]? := by
  by_cases h : i < l.length
  · have h1 : i < (str l).size := h
    rw [getElem?_def, dif_pos h1, List.getElem?_eq_getElem h]; rfl
  · have h1 : ¬ i < (str l).size := h
    rw [getElem?_def, dif_neg h1, List.getElem?_eq_none (by omega)]
theorem str_size (l : List UInt8) : (str l).size = l.length := by simp [str, ByteArray.size]
theorem ba_ext {a b : ByteArray} (h : a.toList = b.toList) : a = b := by
  rw [Go.Proofs.YtoecmmpjndcolaaDoor.eq_str a, Go.Proofs.YtoecmmpjndcolaaDoor.eq_str b, h]
theorem str_app (a b : List UInt8) : str a ++ str b = str (a ++ b) := by
  apply ba_ext
  rw [Go.Proofs.YtoecmmpjndcolaaDoor.mk_toList, ByteArray.toList_eq, ByteArray.data_append]
  simp [str]
theorem str_ext (l : List UInt8) (i j : Nat) : (str l).extract i j = str ((l.take j).drop i) := by
  apply ba_ext
  rw [Go.Proofs.YtoecmmpjndcolaaDoor.mk_toList, ByteArray.toList_eq]
  simp [str, ByteArray.data_extract, List.drop_take]
def emit : List UInt8 → List TK0
  | [] => []
  | c :: r => [⟨if letB c.toNat = true then 1 else 4, str (c :: r), 0⟩]
def toksG : List UInt8 → List UInt8 → List TK0
  | cur, [] => emit cur
  | cur, c :: r => if c = 32 then emit cur ++ toksG [] r else toksG (cur ++ [c]) r
def toksM (l : List UInt8) : List TK0 := toksG [] l
theorem toksG_word : ∀ (w cur r : List UInt8), (∀ c ∈ w, c ≠ 32) → toksG cur (w ++ r) = toksG (cur ++ w) r
  | [], cur, r, _ => by simp
  | c :: w, cur, r, h => by
    rw [List.cons_append, toksG, if_neg (h c (by simp)), toksG_word w (cur ++ [c]) r (fun x hx => h x (by simp [hx]))]; simp
theorem toksG_blank (cur r : List UInt8) : toksG cur (32 :: r) = emit cur ++ toksG [] r := by rw [toksG, if_pos rfl]
theorem toksG_len : ∀ (l cur : List UInt8), (toksG cur l).length ≤ l.length + 1
  | [], cur => by cases cur <;> simp [toksG, emit]
  | c :: r, cur => by
    rw [toksG]
    split
    · have := toksG_len r []
      cases cur <;> simp [emit] <;> omega
    · have := toksG_len r (cur ++ [c]); simp; omega
theorem wordByte_con (G : List (Nat × List Value)) (c : UInt8) : Con Go.Proofs.Tryd.prog G 95 [.r (.int .u8 c.toNat)] [] 0 (Is (.r (.bool (letB c.toNat))) [] 0) No :=
  con_of_calls (by kernel_rfl) (fun w z vs hz hr hG => by
    obtain ⟨v, r, rfl, h1, h2⟩ := hr.head
    obtain rfl := h1.r_inv
    obtain rfl := h2.of_nil
    have := c.toNat_lt
    exact (Go.Proofs.YtoecmmpjndcolaaDoor.wordByte_any c.toNat w (by omega) (by omega)).mono (fun e w' ⟨he, hw⟩ => by subst hw; exact ⟨he, Below.refl _ _⟩))
def toksI (l : List UInt8) (q : Nat × Nat × List TK0) : Prop := q.2.1 ≤ q.1 ∧ q.1 ≤ l.length + 1 ∧ q.2.2.length ≤ q.1 ∧ (q.1 ≤ l.length → q.2.2 ++ toksG ((l.take q.1).drop q.2.1) (l.drop q.1) = toksM l) ∧ (q.1 = l.length + 1 → q.2.2 = toksM l)
theorem toks_next {l : List UInt8} {i : Nat} {out : List TK0} {q : List TK0} (hi : i < l.length) (h3 : out.length ≤ i) (hq : q.length ≤ out.length + 1) (h : q ++ toksG [] (l.drop (i + 1)) = toksM l) : toksI l (i + 1, i + 1, q) :=
  ⟨Nat.le_refl _, by simp only; omega, by simp only; omega, fun _ => by simp only; rw [List.drop_of_length_le (by simp; omega)]; exact h, fun e => by simp only at e; omega⟩
theorem cur_cons {l : List UInt8} {fr i : Nat} {c : UInt8} (hf : fr < i) (h : l[fr]? = some c) : ∃ tl, (l.take i).drop fr = c :: tl := by
  have : (l.take i)[fr]? = some c := by rw [List.getElem?_take_of_lt hf]; exact h
  exact ⟨_, drop_at this⟩
set_option maxRecDepth 100000 in
set_option maxHeartbeats 8000000 in
theorem toks_con (G : List (Nat × List Value)) (l : List UInt8) (hl : l.length ≤ 1000000) : Con Go.Proofs.Tryd.prog G 75 [.r (.string (str l))] [] 0 (Is (.s 0 0 (toksM l).length) [(0, .lst 61 3 ((toksM l).map eT))] 1) No := by
  refine con_of_awp Go.Proofs.Tryd.func75 rfl (by kernel_rfl) (of_decide_eq_true (by kernel_rfl)) ?_; intro E hG hE; subst hG; simp only [ent]
  (repeat' (first | refine awp_seq ?_ | refine awp_block ?_ | refine awp_skip ?_ | refine awp_exit ?_ | ((first | refine awp_r (by kernel_rfl) (fun K kp hK hkp => ?_)); simp (implicitDefEqProofs := false) (maxSteps := 2000000) (disch := omega) only [go_sem]; (repeat' (first | (refine hK _ ?_; clear hK hkp kp K) | (with_reducible refine And.intro ?_ ?_) | omega))) | ((first | refine goG_ask (fun h => ?_) (fun h => ?_) | refine goGD_ask (fun h => ?_) (fun h => ?_) | refine goGX_ask (fun h => ?_) (fun h => ?_)) <;> (simp (implicitDefEqProofs := false) (maxSteps := 2000000) (disch := omega) only [go_sem, h]; (repeat' (first | (refine hK _ ?_; clear hK hkp kp K) | (with_reducible refine And.intro ?_ ?_) | omega)))) | refine awp_cond_t rfl ?_ | refine awp_cond_f rfl ?_ | ((refine awp_cond rfl (fun h => ?_) (fun h => ?_) <;> try simp only [decide_eq_true_eq, decide_eq_false_iff_not, Int.not_lt, Int.not_le, Bool.not_eq_true, Bool.not_eq_false, bne_iff_ne, ne_eq, beq_iff_eq, bne_eq_false_iff_eq, beq_eq_false_iff_ne] at h) <;> (try (exfalso; omega))) | refine awp_ret ?_))
  (refine AWP.emb (emb_nil 3 61 3 ?_) ?_; (· rfl); dsimp only)
  refine awp_loop (fun q : Nat × Nat × List TK0 => ⟨[(5, .r (.int .i64 q.1)), (4, .r (.int .i64 q.2.1)), (0, .r (.string (str l))), (3, .s 0 0 q.2.2.length)], [(0, .lst 61 3 (q.2.2.map eT))], 1⟩) (toksI l) (fun q => l.length + 1 - q.1) (0, 0, []) ?_ ?_ ?_
  · refine ⟨by simp, by simp, by simp, fun _ => by simp [toksM], fun h => by simp at h⟩
  · (refine emb [0] ?_ ?_ rfl ?_ ?_ ?_ ?_ <;> simp [okM, okO, lk, ren, renL, renNd, by_, hE] <;> (try omega))
  rintro ⟨i, fr, out⟩ ⟨h1, h2, h3, h4, h5⟩
  simp only at h1 h2 h3 h4 h5 ⊢
  by_cases hi : i ≤ l.length
  · have hno := h4 hi
    have d0 : decide ((i : Int) ≤ (l.length : Int)) = true := decide_eq_true (by omega)
    by_cases hlt : i < l.length
    · have d1 : decide ((i : Int) < (l.length : Int)) = true := decide_eq_true (by omega)
      obtain ⟨c, hc⟩ : ∃ c, l[i]? = some c := ⟨l[i], by simp [hlt]⟩
      have hd := drop_at hc
      rw [hd] at hno
      by_cases h32 : c = 32
      · have d2 : ((c.toNat : Int) != 32) = false := by subst h32; rfl
        rw [toksG, if_pos h32] at hno
        by_cases hf : fr < i
        · have d3 : decide ((i : Int) > (fr : Int)) = true := decide_eq_true (by omega)
          obtain ⟨c0, hc0⟩ : ∃ c, l[fr]? = some c := ⟨l[fr]'(by omega), by simp⟩
          obtain ⟨tl, hcur⟩ := cur_cons hf hc0
          have hx := str_ext l fr i
          have hw := wordByte_con E.G c0
          cases hlet : letB c0.toNat
          · rw [hlet] at hw
            have hem : emit ((l.take i).drop fr) = [⟨4, str ((l.take i).drop fr), 0⟩] := by rw [hcur, emit, hlet]; rfl
            (repeat' (first | refine awp_seq ?_ | refine awp_block ?_ | refine awp_skip ?_ | refine awp_exit ?_ | ((first | refine awp_r (by kernel_rfl) (fun K kp hK hkp => ?_) | ((first | apply callR_i (hw) | apply callD_i (hw) | apply callX_i (hw)); (case hb => (simp (implicitDefEqProofs := false) (maxSteps := 2000000) (disch := omega) only [go_sem, str_get, str_size, hc, hc0, d0, d1, d2, d3, hx]; first | done | rfl)); (case hp => (first | (simp [-List.map_drop, -List.map_take, str_get, str_size, hc, hc0, d0, d1, d2, d3, hx]; done) | exact .ro _ _ (pt_map _ _))); (case hq => (first | (simp [-List.map_drop, -List.map_take]; done) | (intro _ h; simp only [List.mem_singleton] at h; subst h; exact pt_map _ _))))); simp (implicitDefEqProofs := false) (maxSteps := 2000000) (disch := omega) only [go_sem, str_get, str_size, hc, hc0, d0, d1, d2, d3, hx]; (repeat' (first | (refine hK _ ?_; clear hK hkp kp K) | (with_reducible refine And.intro ?_ ?_) | omega))) | ((first | refine goG_ask (fun h => ?_) (fun h => ?_) | refine goGD_ask (fun h => ?_) (fun h => ?_) | refine goGX_ask (fun h => ?_) (fun h => ?_)) <;> (simp (implicitDefEqProofs := false) (maxSteps := 2000000) (disch := omega) only [go_sem, str_get, str_size, hc, hc0, d0, d1, d2, d3, hx, h]; (repeat' (first | (refine hK _ ?_; clear hK hkp kp K) | (with_reducible refine And.intro ?_ ?_) | omega)))) | refine awp_cond_t rfl ?_ | refine awp_cond_f rfl ?_ | ((refine awp_cond rfl (fun h => ?_) (fun h => ?_) <;> try simp only [decide_eq_true_eq, decide_eq_false_iff_not, Int.not_lt, Int.not_le, Bool.not_eq_true, Bool.not_eq_false, bne_iff_ne, ne_eq, beq_iff_eq, bne_eq_false_iff_eq, beq_eq_false_iff_ne] at h) <;> (try (exfalso; omega))) | refine awp_ret ?_))
            ((first | (refine nextB ((i + 1, i + 1, out ++ [⟨4, str ((l.take i).drop fr), 0⟩])) ?_ ?_ ?_) | (refine nextA ((i + 1, i + 1, out ++ [⟨4, str ((l.take i).drop fr), 0⟩])) ?_ ?_ ?_)); rotate_left; (· (try dsimp only); (first | omega | (simp only [List.length_drop, List.length_cons, List.length_append]; omega) | (simp; done) | (simp; omega))); (· (refine emb [2] ?_ ?_ rfl ?_ ?_ ?_ ?_ <;> simp [okM, okO, lk, ren, renL, renNd, by_, hE, eT] <;> (try omega))))
            exact toks_next hlt h3 (by simp) (by rw [← hno, hem]; simp)
          · rw [hlet] at hw
            have hem : emit ((l.take i).drop fr) = [⟨1, str ((l.take i).drop fr), 0⟩] := by rw [hcur, emit, hlet]; rfl
            (repeat' (first | refine awp_seq ?_ | refine awp_block ?_ | refine awp_skip ?_ | refine awp_exit ?_ | ((first | refine awp_r (by kernel_rfl) (fun K kp hK hkp => ?_) | ((first | apply callR_i (hw) | apply callD_i (hw) | apply callX_i (hw)); (case hb => (simp (implicitDefEqProofs := false) (maxSteps := 2000000) (disch := omega) only [go_sem, str_get, str_size, hc, hc0, d0, d1, d2, d3, hx]; first | done | rfl)); (case hp => (first | (simp [-List.map_drop, -List.map_take, str_get, str_size, hc, hc0, d0, d1, d2, d3, hx]; done) | exact .ro _ _ (pt_map _ _))); (case hq => (first | (simp [-List.map_drop, -List.map_take]; done) | (intro _ h; simp only [List.mem_singleton] at h; subst h; exact pt_map _ _))))); simp (implicitDefEqProofs := false) (maxSteps := 2000000) (disch := omega) only [go_sem, str_get, str_size, hc, hc0, d0, d1, d2, d3, hx]; (repeat' (first | (refine hK _ ?_; clear hK hkp kp K) | (with_reducible refine And.intro ?_ ?_) | omega))) | ((first | refine goG_ask (fun h => ?_) (fun h => ?_) | refine goGD_ask (fun h => ?_) (fun h => ?_) | refine goGX_ask (fun h => ?_) (fun h => ?_)) <;> (simp (implicitDefEqProofs := false) (maxSteps := 2000000) (disch := omega) only [go_sem, str_get, str_size, hc, hc0, d0, d1, d2, d3, hx, h]; (repeat' (first | (refine hK _ ?_; clear hK hkp kp K) | (with_reducible refine And.intro ?_ ?_) | omega)))) | refine awp_cond_t rfl ?_ | refine awp_cond_f rfl ?_ | ((refine awp_cond rfl (fun h => ?_) (fun h => ?_) <;> try simp only [decide_eq_true_eq, decide_eq_false_iff_not, Int.not_lt, Int.not_le, Bool.not_eq_true, Bool.not_eq_false, bne_iff_ne, ne_eq, beq_iff_eq, bne_eq_false_iff_eq, beq_eq_false_iff_ne] at h) <;> (try (exfalso; omega))) | refine awp_ret ?_))
            ((first | (refine nextB ((i + 1, i + 1, out ++ [⟨1, str ((l.take i).drop fr), 0⟩])) ?_ ?_ ?_) | (refine nextA ((i + 1, i + 1, out ++ [⟨1, str ((l.take i).drop fr), 0⟩])) ?_ ?_ ?_)); rotate_left; (· (try dsimp only); (first | omega | (simp only [List.length_drop, List.length_cons, List.length_append]; omega) | (simp; done) | (simp; omega))); (· (refine emb [2] ?_ ?_ rfl ?_ ?_ ?_ ?_ <;> simp [okM, okO, lk, ren, renL, renNd, by_, hE, eT] <;> (try omega))))
            exact toks_next hlt h3 (by simp) (by rw [← hno, hem]; simp)
        · obtain rfl : fr = i := by omega
          have d3 : decide ((fr : Int) > (fr : Int)) = false := decide_eq_false (by omega)
          have hem : emit ((l.take fr).drop fr) = [] := by rw [List.drop_of_length_le (by simp; omega)]; rfl
          rw [hem] at hno
          (repeat' (first | refine awp_seq ?_ | refine awp_block ?_ | refine awp_skip ?_ | refine awp_exit ?_ | ((first | refine awp_r (by kernel_rfl) (fun K kp hK hkp => ?_)); simp (implicitDefEqProofs := false) (maxSteps := 2000000) (disch := omega) only [go_sem, str_get, str_size, hc, d0, d1, d2, d3]; (repeat' (first | (refine hK _ ?_; clear hK hkp kp K) | (with_reducible refine And.intro ?_ ?_) | omega))) | ((first | refine goG_ask (fun h => ?_) (fun h => ?_) | refine goGD_ask (fun h => ?_) (fun h => ?_) | refine goGX_ask (fun h => ?_) (fun h => ?_)) <;> (simp (implicitDefEqProofs := false) (maxSteps := 2000000) (disch := omega) only [go_sem, str_get, str_size, hc, d0, d1, d2, d3, h]; (repeat' (first | (refine hK _ ?_; clear hK hkp kp K) | (with_reducible refine And.intro ?_ ?_) | omega)))) | refine awp_cond_t rfl ?_ | refine awp_cond_f rfl ?_ | ((refine awp_cond rfl (fun h => ?_) (fun h => ?_) <;> try simp only [decide_eq_true_eq, decide_eq_false_iff_not, Int.not_lt, Int.not_le, Bool.not_eq_true, Bool.not_eq_false, bne_iff_ne, ne_eq, beq_iff_eq, bne_eq_false_iff_eq, beq_eq_false_iff_ne] at h) <;> (try (exfalso; omega))) | refine awp_ret ?_))
          ((first | (refine nextB ((fr + 1, fr + 1, out)) ?_ ?_ ?_) | (refine nextA ((fr + 1, fr + 1, out)) ?_ ?_ ?_)); rotate_left; (· (try dsimp only); (first | omega | (simp only [List.length_drop, List.length_cons, List.length_append]; omega) | (simp; done) | (simp; omega))); (· (refine emb [0] ?_ ?_ rfl ?_ ?_ ?_ ?_ <;> simp [okM, okO, lk, ren, renL, renNd, by_, hE] <;> (try omega))))
          exact toks_next hlt h3 (by omega) (by rw [← hno]; simp)
      · have d2 : ((c.toNat : Int) != 32) = true := by
          simp only [bne_iff_ne, ne_eq]; intro e; have e : c.toNat = 32 := by omega
          exact h32 (UInt8.toNat_inj.1 e)
        (repeat' (first | refine awp_seq ?_ | refine awp_block ?_ | refine awp_skip ?_ | refine awp_exit ?_ | ((first | refine awp_r (by kernel_rfl) (fun K kp hK hkp => ?_)); simp (implicitDefEqProofs := false) (maxSteps := 2000000) (disch := omega) only [go_sem, str_get, str_size, hc, d0, d1, d2]; (repeat' (first | (refine hK _ ?_; clear hK hkp kp K) | (with_reducible refine And.intro ?_ ?_) | omega))) | ((first | refine goG_ask (fun h => ?_) (fun h => ?_) | refine goGD_ask (fun h => ?_) (fun h => ?_) | refine goGX_ask (fun h => ?_) (fun h => ?_)) <;> (simp (implicitDefEqProofs := false) (maxSteps := 2000000) (disch := omega) only [go_sem, str_get, str_size, hc, d0, d1, d2, h]; (repeat' (first | (refine hK _ ?_; clear hK hkp kp K) | (with_reducible refine And.intro ?_ ?_) | omega)))) | refine awp_cond_t rfl ?_ | refine awp_cond_f rfl ?_ | ((refine awp_cond rfl (fun h => ?_) (fun h => ?_) <;> try simp only [decide_eq_true_eq, decide_eq_false_iff_not, Int.not_lt, Int.not_le, Bool.not_eq_true, Bool.not_eq_false, bne_iff_ne, ne_eq, beq_iff_eq, bne_eq_false_iff_eq, beq_eq_false_iff_ne] at h) <;> (try (exfalso; omega))) | refine awp_ret ?_))
        ((first | (refine nextB ((i + 1, fr, out)) ?_ ?_ ?_) | (refine nextA ((i + 1, fr, out)) ?_ ?_ ?_)); rotate_left; (· (try dsimp only); (first | omega | (simp only [List.length_drop, List.length_cons, List.length_append]; omega) | (simp; done) | (simp; omega))); (· (refine emb [0] ?_ ?_ rfl ?_ ?_ ?_ ?_ <;> simp [okM, okO, lk, ren, renL, renNd, by_, hE] <;> (try omega))))
        refine ⟨by simp; omega, by simp; omega, by simp; omega, fun _ => ?_, fun h => ?_⟩
        · simp only
          rw [← hno, toksG, if_neg h32, List.take_add_one, hc, Option.toList, List.drop_append_of_le_length (by simp; omega)]
        · simp only at h; omega
    · obtain rfl : i = l.length := by omega
      have d1 : decide ((l.length : Int) < (l.length : Int)) = false := decide_eq_false (by omega)
      rw [List.drop_length, toksG] at hno
      by_cases hf : fr < l.length
      · have d3 : decide ((l.length : Int) > (fr : Int)) = true := decide_eq_true (by omega)
        obtain ⟨c0, hc0⟩ : ∃ c, l[fr]? = some c := ⟨l[fr]'(by omega), by simp⟩
        obtain ⟨tl, hcur⟩ := cur_cons hf hc0
        have hx := str_ext l fr l.length
        have hw := wordByte_con E.G c0
        cases hlet : letB c0.toNat
        · rw [hlet] at hw
          have hem : emit ((l.take l.length).drop fr) = [⟨4, str ((l.take l.length).drop fr), 0⟩] := by rw [hcur, emit, hlet]; rfl
          (repeat' (first | refine awp_seq ?_ | refine awp_block ?_ | refine awp_skip ?_ | refine awp_exit ?_ | ((first | refine awp_r (by kernel_rfl) (fun K kp hK hkp => ?_) | ((first | apply callR_i (hw) | apply callD_i (hw) | apply callX_i (hw)); (case hb => (simp (implicitDefEqProofs := false) (maxSteps := 2000000) (disch := omega) only [go_sem, str_get, str_size, hc0, d0, d1, d3, hx]; first | done | rfl)); (case hp => (first | (simp [-List.map_drop, -List.map_take, str_get, str_size, hc0, d0, d1, d3, hx]; done) | exact .ro _ _ (pt_map _ _))); (case hq => (first | (simp [-List.map_drop, -List.map_take]; done) | (intro _ h; simp only [List.mem_singleton] at h; subst h; exact pt_map _ _))))); simp (implicitDefEqProofs := false) (maxSteps := 2000000) (disch := omega) only [go_sem, str_get, str_size, hc0, d0, d1, d3, hx]; (repeat' (first | (refine hK _ ?_; clear hK hkp kp K) | (with_reducible refine And.intro ?_ ?_) | omega))) | ((first | refine goG_ask (fun h => ?_) (fun h => ?_) | refine goGD_ask (fun h => ?_) (fun h => ?_) | refine goGX_ask (fun h => ?_) (fun h => ?_)) <;> (simp (implicitDefEqProofs := false) (maxSteps := 2000000) (disch := omega) only [go_sem, str_get, str_size, hc0, d0, d1, d3, hx, h]; (repeat' (first | (refine hK _ ?_; clear hK hkp kp K) | (with_reducible refine And.intro ?_ ?_) | omega)))) | refine awp_cond_t rfl ?_ | refine awp_cond_f rfl ?_ | ((refine awp_cond rfl (fun h => ?_) (fun h => ?_) <;> try simp only [decide_eq_true_eq, decide_eq_false_iff_not, Int.not_lt, Int.not_le, Bool.not_eq_true, Bool.not_eq_false, bne_iff_ne, ne_eq, beq_iff_eq, bne_eq_false_iff_eq, beq_eq_false_iff_ne] at h) <;> (try (exfalso; omega))) | refine awp_ret ?_))
          ((first | (refine nextB ((l.length + 1, l.length + 1, out ++ [⟨4, str ((l.take l.length).drop fr), 0⟩])) ?_ ?_ ?_) | (refine nextA ((l.length + 1, l.length + 1, out ++ [⟨4, str ((l.take l.length).drop fr), 0⟩])) ?_ ?_ ?_)); rotate_left; (· (try dsimp only); (first | omega | (simp only [List.length_drop, List.length_cons, List.length_append]; omega) | (simp; done) | (simp; omega))); (· (refine emb [2] ?_ ?_ rfl ?_ ?_ ?_ ?_ <;> simp [okM, okO, lk, ren, renL, renNd, by_, hE, eT] <;> (try omega))))
          refine ⟨by simp, by simp, by simp; omega, fun h => by simp at h; omega, fun _ => by rw [← hno, hem]⟩
        · rw [hlet] at hw
          have hem : emit ((l.take l.length).drop fr) = [⟨1, str ((l.take l.length).drop fr), 0⟩] := by rw [hcur, emit, hlet]; rfl
          (repeat' (first | refine awp_seq ?_ | refine awp_block ?_ | refine awp_skip ?_ | refine awp_exit ?_ | ((first | refine awp_r (by kernel_rfl) (fun K kp hK hkp => ?_) | ((first | apply callR_i (hw) | apply callD_i (hw) | apply callX_i (hw)); (case hb => (simp (implicitDefEqProofs := false) (maxSteps := 2000000) (disch := omega) only [go_sem, str_get, str_size, hc0, d0, d1, d3, hx]; first | done | rfl)); (case hp => (first | (simp [-List.map_drop, -List.map_take, str_get, str_size, hc0, d0, d1, d3, hx]; done) | exact .ro _ _ (pt_map _ _))); (case hq => (first | (simp [-List.map_drop, -List.map_take]; done) | (intro _ h; simp only [List.mem_singleton] at h; subst h; exact pt_map _ _))))); simp (implicitDefEqProofs := false) (maxSteps := 2000000) (disch := omega) only [go_sem, str_get, str_size, hc0, d0, d1, d3, hx]; (repeat' (first | (refine hK _ ?_; clear hK hkp kp K) | (with_reducible refine And.intro ?_ ?_) | omega))) | ((first | refine goG_ask (fun h => ?_) (fun h => ?_) | refine goGD_ask (fun h => ?_) (fun h => ?_) | refine goGX_ask (fun h => ?_) (fun h => ?_)) <;> (simp (implicitDefEqProofs := false) (maxSteps := 2000000) (disch := omega) only [go_sem, str_get, str_size, hc0, d0, d1, d3, hx, h]; (repeat' (first | (refine hK _ ?_; clear hK hkp kp K) | (with_reducible refine And.intro ?_ ?_) | omega)))) | refine awp_cond_t rfl ?_ | refine awp_cond_f rfl ?_ | ((refine awp_cond rfl (fun h => ?_) (fun h => ?_) <;> try simp only [decide_eq_true_eq, decide_eq_false_iff_not, Int.not_lt, Int.not_le, Bool.not_eq_true, Bool.not_eq_false, bne_iff_ne, ne_eq, beq_iff_eq, bne_eq_false_iff_eq, beq_eq_false_iff_ne] at h) <;> (try (exfalso; omega))) | refine awp_ret ?_))
          ((first | (refine nextB ((l.length + 1, l.length + 1, out ++ [⟨1, str ((l.take l.length).drop fr), 0⟩])) ?_ ?_ ?_) | (refine nextA ((l.length + 1, l.length + 1, out ++ [⟨1, str ((l.take l.length).drop fr), 0⟩])) ?_ ?_ ?_)); rotate_left; (· (try dsimp only); (first | omega | (simp only [List.length_drop, List.length_cons, List.length_append]; omega) | (simp; done) | (simp; omega))); (· (refine emb [2] ?_ ?_ rfl ?_ ?_ ?_ ?_ <;> simp [okM, okO, lk, ren, renL, renNd, by_, hE, eT] <;> (try omega))))
          refine ⟨by simp, by simp, by simp; omega, fun h => by simp at h; omega, fun _ => by rw [← hno, hem]⟩
      · obtain rfl : fr = l.length := by omega
        have d3 : decide ((l.length : Int) > (l.length : Int)) = false := decide_eq_false (by omega)
        have hem : emit ((l.take l.length).drop l.length) = [] := by rw [List.drop_of_length_le (by simp)]; rfl
        rw [hem] at hno
        (repeat' (first | refine awp_seq ?_ | refine awp_block ?_ | refine awp_skip ?_ | refine awp_exit ?_ | ((first | refine awp_r (by kernel_rfl) (fun K kp hK hkp => ?_)); simp (implicitDefEqProofs := false) (maxSteps := 2000000) (disch := omega) only [go_sem, str_get, str_size, d0, d1, d3]; (repeat' (first | (refine hK _ ?_; clear hK hkp kp K) | (with_reducible refine And.intro ?_ ?_) | omega))) | ((first | refine goG_ask (fun h => ?_) (fun h => ?_) | refine goGD_ask (fun h => ?_) (fun h => ?_) | refine goGX_ask (fun h => ?_) (fun h => ?_)) <;> (simp (implicitDefEqProofs := false) (maxSteps := 2000000) (disch := omega) only [go_sem, str_get, str_size, d0, d1, d3, h]; (repeat' (first | (refine hK _ ?_; clear hK hkp kp K) | (with_reducible refine And.intro ?_ ?_) | omega)))) | refine awp_cond_t rfl ?_ | refine awp_cond_f rfl ?_ | ((refine awp_cond rfl (fun h => ?_) (fun h => ?_) <;> try simp only [decide_eq_true_eq, decide_eq_false_iff_not, Int.not_lt, Int.not_le, Bool.not_eq_true, Bool.not_eq_false, bne_iff_ne, ne_eq, beq_iff_eq, bne_eq_false_iff_eq, beq_eq_false_iff_ne] at h) <;> (try (exfalso; omega))) | refine awp_ret ?_))
        ((first | (refine nextB ((l.length + 1, l.length + 1, out)) ?_ ?_ ?_) | (refine nextA ((l.length + 1, l.length + 1, out)) ?_ ?_ ?_)); rotate_left; (· (try dsimp only); (first | omega | (simp only [List.length_drop, List.length_cons, List.length_append]; omega) | (simp; done) | (simp; omega))); (· (refine emb [0] ?_ ?_ rfl ?_ ?_ ?_ ?_ <;> simp [okM, okO, lk, ren, renL, renNd, by_, hE] <;> (try omega))))
        refine ⟨by simp, by simp, by simp; omega, fun h => by simp at h; omega, fun _ => by rw [← hno]; simp⟩
  · obtain rfl : i = l.length + 1 := by omega
    have d0 : decide ((l.length : Int) + 1 ≤ (l.length : Int)) = false := decide_eq_false (by omega)
    obtain rfl := h5 rfl
    (repeat' (first | refine awp_seq ?_ | refine awp_block ?_ | refine awp_skip ?_ | refine awp_exit ?_ | ((first | refine awp_r (by kernel_rfl) (fun K kp hK hkp => ?_)); simp (implicitDefEqProofs := false) (maxSteps := 2000000) (disch := omega) only [go_sem, str_size, d0]; (repeat' (first | (refine hK _ ?_; clear hK hkp kp K) | (with_reducible refine And.intro ?_ ?_) | omega))) | ((first | refine goG_ask (fun h => ?_) (fun h => ?_) | refine goGD_ask (fun h => ?_) (fun h => ?_) | refine goGX_ask (fun h => ?_) (fun h => ?_)) <;> (simp (implicitDefEqProofs := false) (maxSteps := 2000000) (disch := omega) only [go_sem, str_size, d0, h]; (repeat' (first | (refine hK _ ?_; clear hK hkp kp K) | (with_reducible refine And.intro ?_ ?_) | omega)))) | refine awp_cond_t rfl ?_ | refine awp_cond_f rfl ?_ | ((refine awp_cond rfl (fun h => ?_) (fun h => ?_) <;> try simp only [decide_eq_true_eq, decide_eq_false_iff_not, Int.not_lt, Int.not_le, Bool.not_eq_true, Bool.not_eq_false, bne_iff_ne, ne_eq, beq_iff_eq, bne_eq_false_iff_eq, beq_eq_false_iff_ne] at h) <;> (try (exfalso; omega))) | refine awp_ret ?_))
    (refine retA_is (by (simp (implicitDefEqProofs := false) (maxSteps := 2000000) (disch := omega) only [go_sem, Go.Proofs.Tryd.results75]); rfl) ?_; refine (embV [0] ?_ ?_ ?_ ?_ ?_ ?_).s <;> simp [oneA, okO, lk, ren, renL, renNd, by_, hE])
end Go.AM
/- Statements: values as tokens, both ways. -/
namespace Go.AM
open Go Go.RowKit
open Go.Proofs.YtoecmmpjndcolaaDoor (OP nameM litM exprM marksS wordsS StrsAt str SlAt letB wrdB digB bt vcheck)
attribute [local irreducible] AWP retA
def nullS : ByteArray := str [78, 85, 76, 76]
def trueS : ByteArray := str [84, 82, 85, 69]
def falseS : ByteArray := str [70, 65, 76, 83, 69]
def valT (v : V) : List TK0 :=
  if v.k = 0 then [wordT nullS] else if v.k = 1 then (if v.n = 1 then [wordT trueS] else [wordT falseS]) else if v.k = 3 then [⟨3, v.s, 0⟩] else if v.n < 0 then [markT (str [45]), ⟨2, str [], -v.n⟩] else [⟨2, str [], v.n⟩]
inductive GoodV (v : V) : Prop
  | null (h : v.k = 0)
  | bool (h : v.k = 1) (h1 : v.n = 0 ∨ v.n = 1) (hs : v.s = str [])
  | int (h : v.k = 2) (h1 : -9223372036854775808 < v.n)
  | text (h : v.k = 3)
theorem str_nil_of {s : ByteArray} (h : s.toList = []) : s = str [] := by rw [Go.Proofs.YtoecmmpjndcolaaDoor.eq_str s, h]
theorem good_lit {v : V} (hw : -9223372036854775808 ≤ v.n) (h : litM v.k v.n v.s = 0) : GoodV v := by
  unfold litM at h
  split at h
  · cases h
  rename_i h1
  unfold vcheck at h
  split at h
  · exact .null (by assumption)
  split at h
  · rename_i hk
    split at h
    · cases h
    · rename_i h2
      have h3 : v.s.toList = [] := Classical.byContradiction fun h => h2 (.inr (.inr h))
      exact .bool hk (by omega) (str_nil_of h3)
  split at h
  · rename_i hk; exact .int hk (by omega)
  split at h
  · rename_i hk; exact .text hk
  · cases h
theorem valT_len (v : V) : (valT v).length ≤ 2 := by
  unfold valT
  repeat' split
  all_goals simp
set_option maxRecDepth 100000 in
set_option maxHeartbeats 8000000 in
theorem showValue_con (G : List (Nat × List Value)) (v : V) (hv : GoodV v) (hb : v.n ≤ 9223372036854775807) : Con Go.Proofs.Tryd.prog G 66 [.agg (eV v)] [] 0 (Is (.ro true 3 ((valT v).map eT)) [] 0) No := by
  refine con_of_awp Go.Proofs.Tryd.func66 rfl (by kernel_rfl) (of_decide_eq_true (by kernel_rfl)) ?_; intro E hG hE; subst hG; simp only [ent]
  have mc := mark_con E.G (str [45])
  simp only [eT, markT, str] at mc
  rcases hv with h | ⟨h, h1, hs⟩ | ⟨h, h1⟩ | h
  · have ac := all_con E.G false [nullS] (by simp)
    simp only [List.map_cons, List.map_nil, eStr, eT, wordT, nullS, str] at ac
    (repeat' (first | refine awp_seq ?_ | refine awp_block ?_ | refine awp_skip ?_ | refine awp_exit ?_ | ((first | refine awp_r (by kernel_rfl) (fun K kp hK hkp => ?_) | refine awp_dr (id := 8) mixed 7 [1, 2, 3, 4, 0, 5, 6] (by kernel_rfl) (by kernel_rfl) (by kernel_rfl) (by simp only [go_sem]; rfl) (by simp only [go_sem]; rfl) (by simp only [go_sem]; rfl) (fun K kp hK hkp => ?_) | ((first | apply callR_i (ac) | apply callD_i (ac) | apply callX_i (ac)); (case hb => (simp (implicitDefEqProofs := false) (maxSteps := 2000000) (disch := omega) only [go_sem, eV, h]; first | done | rfl)); (case hp => (first | (simp [-List.map_drop, -List.map_take, eV, h]; done) | exact .ro _ _ (pt_map _ _))); (case hq => (first | (simp [-List.map_drop, -List.map_take]; done) | (intro _ h; simp only [List.mem_singleton] at h; subst h; exact pt_map _ _))))); simp (implicitDefEqProofs := false) (maxSteps := 2000000) (disch := omega) only [go_sem, eV, h]; (repeat' (first | (refine hK _ ?_; clear hK hkp kp K) | (with_reducible refine And.intro ?_ ?_) | omega))) | ((first | refine goG_ask (fun h => ?_) (fun h => ?_) | refine goGD_ask (fun h => ?_) (fun h => ?_) | refine goGX_ask (fun h => ?_) (fun h => ?_)) <;> (simp (implicitDefEqProofs := false) (maxSteps := 2000000) (disch := omega) only [go_sem, eV, h, h]; (repeat' (first | (refine hK _ ?_; clear hK hkp kp K) | (with_reducible refine And.intro ?_ ?_) | omega)))) | refine awp_cond_t rfl ?_ | refine awp_cond_f rfl ?_ | ((refine awp_cond rfl (fun h => ?_) (fun h => ?_) <;> try simp only [decide_eq_true_eq, decide_eq_false_iff_not, Int.not_lt, Int.not_le, Bool.not_eq_true, Bool.not_eq_false, bne_iff_ne, ne_eq, beq_iff_eq, bne_eq_false_iff_eq, beq_eq_false_iff_ne] at h) <;> (try (exfalso; omega))) | refine awp_ret ?_))
    (refine retA_is (by (simp (implicitDefEqProofs := false) (maxSteps := 2000000) (disch := omega) only [go_sem, Go.Proofs.Tryd.results66, valT, h, eT, wordT, nullS, str]); rfl) ?_; refine embS_frz (by simp only [oneA]; simp (implicitDefEqProofs := false) (maxSteps := 2000000) (disch := omega) only [go_sem, valT, h, eT, wordT, nullS, str]; rfl) ?_; refine (embV_nil hE (by simp) ?_).s; simp [oneA, ren, renL, valT, h, eT, wordT, nullS, str])
  · rcases h1 with h1 | h1
    · have ac := all_con E.G false [falseS] (by simp)
      simp only [List.map_cons, List.map_nil, eStr, eT, wordT, falseS, str] at ac
      (repeat' (first | refine awp_seq ?_ | refine awp_block ?_ | refine awp_skip ?_ | refine awp_exit ?_ | ((first | refine awp_r (by kernel_rfl) (fun K kp hK hkp => ?_) | refine awp_dr (id := 8) mixed 7 [1, 2, 3, 4, 0, 5, 6] (by kernel_rfl) (by kernel_rfl) (by kernel_rfl) (by simp only [go_sem]; rfl) (by simp only [go_sem]; rfl) (by simp only [go_sem]; rfl) (fun K kp hK hkp => ?_) | ((first | apply callR_i (ac) | apply callD_i (ac) | apply callX_i (ac)); (case hb => (simp (implicitDefEqProofs := false) (maxSteps := 2000000) (disch := omega) only [go_sem, eV, h, h1]; first | done | rfl)); (case hp => (first | (simp [-List.map_drop, -List.map_take, eV, h, h1]; done) | exact .ro _ _ (pt_map _ _))); (case hq => (first | (simp [-List.map_drop, -List.map_take]; done) | (intro _ h; simp only [List.mem_singleton] at h; subst h; exact pt_map _ _))))); simp (implicitDefEqProofs := false) (maxSteps := 2000000) (disch := omega) only [go_sem, eV, h, h1]; (repeat' (first | (refine hK _ ?_; clear hK hkp kp K) | (with_reducible refine And.intro ?_ ?_) | omega))) | ((first | refine goG_ask (fun h => ?_) (fun h => ?_) | refine goGD_ask (fun h => ?_) (fun h => ?_) | refine goGX_ask (fun h => ?_) (fun h => ?_)) <;> (simp (implicitDefEqProofs := false) (maxSteps := 2000000) (disch := omega) only [go_sem, eV, h, h1, h]; (repeat' (first | (refine hK _ ?_; clear hK hkp kp K) | (with_reducible refine And.intro ?_ ?_) | omega)))) | refine awp_cond_t rfl ?_ | refine awp_cond_f rfl ?_ | ((refine awp_cond rfl (fun h => ?_) (fun h => ?_) <;> try simp only [decide_eq_true_eq, decide_eq_false_iff_not, Int.not_lt, Int.not_le, Bool.not_eq_true, Bool.not_eq_false, bne_iff_ne, ne_eq, beq_iff_eq, bne_eq_false_iff_eq, beq_eq_false_iff_ne] at h) <;> (try (exfalso; omega))) | refine awp_ret ?_))
      (refine retA_is (by (simp (implicitDefEqProofs := false) (maxSteps := 2000000) (disch := omega) only [go_sem, Go.Proofs.Tryd.results66, valT, h, h1, eT, wordT, falseS, str]); rfl) ?_; refine embS_frz (by simp only [oneA]; simp (implicitDefEqProofs := false) (maxSteps := 2000000) (disch := omega) only [go_sem, valT, h, h1, eT, wordT, falseS, str]; rfl) ?_; refine (embV_nil hE (by simp) ?_).s; simp [oneA, ren, renL, valT, h, h1, eT, wordT, falseS, str])
    · have ac := all_con E.G false [trueS] (by simp)
      simp only [List.map_cons, List.map_nil, eStr, eT, wordT, trueS, str] at ac
      (repeat' (first | refine awp_seq ?_ | refine awp_block ?_ | refine awp_skip ?_ | refine awp_exit ?_ | ((first | refine awp_r (by kernel_rfl) (fun K kp hK hkp => ?_) | refine awp_dr (id := 8) mixed 7 [1, 2, 3, 4, 0, 5, 6] (by kernel_rfl) (by kernel_rfl) (by kernel_rfl) (by simp only [go_sem]; rfl) (by simp only [go_sem]; rfl) (by simp only [go_sem]; rfl) (fun K kp hK hkp => ?_) | ((first | apply callR_i (ac) | apply callD_i (ac) | apply callX_i (ac)); (case hb => (simp (implicitDefEqProofs := false) (maxSteps := 2000000) (disch := omega) only [go_sem, eV, h, h1]; first | done | rfl)); (case hp => (first | (simp [-List.map_drop, -List.map_take, eV, h, h1]; done) | exact .ro _ _ (pt_map _ _))); (case hq => (first | (simp [-List.map_drop, -List.map_take]; done) | (intro _ h; simp only [List.mem_singleton] at h; subst h; exact pt_map _ _))))); simp (implicitDefEqProofs := false) (maxSteps := 2000000) (disch := omega) only [go_sem, eV, h, h1]; (repeat' (first | (refine hK _ ?_; clear hK hkp kp K) | (with_reducible refine And.intro ?_ ?_) | omega))) | ((first | refine goG_ask (fun h => ?_) (fun h => ?_) | refine goGD_ask (fun h => ?_) (fun h => ?_) | refine goGX_ask (fun h => ?_) (fun h => ?_)) <;> (simp (implicitDefEqProofs := false) (maxSteps := 2000000) (disch := omega) only [go_sem, eV, h, h1, h]; (repeat' (first | (refine hK _ ?_; clear hK hkp kp K) | (with_reducible refine And.intro ?_ ?_) | omega)))) | refine awp_cond_t rfl ?_ | refine awp_cond_f rfl ?_ | ((refine awp_cond rfl (fun h => ?_) (fun h => ?_) <;> try simp only [decide_eq_true_eq, decide_eq_false_iff_not, Int.not_lt, Int.not_le, Bool.not_eq_true, Bool.not_eq_false, bne_iff_ne, ne_eq, beq_iff_eq, bne_eq_false_iff_eq, beq_eq_false_iff_ne] at h) <;> (try (exfalso; omega))) | refine awp_ret ?_))
      (refine retA_is (by (simp (implicitDefEqProofs := false) (maxSteps := 2000000) (disch := omega) only [go_sem, Go.Proofs.Tryd.results66, valT, h, h1, eT, wordT, trueS, str]); rfl) ?_; refine embS_frz (by simp only [oneA]; simp (implicitDefEqProofs := false) (maxSteps := 2000000) (disch := omega) only [go_sem, valT, h, h1, eT, wordT, trueS, str]; rfl) ?_; refine (embV_nil hE (by simp) ?_).s; simp [oneA, ren, renL, valT, h, h1, eT, wordT, trueS, str])
  · by_cases hn : v.n < 0
    · have d1 : decide (v.n < 0) = true := decide_eq_true hn
      have wr : IntKind.i64.wrap (0 - v.n) = -v.n := by rw [wrapA (by omega) (by omega)]; omega
      (repeat' (first | refine awp_seq ?_ | refine awp_block ?_ | refine awp_skip ?_ | refine awp_exit ?_ | ((first | refine awp_r (by kernel_rfl) (fun K kp hK hkp => ?_) | refine awp_dr (id := 8) mixed 7 [1, 2, 3, 4, 0, 5, 6] (by kernel_rfl) (by kernel_rfl) (by kernel_rfl) (by simp only [go_sem]; rfl) (by simp only [go_sem]; rfl) (by simp only [go_sem]; rfl) (fun K kp hK hkp => ?_) | ((first | apply callR_i (mc) | apply callD_i (mc) | apply callX_i (mc)); (case hb => (simp (implicitDefEqProofs := false) (maxSteps := 2000000) (disch := omega) only [go_sem, eV, h, d1, wr]; first | done | rfl)); (case hp => (first | (simp [-List.map_drop, -List.map_take, eV, h, d1, wr]; done) | exact .ro _ _ (pt_map _ _))); (case hq => (first | (simp [-List.map_drop, -List.map_take]; done) | (intro _ h; simp only [List.mem_singleton] at h; subst h; exact pt_map _ _))))); simp (implicitDefEqProofs := false) (maxSteps := 2000000) (disch := omega) only [go_sem, eV, h, d1, wr]; (repeat' (first | (refine hK _ ?_; clear hK hkp kp K) | (with_reducible refine And.intro ?_ ?_) | omega))) | ((first | refine goG_ask (fun h => ?_) (fun h => ?_) | refine goGD_ask (fun h => ?_) (fun h => ?_) | refine goGX_ask (fun h => ?_) (fun h => ?_)) <;> (simp (implicitDefEqProofs := false) (maxSteps := 2000000) (disch := omega) only [go_sem, eV, h, d1, wr, h]; (repeat' (first | (refine hK _ ?_; clear hK hkp kp K) | (with_reducible refine And.intro ?_ ?_) | omega)))) | refine awp_cond_t rfl ?_ | refine awp_cond_f rfl ?_ | ((refine awp_cond rfl (fun h => ?_) (fun h => ?_) <;> try simp only [decide_eq_true_eq, decide_eq_false_iff_not, Int.not_lt, Int.not_le, Bool.not_eq_true, Bool.not_eq_false, bne_iff_ne, ne_eq, beq_iff_eq, bne_eq_false_iff_eq, beq_eq_false_iff_ne] at h) <;> (try (exfalso; omega))) | refine awp_ret ?_))
      (refine retA_is (by (simp (implicitDefEqProofs := false) (maxSteps := 2000000) (disch := omega) only [go_sem, Go.Proofs.Tryd.results66, valT, h, hn, eT, markT, str]); rfl) ?_; refine embS_frz (by simp only [oneA]; simp (implicitDefEqProofs := false) (maxSteps := 2000000) (disch := omega) only [go_sem, valT, h, hn, eT, markT, str]; rfl) ?_; refine (embV_nil hE (by simp) ?_).s; simp [oneA, ren, renL, valT, h, hn, eT, markT, str])
    · have d1 : decide (v.n < 0) = false := decide_eq_false hn
      (repeat' (first | refine awp_seq ?_ | refine awp_block ?_ | refine awp_skip ?_ | refine awp_exit ?_ | ((first | refine awp_r (by kernel_rfl) (fun K kp hK hkp => ?_) | refine awp_dr (id := 8) mixed 7 [1, 2, 3, 4, 0, 5, 6] (by kernel_rfl) (by kernel_rfl) (by kernel_rfl) (by simp only [go_sem]; rfl) (by simp only [go_sem]; rfl) (by simp only [go_sem]; rfl) (fun K kp hK hkp => ?_) | ((first | apply callR_i (mc) | apply callD_i (mc) | apply callX_i (mc)); (case hb => (simp (implicitDefEqProofs := false) (maxSteps := 2000000) (disch := omega) only [go_sem, eV, h, d1]; first | done | rfl)); (case hp => (first | (simp [-List.map_drop, -List.map_take, eV, h, d1]; done) | exact .ro _ _ (pt_map _ _))); (case hq => (first | (simp [-List.map_drop, -List.map_take]; done) | (intro _ h; simp only [List.mem_singleton] at h; subst h; exact pt_map _ _))))); simp (implicitDefEqProofs := false) (maxSteps := 2000000) (disch := omega) only [go_sem, eV, h, d1]; (repeat' (first | (refine hK _ ?_; clear hK hkp kp K) | (with_reducible refine And.intro ?_ ?_) | omega))) | ((first | refine goG_ask (fun h => ?_) (fun h => ?_) | refine goGD_ask (fun h => ?_) (fun h => ?_) | refine goGX_ask (fun h => ?_) (fun h => ?_)) <;> (simp (implicitDefEqProofs := false) (maxSteps := 2000000) (disch := omega) only [go_sem, eV, h, d1, h]; (repeat' (first | (refine hK _ ?_; clear hK hkp kp K) | (with_reducible refine And.intro ?_ ?_) | omega)))) | refine awp_cond_t rfl ?_ | refine awp_cond_f rfl ?_ | ((refine awp_cond rfl (fun h => ?_) (fun h => ?_) <;> try simp only [decide_eq_true_eq, decide_eq_false_iff_not, Int.not_lt, Int.not_le, Bool.not_eq_true, Bool.not_eq_false, bne_iff_ne, ne_eq, beq_iff_eq, bne_eq_false_iff_eq, beq_eq_false_iff_ne] at h) <;> (try (exfalso; omega))) | refine awp_ret ?_))
      (refine retA_is (by (simp (implicitDefEqProofs := false) (maxSteps := 2000000) (disch := omega) only [go_sem, Go.Proofs.Tryd.results66, valT, h, hn, eT, markT, str]); rfl) ?_; refine embS_frz (by simp only [oneA]; simp (implicitDefEqProofs := false) (maxSteps := 2000000) (disch := omega) only [go_sem, valT, h, hn, eT, markT, str]; rfl) ?_; refine (embV_nil hE (by simp) ?_).s; simp [oneA, ren, renL, valT, h, hn, eT, markT, str])
  · (repeat' (first | refine awp_seq ?_ | refine awp_block ?_ | refine awp_skip ?_ | refine awp_exit ?_ | ((first | refine awp_r (by kernel_rfl) (fun K kp hK hkp => ?_) | refine awp_dr (id := 8) mixed 7 [1, 2, 3, 4, 0, 5, 6] (by kernel_rfl) (by kernel_rfl) (by kernel_rfl) (by simp only [go_sem]; rfl) (by simp only [go_sem]; rfl) (by simp only [go_sem]; rfl) (fun K kp hK hkp => ?_) | ((first | apply callR_i (mc) | apply callD_i (mc) | apply callX_i (mc)); (case hb => (simp (implicitDefEqProofs := false) (maxSteps := 2000000) (disch := omega) only [go_sem, eV, h]; first | done | rfl)); (case hp => (first | (simp [-List.map_drop, -List.map_take, eV, h]; done) | exact .ro _ _ (pt_map _ _))); (case hq => (first | (simp [-List.map_drop, -List.map_take]; done) | (intro _ h; simp only [List.mem_singleton] at h; subst h; exact pt_map _ _))))); simp (implicitDefEqProofs := false) (maxSteps := 2000000) (disch := omega) only [go_sem, eV, h]; (repeat' (first | (refine hK _ ?_; clear hK hkp kp K) | (with_reducible refine And.intro ?_ ?_) | omega))) | ((first | refine goG_ask (fun h => ?_) (fun h => ?_) | refine goGD_ask (fun h => ?_) (fun h => ?_) | refine goGX_ask (fun h => ?_) (fun h => ?_)) <;> (simp (implicitDefEqProofs := false) (maxSteps := 2000000) (disch := omega) only [go_sem, eV, h, h]; (repeat' (first | (refine hK _ ?_; clear hK hkp kp K) | (with_reducible refine And.intro ?_ ?_) | omega)))) | refine awp_cond_t rfl ?_ | refine awp_cond_f rfl ?_ | ((refine awp_cond rfl (fun h => ?_) (fun h => ?_) <;> try simp only [decide_eq_true_eq, decide_eq_false_iff_not, Int.not_lt, Int.not_le, Bool.not_eq_true, Bool.not_eq_false, bne_iff_ne, ne_eq, beq_iff_eq, bne_eq_false_iff_eq, beq_eq_false_iff_ne] at h) <;> (try (exfalso; omega))) | refine awp_ret ?_))
    (refine retA_is (by (simp (implicitDefEqProofs := false) (maxSteps := 2000000) (disch := omega) only [go_sem, Go.Proofs.Tryd.results66, valT, h, eT, str]); rfl) ?_; refine embS_frz (by simp only [oneA]; simp (implicitDefEqProofs := false) (maxSteps := 2000000) (disch := omega) only [go_sem, valT, h, eT, str]; rfl) ?_; refine (embV_nil hE (by simp) ?_).s; simp [oneA, ren, renL, valT, h, eT, str])
set_option maxRecDepth 100000 in
theorem yes_con (G : List (Nat × List Value)) (b : Bool) : Con Go.Proofs.Tryd.prog G 116 [.r (.bool b)] [] 0 (Is (.agg [.r (.int .i64 1), .r (.int .i64 (if b = true then 1 else 0)), .r (.string ⟨#[]⟩)]) [] 0) No := by
  refine con_of_awp Go.Proofs.Tryd.func116 rfl (by kernel_rfl) (of_decide_eq_true (by kernel_rfl)) ?_; intro E hG hE; subst hG; simp only [ent]
  cases b
  · (repeat' (first | refine awp_seq ?_ | refine awp_block ?_ | refine awp_skip ?_ | refine awp_exit ?_ | ((first | refine awp_r (by kernel_rfl) (fun K kp hK hkp => ?_)); simp (implicitDefEqProofs := false) (maxSteps := 2000000) (disch := omega) only [go_sem]; (repeat' (first | (refine hK _ ?_; clear hK hkp kp K) | (with_reducible refine And.intro ?_ ?_) | omega))) | ((first | refine goG_ask (fun h => ?_) (fun h => ?_) | refine goGD_ask (fun h => ?_) (fun h => ?_) | refine goGX_ask (fun h => ?_) (fun h => ?_)) <;> (simp (implicitDefEqProofs := false) (maxSteps := 2000000) (disch := omega) only [go_sem, h]; (repeat' (first | (refine hK _ ?_; clear hK hkp kp K) | (with_reducible refine And.intro ?_ ?_) | omega)))) | refine awp_cond_t rfl ?_ | refine awp_cond_f rfl ?_ | ((refine awp_cond rfl (fun h => ?_) (fun h => ?_) <;> try simp only [decide_eq_true_eq, decide_eq_false_iff_not, Int.not_lt, Int.not_le, Bool.not_eq_true, Bool.not_eq_false, bne_iff_ne, ne_eq, beq_iff_eq, bne_eq_false_iff_eq, beq_eq_false_iff_ne] at h) <;> (try (exfalso; omega))) | refine awp_ret ?_))
    (refine retA_is (by (simp (implicitDefEqProofs := false) (maxSteps := 2000000) (disch := omega) only [go_sem, Go.Proofs.Tryd.results116]); rfl) ?_; refine (embV_nil hE (by simp) ?_).s; simp [oneA, ren, renL])
  · (repeat' (first | refine awp_seq ?_ | refine awp_block ?_ | refine awp_skip ?_ | refine awp_exit ?_ | ((first | refine awp_r (by kernel_rfl) (fun K kp hK hkp => ?_)); simp (implicitDefEqProofs := false) (maxSteps := 2000000) (disch := omega) only [go_sem]; (repeat' (first | (refine hK _ ?_; clear hK hkp kp K) | (with_reducible refine And.intro ?_ ?_) | omega))) | ((first | refine goG_ask (fun h => ?_) (fun h => ?_) | refine goGD_ask (fun h => ?_) (fun h => ?_) | refine goGX_ask (fun h => ?_) (fun h => ?_)) <;> (simp (implicitDefEqProofs := false) (maxSteps := 2000000) (disch := omega) only [go_sem, h]; (repeat' (first | (refine hK _ ?_; clear hK hkp kp K) | (with_reducible refine And.intro ?_ ?_) | omega)))) | refine awp_cond_t rfl ?_ | refine awp_cond_f rfl ?_ | ((refine awp_cond rfl (fun h => ?_) (fun h => ?_) <;> try simp only [decide_eq_true_eq, decide_eq_false_iff_not, Int.not_lt, Int.not_le, Bool.not_eq_true, Bool.not_eq_false, bne_iff_ne, ne_eq, beq_iff_eq, bne_eq_false_iff_eq, beq_eq_false_iff_ne] at h) <;> (try (exfalso; omega))) | refine awp_ret ?_))
    (refine retA_is (by (simp (implicitDefEqProofs := false) (maxSteps := 2000000) (disch := omega) only [go_sem, Go.Proofs.Tryd.results116]); rfl) ?_; refine (embV_nil hE (by simp) ?_).s; simp [oneA, ren, renL])
theorem toks_null : toksM [78, 85, 76, 76] = [wordT nullS] := rfl
theorem toks_true : toksM [84, 82, 85, 69] = [wordT trueS] := rfl
theorem toks_false : toksM [70, 65, 76, 83, 69] = [wordT falseS] := rfl
theorem toks_minus : toksM [45] = [markT (str [45])] := rfl
set_option maxRecDepth 100000 in
set_option maxHeartbeats 8000000 in
theorem valueToks_con (G : List (Nat × List Value)) (v : V) (hv : GoodV v) (hb : v.n ≤ 9223372036854775807) : Con Go.Proofs.Tryd.prog G 76 [.agg (eV v)] [] 0 (Is (.ro true 3 ((valT v).map eT)) [] 0) No := by
  refine con_of_awp Go.Proofs.Tryd.func76 rfl (by kernel_rfl) (of_decide_eq_true (by kernel_rfl)) ?_; intro E hG hE; subst hG; simp only [ent]
  have yt := yes_con E.G true
  have yf := yes_con E.G false
  simp only [if_true, Bool.false_eq_true, if_false] at yt yf
  have t0 := toks_con E.G [78, 85, 76, 76] (by simp)
  have t1 := toks_con E.G [84, 82, 85, 69] (by simp)
  have t2 := toks_con E.G [70, 65, 76, 83, 69] (by simp)
  have t3 := toks_con E.G [45] (by simp)
  rw [toks_null] at t0; rw [toks_true] at t1; rw [toks_false] at t2; rw [toks_minus] at t3
  simp only [str, List.map_cons, List.map_nil, List.length_cons, List.length_nil, eT, wordT, markT, nullS, trueS, falseS] at t0 t1 t2 t3
  rcases hv with h | ⟨h, h1, hs⟩ | ⟨h, h1⟩ | h
  · (repeat' (first | refine awp_seq ?_ | refine awp_block ?_ | refine awp_skip ?_ | refine awp_exit ?_ | ((first | refine awp_r (by kernel_rfl) (fun K kp hK hkp => ?_) | refine awp_dr (id := 3) mixed 3 [0, 1, 2] (by kernel_rfl) (by kernel_rfl) (by kernel_rfl) (by simp only [go_sem]; rfl) (by simp only [go_sem]; rfl) (by simp only [go_sem]; rfl) (fun K kp hK hkp => ?_) | refine awp_dr (id := 5) mixed 3 [0, 1, 2] (by kernel_rfl) (by kernel_rfl) (by kernel_rfl) (by simp only [go_sem]; rfl) (by simp only [go_sem]; rfl) (by simp only [go_sem]; rfl) (fun K kp hK hkp => ?_) | ((first | apply callR_i (t0) | apply callD_i (t0) | apply callX_i (t0)); (case hb => (simp (implicitDefEqProofs := false) (maxSteps := 2000000) (disch := omega) only [go_sem, eV, h]; first | done | rfl)); (case hp => (first | (simp [-List.map_drop, -List.map_take, eV, h]; done) | exact .ro _ _ (pt_map _ _))); (case hq => (first | (simp [-List.map_drop, -List.map_take]; done) | (intro _ h; simp only [List.mem_singleton] at h; subst h; exact pt_map _ _))))); simp (implicitDefEqProofs := false) (maxSteps := 2000000) (disch := omega) only [go_sem, eV, h]; (repeat' (first | (refine hK _ ?_; clear hK hkp kp K) | (with_reducible refine And.intro ?_ ?_) | omega))) | ((first | refine goG_ask (fun h => ?_) (fun h => ?_) | refine goGD_ask (fun h => ?_) (fun h => ?_) | refine goGX_ask (fun h => ?_) (fun h => ?_)) <;> (simp (implicitDefEqProofs := false) (maxSteps := 2000000) (disch := omega) only [go_sem, eV, h, h]; (repeat' (first | (refine hK _ ?_; clear hK hkp kp K) | (with_reducible refine And.intro ?_ ?_) | omega)))) | refine awp_cond_t rfl ?_ | refine awp_cond_f rfl ?_ | ((refine awp_cond rfl (fun h => ?_) (fun h => ?_) <;> try simp only [decide_eq_true_eq, decide_eq_false_iff_not, Int.not_lt, Int.not_le, Bool.not_eq_true, Bool.not_eq_false, bne_iff_ne, ne_eq, beq_iff_eq, bne_eq_false_iff_eq, beq_eq_false_iff_ne] at h) <;> (try (exfalso; omega))) | refine awp_ret ?_))
    (refine retA_is (by (simp (implicitDefEqProofs := false) (maxSteps := 2000000) (disch := omega) only [go_sem, Go.Proofs.Tryd.results76, valT, h, eT, wordT, nullS, str]); rfl) ?_; refine embS_frz (by simp only [oneA]; simp (implicitDefEqProofs := false) (maxSteps := 2000000) (disch := omega) only [go_sem, valT, h, eT, wordT, nullS, str]; rfl) ?_; refine (embV_nil hE (by simp) ?_).s; simp [oneA, ren, renL, valT, h, eT, wordT, nullS, str])
  · have e1 : ((str []).toList == ByteArray.toList ⟨#[]⟩) = true := by simp [str]
    rcases h1 with h1 | h1
    · (repeat' (first | refine awp_seq ?_ | refine awp_block ?_ | refine awp_skip ?_ | refine awp_exit ?_ | ((first | refine awp_r (by kernel_rfl) (fun K kp hK hkp => ?_) | refine awp_dr (id := 3) mixed 3 [0, 1, 2] (by kernel_rfl) (by kernel_rfl) (by kernel_rfl) (by simp only [go_sem]; rfl) (by simp only [go_sem]; rfl) (by simp only [go_sem]; rfl) (fun K kp hK hkp => ?_) | refine awp_dr (id := 5) mixed 3 [0, 1, 2] (by kernel_rfl) (by kernel_rfl) (by kernel_rfl) (by simp only [go_sem]; rfl) (by simp only [go_sem]; rfl) (by simp only [go_sem]; rfl) (fun K kp hK hkp => ?_) | ((first | apply callR_i (t1) | apply callD_i (t1) | apply callX_i (t1)); (case hb => (simp (implicitDefEqProofs := false) (maxSteps := 2000000) (disch := omega) only [go_sem, eV, h, h1, hs, e1]; first | done | rfl)); (case hp => (first | (simp [-List.map_drop, -List.map_take, eV, h, h1, hs, e1]; done) | exact .ro _ _ (pt_map _ _))); (case hq => (first | (simp [-List.map_drop, -List.map_take]; done) | (intro _ h; simp only [List.mem_singleton] at h; subst h; exact pt_map _ _)))) | ((first | apply callR_i (t2) | apply callD_i (t2) | apply callX_i (t2)); (case hb => (simp (implicitDefEqProofs := false) (maxSteps := 2000000) (disch := omega) only [go_sem, eV, h, h1, hs, e1]; first | done | rfl)); (case hp => (first | (simp [-List.map_drop, -List.map_take, eV, h, h1, hs, e1]; done) | exact .ro _ _ (pt_map _ _))); (case hq => (first | (simp [-List.map_drop, -List.map_take]; done) | (intro _ h; simp only [List.mem_singleton] at h; subst h; exact pt_map _ _)))) | ((first | apply callR_i (yt) | apply callD_i (yt) | apply callX_i (yt)); (case hb => (simp (implicitDefEqProofs := false) (maxSteps := 2000000) (disch := omega) only [go_sem, eV, h, h1, hs, e1]; first | done | rfl)); (case hp => (first | (simp [-List.map_drop, -List.map_take, eV, h, h1, hs, e1]; done) | exact .ro _ _ (pt_map _ _))); (case hq => (first | (simp [-List.map_drop, -List.map_take]; done) | (intro _ h; simp only [List.mem_singleton] at h; subst h; exact pt_map _ _)))) | ((first | apply callR_i (yf) | apply callD_i (yf) | apply callX_i (yf)); (case hb => (simp (implicitDefEqProofs := false) (maxSteps := 2000000) (disch := omega) only [go_sem, eV, h, h1, hs, e1]; first | done | rfl)); (case hp => (first | (simp [-List.map_drop, -List.map_take, eV, h, h1, hs, e1]; done) | exact .ro _ _ (pt_map _ _))); (case hq => (first | (simp [-List.map_drop, -List.map_take]; done) | (intro _ h; simp only [List.mem_singleton] at h; subst h; exact pt_map _ _))))); simp (implicitDefEqProofs := false) (maxSteps := 2000000) (disch := omega) only [go_sem, eV, h, h1, hs, e1]; (repeat' (first | (refine hK _ ?_; clear hK hkp kp K) | (with_reducible refine And.intro ?_ ?_) | omega))) | ((first | refine goG_ask (fun h => ?_) (fun h => ?_) | refine goGD_ask (fun h => ?_) (fun h => ?_) | refine goGX_ask (fun h => ?_) (fun h => ?_)) <;> (simp (implicitDefEqProofs := false) (maxSteps := 2000000) (disch := omega) only [go_sem, eV, h, h1, hs, e1, h]; (repeat' (first | (refine hK _ ?_; clear hK hkp kp K) | (with_reducible refine And.intro ?_ ?_) | omega)))) | refine awp_cond_t rfl ?_ | refine awp_cond_f rfl ?_ | ((refine awp_cond rfl (fun h => ?_) (fun h => ?_) <;> try simp only [decide_eq_true_eq, decide_eq_false_iff_not, Int.not_lt, Int.not_le, Bool.not_eq_true, Bool.not_eq_false, bne_iff_ne, ne_eq, beq_iff_eq, bne_eq_false_iff_eq, beq_eq_false_iff_ne] at h) <;> (try (exfalso; omega))) | refine awp_ret ?_))
      (refine retA_is (by (simp (implicitDefEqProofs := false) (maxSteps := 2000000) (disch := omega) only [go_sem, Go.Proofs.Tryd.results76, valT, h, h1, eT, wordT, falseS, str]); rfl) ?_; refine embS_frz (by simp only [oneA]; simp (implicitDefEqProofs := false) (maxSteps := 2000000) (disch := omega) only [go_sem, valT, h, h1, eT, wordT, falseS, str]; rfl) ?_; refine (embV_nil hE (by simp) ?_).s; simp [oneA, ren, renL, valT, h, h1, eT, wordT, falseS, str])
    · (repeat' (first | refine awp_seq ?_ | refine awp_block ?_ | refine awp_skip ?_ | refine awp_exit ?_ | ((first | refine awp_r (by kernel_rfl) (fun K kp hK hkp => ?_) | refine awp_dr (id := 3) mixed 3 [0, 1, 2] (by kernel_rfl) (by kernel_rfl) (by kernel_rfl) (by simp only [go_sem]; rfl) (by simp only [go_sem]; rfl) (by simp only [go_sem]; rfl) (fun K kp hK hkp => ?_) | refine awp_dr (id := 5) mixed 3 [0, 1, 2] (by kernel_rfl) (by kernel_rfl) (by kernel_rfl) (by simp only [go_sem]; rfl) (by simp only [go_sem]; rfl) (by simp only [go_sem]; rfl) (fun K kp hK hkp => ?_) | ((first | apply callR_i (t1) | apply callD_i (t1) | apply callX_i (t1)); (case hb => (simp (implicitDefEqProofs := false) (maxSteps := 2000000) (disch := omega) only [go_sem, eV, h, h1, hs, e1]; first | done | rfl)); (case hp => (first | (simp [-List.map_drop, -List.map_take, eV, h, h1, hs, e1]; done) | exact .ro _ _ (pt_map _ _))); (case hq => (first | (simp [-List.map_drop, -List.map_take]; done) | (intro _ h; simp only [List.mem_singleton] at h; subst h; exact pt_map _ _)))) | ((first | apply callR_i (t2) | apply callD_i (t2) | apply callX_i (t2)); (case hb => (simp (implicitDefEqProofs := false) (maxSteps := 2000000) (disch := omega) only [go_sem, eV, h, h1, hs, e1]; first | done | rfl)); (case hp => (first | (simp [-List.map_drop, -List.map_take, eV, h, h1, hs, e1]; done) | exact .ro _ _ (pt_map _ _))); (case hq => (first | (simp [-List.map_drop, -List.map_take]; done) | (intro _ h; simp only [List.mem_singleton] at h; subst h; exact pt_map _ _)))) | ((first | apply callR_i (yt) | apply callD_i (yt) | apply callX_i (yt)); (case hb => (simp (implicitDefEqProofs := false) (maxSteps := 2000000) (disch := omega) only [go_sem, eV, h, h1, hs, e1]; first | done | rfl)); (case hp => (first | (simp [-List.map_drop, -List.map_take, eV, h, h1, hs, e1]; done) | exact .ro _ _ (pt_map _ _))); (case hq => (first | (simp [-List.map_drop, -List.map_take]; done) | (intro _ h; simp only [List.mem_singleton] at h; subst h; exact pt_map _ _)))) | ((first | apply callR_i (yf) | apply callD_i (yf) | apply callX_i (yf)); (case hb => (simp (implicitDefEqProofs := false) (maxSteps := 2000000) (disch := omega) only [go_sem, eV, h, h1, hs, e1]; first | done | rfl)); (case hp => (first | (simp [-List.map_drop, -List.map_take, eV, h, h1, hs, e1]; done) | exact .ro _ _ (pt_map _ _))); (case hq => (first | (simp [-List.map_drop, -List.map_take]; done) | (intro _ h; simp only [List.mem_singleton] at h; subst h; exact pt_map _ _))))); simp (implicitDefEqProofs := false) (maxSteps := 2000000) (disch := omega) only [go_sem, eV, h, h1, hs, e1]; (repeat' (first | (refine hK _ ?_; clear hK hkp kp K) | (with_reducible refine And.intro ?_ ?_) | omega))) | ((first | refine goG_ask (fun h => ?_) (fun h => ?_) | refine goGD_ask (fun h => ?_) (fun h => ?_) | refine goGX_ask (fun h => ?_) (fun h => ?_)) <;> (simp (implicitDefEqProofs := false) (maxSteps := 2000000) (disch := omega) only [go_sem, eV, h, h1, hs, e1, h]; (repeat' (first | (refine hK _ ?_; clear hK hkp kp K) | (with_reducible refine And.intro ?_ ?_) | omega)))) | refine awp_cond_t rfl ?_ | refine awp_cond_f rfl ?_ | ((refine awp_cond rfl (fun h => ?_) (fun h => ?_) <;> try simp only [decide_eq_true_eq, decide_eq_false_iff_not, Int.not_lt, Int.not_le, Bool.not_eq_true, Bool.not_eq_false, bne_iff_ne, ne_eq, beq_iff_eq, bne_eq_false_iff_eq, beq_eq_false_iff_ne] at h) <;> (try (exfalso; omega))) | refine awp_ret ?_))
      (refine retA_is (by (simp (implicitDefEqProofs := false) (maxSteps := 2000000) (disch := omega) only [go_sem, Go.Proofs.Tryd.results76, valT, h, h1, eT, wordT, trueS, str]); rfl) ?_; refine embS_frz (by simp only [oneA]; simp (implicitDefEqProofs := false) (maxSteps := 2000000) (disch := omega) only [go_sem, valT, h, h1, eT, wordT, trueS, str]; rfl) ?_; refine (embV_nil hE (by simp) ?_).s; simp [oneA, ren, renL, valT, h, h1, eT, wordT, trueS, str])
  · by_cases hn : v.n < 0
    · have d1 : decide (v.n < 0) = true := decide_eq_true hn
      have wr : IntKind.i64.wrap (0 - v.n) = -v.n := by rw [wrapA (by omega) (by omega)]; omega
      (repeat' (first | refine awp_seq ?_ | refine awp_block ?_ | refine awp_skip ?_ | refine awp_exit ?_ | ((first | refine awp_r (by kernel_rfl) (fun K kp hK hkp => ?_) | refine awp_dr (id := 3) mixed 3 [0, 1, 2] (by kernel_rfl) (by kernel_rfl) (by kernel_rfl) (by simp only [go_sem]; rfl) (by simp only [go_sem]; rfl) (by simp only [go_sem]; rfl) (fun K kp hK hkp => ?_) | refine awp_dr (id := 5) mixed 3 [0, 1, 2] (by kernel_rfl) (by kernel_rfl) (by kernel_rfl) (by simp only [go_sem]; rfl) (by simp only [go_sem]; rfl) (by simp only [go_sem]; rfl) (fun K kp hK hkp => ?_) | refine awp_du (id := 10) mixed 6 [⟨0, 1, [], [(1, 1)]⟩, ⟨1, 0, [], [(0, 1), (1, 1)]⟩, ⟨1, 0, [1], [(0, 1), (1, 1)]⟩, ⟨1, 0, [1, 2], [(0, 1), (1, 1)]⟩, ⟨1, 0, [1, 2, 3], [(0, 1), (1, 1)]⟩, ⟨1, 1, [1, 2, 3, 4], [(0, 1)]⟩] 2 [25, 26, 27, 28, 29, 30] (by kernel_rfl) (by kernel_rfl) (by simp only [go_sem]; rfl) (by simp only [go_sem]; rfl) (by simp only [go_sem]; rfl) (by simp only [go_sem]; rfl) (by simp only [go_sem]; rfl) (by omega) (fun K kp hK hkp => ?_) | ((first | apply callR_i (t3) | apply callD_i (t3) | apply callX_i (t3) | (apply callU_i (t3); (case hx => (simp (disch := omega) [go_sem, eV, h, d1, wr]; done)))); (case hb => (simp (implicitDefEqProofs := false) (maxSteps := 2000000) (disch := omega) only [go_sem, eV, h, d1, wr]; first | done | rfl)); (case hp => (first | (simp [-List.map_drop, -List.map_take, eV, h, d1, wr]; done) | exact .ro _ _ (pt_map _ _))); (case hq => (first | (simp [-List.map_drop, -List.map_take]; done) | (intro _ h; simp only [List.mem_singleton] at h; subst h; exact pt_map _ _)))) | ((first | apply callR_i (yt) | apply callD_i (yt) | apply callX_i (yt) | (apply callU_i (yt); (case hx => (simp (disch := omega) [go_sem, eV, h, d1, wr]; done)))); (case hb => (simp (implicitDefEqProofs := false) (maxSteps := 2000000) (disch := omega) only [go_sem, eV, h, d1, wr]; first | done | rfl)); (case hp => (first | (simp [-List.map_drop, -List.map_take, eV, h, d1, wr]; done) | exact .ro _ _ (pt_map _ _))); (case hq => (first | (simp [-List.map_drop, -List.map_take]; done) | (intro _ h; simp only [List.mem_singleton] at h; subst h; exact pt_map _ _)))) | ((first | apply callR_i (yf) | apply callD_i (yf) | apply callX_i (yf) | (apply callU_i (yf); (case hx => (simp (disch := omega) [go_sem, eV, h, d1, wr]; done)))); (case hb => (simp (implicitDefEqProofs := false) (maxSteps := 2000000) (disch := omega) only [go_sem, eV, h, d1, wr]; first | done | rfl)); (case hp => (first | (simp [-List.map_drop, -List.map_take, eV, h, d1, wr]; done) | exact .ro _ _ (pt_map _ _))); (case hq => (first | (simp [-List.map_drop, -List.map_take]; done) | (intro _ h; simp only [List.mem_singleton] at h; subst h; exact pt_map _ _))))); simp (implicitDefEqProofs := false) (maxSteps := 2000000) (disch := omega) only [go_sem, eV, h, d1, wr]; (repeat' (first | (refine hK _ ?_; clear hK hkp kp K) | (with_reducible refine And.intro ?_ ?_) | omega))) | ((first | refine goG_ask (fun h => ?_) (fun h => ?_) | refine goGD_ask (fun h => ?_) (fun h => ?_) | refine goGX_ask (fun h => ?_) (fun h => ?_)) <;> (simp (implicitDefEqProofs := false) (maxSteps := 2000000) (disch := omega) only [go_sem, eV, h, d1, wr, h]; (repeat' (first | (refine hK _ ?_; clear hK hkp kp K) | (with_reducible refine And.intro ?_ ?_) | omega)))) | refine awp_cond_t rfl ?_ | refine awp_cond_f rfl ?_ | ((refine awp_cond rfl (fun h => ?_) (fun h => ?_) <;> try simp only [decide_eq_true_eq, decide_eq_false_iff_not, Int.not_lt, Int.not_le, Bool.not_eq_true, Bool.not_eq_false, bne_iff_ne, ne_eq, beq_iff_eq, bne_eq_false_iff_eq, beq_eq_false_iff_ne] at h) <;> (try (exfalso; omega))) | refine awp_ret ?_))
      (refine retA_is (by (simp (implicitDefEqProofs := false) (maxSteps := 2000000) (disch := omega) only [go_sem, Go.Proofs.Tryd.results76, valT, h, hn, eT, markT, str]); rfl) ?_; refine embS_frz (by simp only [oneA]; simp (implicitDefEqProofs := false) (maxSteps := 2000000) (disch := omega) only [go_sem, valT, h, hn, eT, markT, str]; rfl) ?_; refine (embV_nil hE (by simp) ?_).s; simp [oneA, ren, renL, valT, h, hn, eT, markT, str])
    · have d1 : decide (v.n < 0) = false := decide_eq_false hn
      (repeat' (first | refine awp_seq ?_ | refine awp_block ?_ | refine awp_skip ?_ | refine awp_exit ?_ | ((first | refine awp_r (by kernel_rfl) (fun K kp hK hkp => ?_) | refine awp_dr (id := 3) mixed 3 [0, 1, 2] (by kernel_rfl) (by kernel_rfl) (by kernel_rfl) (by simp only [go_sem]; rfl) (by simp only [go_sem]; rfl) (by simp only [go_sem]; rfl) (fun K kp hK hkp => ?_) | refine awp_dr (id := 5) mixed 3 [0, 1, 2] (by kernel_rfl) (by kernel_rfl) (by kernel_rfl) (by simp only [go_sem]; rfl) (by simp only [go_sem]; rfl) (by simp only [go_sem]; rfl) (fun K kp hK hkp => ?_) | ((first | apply callR_i (yt) | apply callD_i (yt) | apply callX_i (yt)); (case hb => (simp (implicitDefEqProofs := false) (maxSteps := 2000000) (disch := omega) only [go_sem, eV, h, d1]; first | done | rfl)); (case hp => (first | (simp [-List.map_drop, -List.map_take, eV, h, d1]; done) | exact .ro _ _ (pt_map _ _))); (case hq => (first | (simp [-List.map_drop, -List.map_take]; done) | (intro _ h; simp only [List.mem_singleton] at h; subst h; exact pt_map _ _)))) | ((first | apply callR_i (yf) | apply callD_i (yf) | apply callX_i (yf)); (case hb => (simp (implicitDefEqProofs := false) (maxSteps := 2000000) (disch := omega) only [go_sem, eV, h, d1]; first | done | rfl)); (case hp => (first | (simp [-List.map_drop, -List.map_take, eV, h, d1]; done) | exact .ro _ _ (pt_map _ _))); (case hq => (first | (simp [-List.map_drop, -List.map_take]; done) | (intro _ h; simp only [List.mem_singleton] at h; subst h; exact pt_map _ _))))); simp (implicitDefEqProofs := false) (maxSteps := 2000000) (disch := omega) only [go_sem, eV, h, d1]; (repeat' (first | (refine hK _ ?_; clear hK hkp kp K) | (with_reducible refine And.intro ?_ ?_) | omega))) | ((first | refine goG_ask (fun h => ?_) (fun h => ?_) | refine goGD_ask (fun h => ?_) (fun h => ?_) | refine goGX_ask (fun h => ?_) (fun h => ?_)) <;> (simp (implicitDefEqProofs := false) (maxSteps := 2000000) (disch := omega) only [go_sem, eV, h, d1, h]; (repeat' (first | (refine hK _ ?_; clear hK hkp kp K) | (with_reducible refine And.intro ?_ ?_) | omega)))) | refine awp_cond_t rfl ?_ | refine awp_cond_f rfl ?_ | ((refine awp_cond rfl (fun h => ?_) (fun h => ?_) <;> try simp only [decide_eq_true_eq, decide_eq_false_iff_not, Int.not_lt, Int.not_le, Bool.not_eq_true, Bool.not_eq_false, bne_iff_ne, ne_eq, beq_iff_eq, bne_eq_false_iff_eq, beq_eq_false_iff_ne] at h) <;> (try (exfalso; omega))) | refine awp_ret ?_))
      (refine retA_is (by (simp (implicitDefEqProofs := false) (maxSteps := 2000000) (disch := omega) only [go_sem, Go.Proofs.Tryd.results76, valT, h, hn, eT, markT, str]); rfl) ?_; refine embS_frz (by simp only [oneA]; simp (implicitDefEqProofs := false) (maxSteps := 2000000) (disch := omega) only [go_sem, valT, h, hn, eT, markT, str]; rfl) ?_; refine (embV_nil hE (by simp) ?_).s; simp [oneA, ren, renL, valT, h, hn, eT, markT, str])
  · (repeat' (first | refine awp_seq ?_ | refine awp_block ?_ | refine awp_skip ?_ | refine awp_exit ?_ | ((first | refine awp_r (by kernel_rfl) (fun K kp hK hkp => ?_) | refine awp_dr (id := 3) mixed 3 [0, 1, 2] (by kernel_rfl) (by kernel_rfl) (by kernel_rfl) (by simp only [go_sem]; rfl) (by simp only [go_sem]; rfl) (by simp only [go_sem]; rfl) (fun K kp hK hkp => ?_) | refine awp_dr (id := 5) mixed 3 [0, 1, 2] (by kernel_rfl) (by kernel_rfl) (by kernel_rfl) (by simp only [go_sem]; rfl) (by simp only [go_sem]; rfl) (by simp only [go_sem]; rfl) (fun K kp hK hkp => ?_) | ((first | apply callR_i (yt) | apply callD_i (yt) | apply callX_i (yt)); (case hb => (simp (implicitDefEqProofs := false) (maxSteps := 2000000) (disch := omega) only [go_sem, eV, h]; first | done | rfl)); (case hp => (first | (simp [-List.map_drop, -List.map_take, eV, h]; done) | exact .ro _ _ (pt_map _ _))); (case hq => (first | (simp [-List.map_drop, -List.map_take]; done) | (intro _ h; simp only [List.mem_singleton] at h; subst h; exact pt_map _ _)))) | ((first | apply callR_i (yf) | apply callD_i (yf) | apply callX_i (yf)); (case hb => (simp (implicitDefEqProofs := false) (maxSteps := 2000000) (disch := omega) only [go_sem, eV, h]; first | done | rfl)); (case hp => (first | (simp [-List.map_drop, -List.map_take, eV, h]; done) | exact .ro _ _ (pt_map _ _))); (case hq => (first | (simp [-List.map_drop, -List.map_take]; done) | (intro _ h; simp only [List.mem_singleton] at h; subst h; exact pt_map _ _))))); simp (implicitDefEqProofs := false) (maxSteps := 2000000) (disch := omega) only [go_sem, eV, h]; (repeat' (first | (refine hK _ ?_; clear hK hkp kp K) | (with_reducible refine And.intro ?_ ?_) | omega))) | ((first | refine goG_ask (fun h => ?_) (fun h => ?_) | refine goGD_ask (fun h => ?_) (fun h => ?_) | refine goGX_ask (fun h => ?_) (fun h => ?_)) <;> (simp (implicitDefEqProofs := false) (maxSteps := 2000000) (disch := omega) only [go_sem, eV, h, h]; (repeat' (first | (refine hK _ ?_; clear hK hkp kp K) | (with_reducible refine And.intro ?_ ?_) | omega)))) | refine awp_cond_t rfl ?_ | refine awp_cond_f rfl ?_ | ((refine awp_cond rfl (fun h => ?_) (fun h => ?_) <;> try simp only [decide_eq_true_eq, decide_eq_false_iff_not, Int.not_lt, Int.not_le, Bool.not_eq_true, Bool.not_eq_false, bne_iff_ne, ne_eq, beq_iff_eq, bne_eq_false_iff_eq, beq_eq_false_iff_ne] at h) <;> (try (exfalso; omega))) | refine awp_ret ?_))
    (refine retA_is (by (simp (implicitDefEqProofs := false) (maxSteps := 2000000) (disch := omega) only [go_sem, Go.Proofs.Tryd.results76, valT, h, eT, str]); rfl) ?_; refine embS_frz (by simp only [oneA]; simp (implicitDefEqProofs := false) (maxSteps := 2000000) (disch := omega) only [go_sem, valT, h, eT, str]; rfl) ?_; refine (embV_nil hE (by simp) ?_).s; simp [oneA, ren, renL, valT, h, eT, str])
end Go.AM
/- Statements: slices.Concat of rows of tokens. -/
namespace Go.AM
open Go Go.RowKit
open Go.Proofs.YtoecmmpjndcolaaDoor (OP nameM litM exprM marksS wordsS StrsAt str SlAt letB wrdB digB bt vcheck)
attribute [local irreducible] AWP retA
def zT : List AV := [.r (.int .i64 0), .r (.string ⟨#[]⟩), .r (.int .i64 0)]
@[simp] theorem ptA_zT : (∀ x, x ∈ zT → PT x) = True := eq_true (by intro x hx; simp [zT] at hx; rcases hx with rfl | rfl | rfl <;> exact .r _)
set_option maxRecDepth 100000 in
theorem growT_con (G : List (Nat × List Value)) (n : Nat) (hn : 0 < n) (hb : n ≤ 1000000) : Con Go.Proofs.Tryd.prog G 114 [.r (.slice none 0 0), .r (.int .i64 n)] [] 0 (Is (.s 0 0 0) [(0, .lst 61 3 (List.replicate n zT))] 1) No := by
  refine con_of_awp Go.Proofs.Tryd.func114 rfl (by kernel_rfl) (of_decide_eq_true (by kernel_rfl)) ?_; intro E hG hE; subst hG; simp only [ent]
  have d1 : decide ((n : Int) < 0) = false := decide_eq_false (by omega)
  have d2 : decide ((n : Int) > 0) = true := decide_eq_true (by omega)
  (repeat' (first | refine awp_seq ?_ | refine awp_block ?_ | refine awp_skip ?_ | refine awp_exit ?_ | ((first | refine awp_r (by kernel_rfl) (fun K kp hK hkp => ?_)); simp (implicitDefEqProofs := false) (maxSteps := 2000000) (disch := omega) only [go_sem, d1, d2, Int.sub_zero, Value.oneCell', List.all_cons, List.all_nil, Bool.and_self, Int.toNat_natCast]; (repeat' (first | (refine hK _ ?_; clear hK hkp kp K) | (with_reducible refine And.intro ?_ ?_) | omega))) | ((first | refine goG_ask (fun h => ?_) (fun h => ?_) | refine goGD_ask (fun h => ?_) (fun h => ?_) | refine goGX_ask (fun h => ?_) (fun h => ?_)) <;> (simp (implicitDefEqProofs := false) (maxSteps := 2000000) (disch := omega) only [go_sem, d1, d2, Int.sub_zero, Value.oneCell', List.all_cons, List.all_nil, Bool.and_self, Int.toNat_natCast, h]; (repeat' (first | (refine hK _ ?_; clear hK hkp kp K) | (with_reducible refine And.intro ?_ ?_) | omega)))) | refine awp_cond_t rfl ?_ | refine awp_cond_f rfl ?_ | ((refine awp_cond rfl (fun h => ?_) (fun h => ?_) <;> try simp only [decide_eq_true_eq, decide_eq_false_iff_not, Int.not_lt, Int.not_le, Bool.not_eq_true, Bool.not_eq_false, bne_iff_ne, ne_eq, beq_iff_eq, bne_eq_false_iff_eq, beq_eq_false_iff_ne] at h) <;> (try (exfalso; omega))) | refine awp_ret ?_))
  (refine retA_is (by (simp (implicitDefEqProofs := false) (maxSteps := 2000000) (disch := omega) only [go_sem, Go.Proofs.Tryd.results114, zT]); rfl) ?_; refine (embV [0] ?_ ?_ ?_ ?_ ?_ ?_).s <;> simp [oneA, okO, lk, ren, renL, renNd, by_, hE, zT])
theorem flat_take {ls : List (List TK0)} {k : Nat} {x : List TK0} (h : ls[k]? = some x) : (ls.take (k + 1)).flatten = (ls.take k).flatten ++ x := by
  rw [List.take_add_one, h]; simp
theorem flat_len {ls : List (List TK0)} (h : ∀ x ∈ ls, x.length ≤ 1000) : ls.flatten.length ≤ 1000 * ls.length := by
  induction ls with
  | nil => simp
  | cons x r ih =>
    have := ih (fun y hy => h y (by simp [hy]))
    have := h x (by simp)
    rw [List.flatten_cons, List.length_append, List.length_cons]; omega
set_option maxRecDepth 100000 in
set_option maxHeartbeats 4000000 in
theorem concatT_con (G : List (Nat × List Value)) (t : Bool) (ls : List (List TK0)) (hl : ls.length ≤ 100) (hs : ∀ x ∈ ls, x.length ≤ 1000) (hp : 0 < ls.flatten.length) : Con Go.Proofs.Tryd.prog G 68 [.ro t 1 (ls.map eTs)] [] 0 (Is (.ro true 3 (ls.flatten.map eT)) [] 0) No := by
  refine con_of_awp Go.Proofs.Tryd.func68 rfl (by kernel_rfl) (of_decide_eq_true (by kernel_rfl)) ?_; intro E hG hE; subst hG; simp only [ent]
  (repeat' (first | refine awp_seq ?_ | refine awp_block ?_ | refine awp_skip ?_ | refine awp_exit ?_ | ((first | refine awp_r (by kernel_rfl) (fun K kp hK hkp => ?_)); simp (implicitDefEqProofs := false) (maxSteps := 2000000) (disch := omega) only [go_sem]; (repeat' (first | (refine hK _ ?_; clear hK hkp kp K) | (with_reducible refine And.intro ?_ ?_) | omega))) | ((first | refine goG_ask (fun h => ?_) (fun h => ?_) | refine goGD_ask (fun h => ?_) (fun h => ?_) | refine goGX_ask (fun h => ?_) (fun h => ?_)) <;> (simp (implicitDefEqProofs := false) (maxSteps := 2000000) (disch := omega) only [go_sem, h]; (repeat' (first | (refine hK _ ?_; clear hK hkp kp K) | (with_reducible refine And.intro ?_ ?_) | omega)))) | refine awp_cond_t rfl ?_ | refine awp_cond_f rfl ?_ | ((refine awp_cond rfl (fun h => ?_) (fun h => ?_) <;> try simp only [decide_eq_true_eq, decide_eq_false_iff_not, Int.not_lt, Int.not_le, Bool.not_eq_true, Bool.not_eq_false, bne_iff_ne, ne_eq, beq_iff_eq, bne_eq_false_iff_eq, beq_eq_false_iff_ne] at h) <;> (try (exfalso; omega))) | refine awp_ret ?_))
  have hfl := flat_len hs
  refine awp_loop (fun k : Nat => ⟨[(11, .r (.int .i64 k)), (10, .r (.int .i64 ls.length)), (9, .ro t 1 (ls.map eTs)), (3, .r (.int .i64 (ls.take k).flatten.length)), (0, .ro t 1 (ls.map eTs))], [], 0⟩) (fun k => k ≤ ls.length) (fun k => ls.length - k) 0 ?_ ?_ ?_
  · simp
  · (refine emb [] ?_ ?_ rfl ?_ ?_ ?_ ?_ <;> simp [okM, okO, lk, ren, renL, renNd, by_, hE] <;> (try omega))
  intro k hk
  have hle : (ls.take k).flatten.length ≤ 1000 * 100 := by
    have := flat_len (ls := ls.take k) (fun x hx => hs x (List.mem_of_mem_take hx))
    simp at this ⊢; omega
  by_cases hk' : k < ls.length
  · obtain ⟨x, hx⟩ : ∃ x, ls[k]? = some x := ⟨ls[k], by simp [hk']⟩
    have hft := flat_take hx
    have hxl := hs x (List.mem_of_getElem? hx)
    generalize (ls.take k).flatten = q at hft hle ⊢
    have d1 : decide ((q.length : Int) + (x.length : Int) < 0) = false := decide_eq_false (by omega)
    (repeat' (first | refine awp_seq ?_ | refine awp_block ?_ | refine awp_skip ?_ | refine awp_exit ?_ | ((first | refine awp_r (by kernel_rfl) (fun K kp hK hkp => ?_)); simp (implicitDefEqProofs := false) (maxSteps := 2000000) (disch := omega) only [go_sem, hx, eTs, d1]; (repeat' (first | (refine hK _ ?_; clear hK hkp kp K) | (with_reducible refine And.intro ?_ ?_) | omega))) | ((first | refine goG_ask (fun h => ?_) (fun h => ?_) | refine goGD_ask (fun h => ?_) (fun h => ?_) | refine goGX_ask (fun h => ?_) (fun h => ?_)) <;> (simp (implicitDefEqProofs := false) (maxSteps := 2000000) (disch := omega) only [go_sem, hx, eTs, d1, h]; (repeat' (first | (refine hK _ ?_; clear hK hkp kp K) | (with_reducible refine And.intro ?_ ?_) | omega)))) | refine awp_cond_t rfl ?_ | refine awp_cond_f rfl ?_ | ((refine awp_cond rfl (fun h => ?_) (fun h => ?_) <;> try simp only [decide_eq_true_eq, decide_eq_false_iff_not, Int.not_lt, Int.not_le, Bool.not_eq_true, Bool.not_eq_false, bne_iff_ne, ne_eq, beq_iff_eq, bne_eq_false_iff_eq, beq_eq_false_iff_ne] at h) <;> (try (exfalso; omega))) | refine awp_ret ?_))
    ((first | (refine nextB (k + 1) ?_ ?_ ?_) | (refine nextA (k + 1) ?_ ?_ ?_)); rotate_left; (· (try dsimp only); (first | omega | (simp only [List.length_drop, List.length_cons, List.length_append]; omega) | (simp; done) | (simp; omega))); (· (refine emb [] ?_ ?_ rfl ?_ ?_ ?_ ?_ <;> simp [okM, okO, lk, ren, renL, renNd, by_, hE, hft] <;> (try omega))))
    omega
  · obtain rfl : k = ls.length := by omega
    rw [List.take_of_length_le (Nat.le_refl _)] at hle ⊢
    have gc := growT_con E.G ls.flatten.length hp (by omega)
    obtain ⟨fl, hfe⟩ : ∃ fl, fl = ls.flatten := ⟨_, rfl⟩
    rw [← hfe] at hp hfl hle gc ⊢
    (repeat' (first | refine awp_seq ?_ | refine awp_block ?_ | refine awp_skip ?_ | refine awp_exit ?_ | ((first | refine awp_r (by kernel_rfl) (fun K kp hK hkp => ?_) | ((first | apply callR_i (gc) | apply callD_i (gc) | apply callX_i (gc)); (case hb => (simp (implicitDefEqProofs := false) (maxSteps := 2000000) (disch := omega) only [go_sem]; first | done | rfl)); (case hp => (first | (simp [-List.map_drop, -List.map_take]; done) | exact .ro _ _ (pt_map _ _))); (case hq => (first | (simp [-List.map_drop, -List.map_take]; done) | (intro _ h; simp only [List.mem_singleton] at h; subst h; exact pt_map _ _))))); simp (implicitDefEqProofs := false) (maxSteps := 2000000) (disch := omega) only [go_sem]; (repeat' (first | (refine hK _ ?_; clear hK hkp kp K) | (with_reducible refine And.intro ?_ ?_) | omega))) | ((first | refine goG_ask (fun h => ?_) (fun h => ?_) | refine goGD_ask (fun h => ?_) (fun h => ?_) | refine goGX_ask (fun h => ?_) (fun h => ?_)) <;> (simp (implicitDefEqProofs := false) (maxSteps := 2000000) (disch := omega) only [go_sem, h]; (repeat' (first | (refine hK _ ?_; clear hK hkp kp K) | (with_reducible refine And.intro ?_ ?_) | omega)))) | refine awp_cond_t rfl ?_ | refine awp_cond_f rfl ?_ | ((refine awp_cond rfl (fun h => ?_) (fun h => ?_) <;> try simp only [decide_eq_true_eq, decide_eq_false_iff_not, Int.not_lt, Int.not_le, Bool.not_eq_true, Bool.not_eq_false, bne_iff_ne, ne_eq, beq_iff_eq, bne_eq_false_iff_eq, beq_eq_false_iff_ne] at h) <;> (try (exfalso; omega))) | refine awp_ret ?_))
    refine awp_loop (fun q : Nat × List (List AV) => ⟨[(27, .r (.int .i64 q.1)), (26, .r (.int .i64 ls.length)), (25, .ro t 1 (ls.map eTs)), (6, .s 0 0 (ls.take q.1).flatten.length)], [(0, .lst 61 3 ((ls.take q.1).flatten.map eT ++ q.2))], 1⟩) (fun q => q.1 ≤ ls.length ∧ (q.1 = 0 ∨ q.2 = [])) (fun q => ls.length - q.1) (0, List.replicate fl.length zT) ?_ ?_ ?_
    · exact ⟨by simp, .inl rfl⟩
    · (refine emb [0] ?_ ?_ rfl ?_ ?_ ?_ ?_ <;> simp [okM, okO, lk, ren, renL, renNd, by_, hE] <;> (try omega))
    rintro ⟨k, jz⟩ ⟨hkl, hjz⟩
    simp only at hkl hjz ⊢
    have hle : (ls.take k).flatten.length ≤ 1000 * 100 := by
      have := flat_len (ls := ls.take k) (fun x hx => hs x (List.mem_of_mem_take hx))
      simp only [List.length_take] at this; omega
    by_cases hlt : k < ls.length
    · obtain ⟨x, hx⟩ : ∃ x, ls[k]? = some x := ⟨ls[k], by simp [hlt]⟩
      have hft := flat_take hx
      have hxl := hs x (List.mem_of_getElem? hx)
      generalize (ls.take k).flatten = q at hft hle ⊢
      have htk : List.take q.length (List.map eT q ++ jz) = List.map eT q := List.take_left' (by simp)
      (repeat' (first | refine awp_seq ?_ | refine awp_block ?_ | refine awp_skip ?_ | refine awp_exit ?_ | ((first | refine awp_r (by kernel_rfl) (fun K kp hK hkp => ?_)); simp (implicitDefEqProofs := false) (maxSteps := 2000000) (disch := omega) only [go_sem, hx, eTs, htk]; (repeat' (first | (refine hK _ ?_; clear hK hkp kp K) | (with_reducible refine And.intro ?_ ?_) | omega))) | ((first | refine goG_ask (fun h => ?_) (fun h => ?_) | refine goGD_ask (fun h => ?_) (fun h => ?_) | refine goGX_ask (fun h => ?_) (fun h => ?_)) <;> (simp (implicitDefEqProofs := false) (maxSteps := 2000000) (disch := omega) only [go_sem, hx, eTs, htk, h]; (repeat' (first | (refine hK _ ?_; clear hK hkp kp K) | (with_reducible refine And.intro ?_ ?_) | omega)))) | refine awp_cond_t rfl ?_ | refine awp_cond_f rfl ?_ | ((refine awp_cond rfl (fun h => ?_) (fun h => ?_) <;> try simp only [decide_eq_true_eq, decide_eq_false_iff_not, Int.not_lt, Int.not_le, Bool.not_eq_true, Bool.not_eq_false, bne_iff_ne, ne_eq, beq_iff_eq, bne_eq_false_iff_eq, beq_eq_false_iff_ne] at h) <;> (try (exfalso; omega))) | refine awp_ret ?_))
      ((first | (refine nextB ((k + 1, [])) ?_ ?_ ?_) | (refine nextA ((k + 1, [])) ?_ ?_ ?_)); rotate_left; (· (try dsimp only); (first | omega | (simp only [List.length_drop, List.length_cons, List.length_append]; omega) | (simp; done) | (simp; omega))); (· (refine emb [1] ?_ ?_ rfl ?_ ?_ ?_ ?_ <;> simp [okM, okO, lk, ren, renL, renNd, by_, hE, hft] <;> (try omega))))
      exact ⟨by omega, .inr rfl⟩
    · obtain rfl : k = ls.length := by omega
      have hjz : jz = [] := by
        rcases hjz with h0 | h0
        · rw [List.length_eq_zero_iff.1 h0] at hfe; rw [hfe] at hp; simp at hp
        · exact h0
      subst hjz
      rw [List.take_of_length_le (Nat.le_refl _), ← hfe]
      (repeat' (first | refine awp_seq ?_ | refine awp_block ?_ | refine awp_skip ?_ | refine awp_exit ?_ | ((first | refine awp_r (by kernel_rfl) (fun K kp hK hkp => ?_)); simp (implicitDefEqProofs := false) (maxSteps := 2000000) (disch := omega) only [go_sem]; (repeat' (first | (refine hK _ ?_; clear hK hkp kp K) | (with_reducible refine And.intro ?_ ?_) | omega))) | ((first | refine goG_ask (fun h => ?_) (fun h => ?_) | refine goGD_ask (fun h => ?_) (fun h => ?_) | refine goGX_ask (fun h => ?_) (fun h => ?_)) <;> (simp (implicitDefEqProofs := false) (maxSteps := 2000000) (disch := omega) only [go_sem, h]; (repeat' (first | (refine hK _ ?_; clear hK hkp kp K) | (with_reducible refine And.intro ?_ ?_) | omega)))) | refine awp_cond_t rfl ?_ | refine awp_cond_f rfl ?_ | ((refine awp_cond rfl (fun h => ?_) (fun h => ?_) <;> try simp only [decide_eq_true_eq, decide_eq_false_iff_not, Int.not_lt, Int.not_le, Bool.not_eq_true, Bool.not_eq_false, bne_iff_ne, ne_eq, beq_iff_eq, bne_eq_false_iff_eq, beq_eq_false_iff_ne] at h) <;> (try (exfalso; omega))) | refine awp_ret ?_))
      (refine retA_is (by (simp (implicitDefEqProofs := false) (maxSteps := 2000000) (disch := omega) only [go_sem, Go.Proofs.Tryd.results68, List.append_nil]); rfl) ?_; refine embS_frz (by simp only [oneA]; simp (implicitDefEqProofs := false) (maxSteps := 2000000) (disch := omega) only [go_sem, List.append_nil]; rfl) ?_; refine (embV_nil hE (by simp) ?_).s; simp [oneA, ren, renL, List.append_nil])
end Go.AM
/- Plain laws: a fold of a row of ops over a stack makes what their tree makes. -/
namespace Go.AM
section
variable {α β : Type}
def foldS (ar : α → Nat) (f : α → β → β → Except Int β) (z : β) : List α → List β → Except Int (List β)
  | [], st => .ok st
  | o :: r, st => match f o (if 0 < ar o then st.getD (st.length - ar o) z else z) (if 1 < ar o then st.getD (st.length - ar o + 1) z else z) with
    | .error e => .error e
    | .ok x => foldS ar f z r (st.take (st.length - ar o) ++ [x])
def evT (f : α → β → β → Except Int β) (z : β) : RT α → Except Int β
  | .l o => f o z z
  | .u o t => match evT f z t with
    | .error e => .error e
    | .ok a => f o a z
  | .b o s t => match evT f z s with
    | .error e => .error e
    | .ok a => match evT f z t with
      | .error e => .error e
      | .ok b => f o a b
theorem foldS_tree (ar : α → Nat) (f : α → β → β → Except Int β) (z : β) : ∀ (t : RT α) (rest : List α) (st : List β), t.wf ar →
    foldS ar f z (t.flat ++ rest) st = match evT f z t with
      | .error e => .error e
      | .ok x => foldS ar f z rest (st ++ [x])
  | .l o, rest, st, h => by
    simp only [RT.wf] at h
    simp only [RT.flat, List.cons_append, List.nil_append, foldS, evT, h, Nat.lt_irrefl, if_false, Nat.sub_zero, List.take_length, show ¬ 1 < 0 by omega]
  | .u o t, rest, st, h => by
    obtain ⟨h1, h2⟩ := h
    simp only [RT.flat, List.append_assoc]
    rw [foldS_tree ar f z t _ st h2, evT]
    cases evT f z t with
    | error e => rfl
    | ok a =>
      simp only [List.cons_append, List.nil_append, foldS, h1, List.length_append, List.length_cons, List.length_nil, Nat.add_sub_cancel, show ¬ 1 < 1 by omega, if_false, Nat.zero_add]
      simp
  | .b o s t, rest, st, h => by
    obtain ⟨h1, h2, h3⟩ := h
    simp only [RT.flat, List.append_assoc]
    rw [foldS_tree ar f z s _ st h2, evT]
    cases evT f z s with
    | error e => rfl
    | ok a =>
      simp only
      rw [foldS_tree ar f z t _ _ h3]
      cases evT f z t with
      | error e => rfl
      | ok b =>
        have e1 : (st ++ [a] ++ [b]).length - 2 = st.length := by simp
        have e2 : (st ++ [a] ++ [b]).getD st.length z = a := by simp [List.getD]
        have e3 : (st ++ [a] ++ [b]).getD (st.length + 1) z = b := by simp [List.getD]
        have e4 : (st ++ [a] ++ [b]).take st.length = st := by simp
        simp only [List.cons_append, List.nil_append, foldS, h1, e1, e2, e3, e4, show 0 < 2 by omega, show 1 < 2 by omega, if_true]
end
end Go.AM
/- Plain laws: an expression that may be is a tree. -/
namespace Go.AM
open Go Go.RowKit
open Go.Proofs.YtoecmmpjndcolaaDoor (OP nameM litM exprM exprFrom stepM popsM)
def arO (o : OP) : Nat := (popsM o.k).toNat
theorem arO_le (o : OP) : arO o ≤ 2 := by
  have := (Go.Proofs.YtoecmmpjndcolaaDoor.popsM_bd o.k).2
  simp only [arO]; omega
theorem step_ok {o : OP} {h : Int} (e : stepM o h = 0) : 1 ≤ o.k ∧ o.k ≤ 11 ∧ litM o.vk o.vn o.vs = 0 ∧ (o.k = 2 → nameM o.nm = 0) ∧ popsM o.k ≤ h := by
  unfold stepM at e
  split at e
  · cases e
  rename_i h1
  split at e
  · rename_i h2; exact (h2 e).elim
  rename_i h2
  split at e
  · cases e
  split at e
  · rename_i h3; exact (h3.2 e).elim
  rename_i h3
  split at e
  · cases e
  rename_i h4
  refine ⟨by omega, by omega, by simpa using h2, fun hk => ?_, by omega⟩
  cases Int.decEq (nameM o.nm) 0 with
  | isTrue h => exact h
  | isFalse h => exact (h3 ⟨hk, h⟩).elim
theorem hgt_of_expr : ∀ (l : List OP) (n : Nat), exprFrom l n = 0 → hgt arO l n = some 1
  | [], n, e => by
    unfold exprFrom at e
    split at e
    · cases e
    · rename_i h; simp only [hgt, Option.some.injEq]; simp only [ne_eq, Decidable.not_not] at h; omega
  | o :: r, n, e => by
    unfold exprFrom at e
    split at e
    · rename_i h; exact (h e).elim
    rename_i h
    have hs : stepM o n = 0 := by simpa using h
    obtain ⟨_, _, _, _, hp⟩ := step_ok hs
    have hb := Go.Proofs.YtoecmmpjndcolaaDoor.popsM_bd o.k
    unfold hgt
    have hle : ¬ n < arO o := by simp only [arO]; omega
    rw [if_neg hle]
    refine hgt_of_expr r _ ?_
    have e2 : ((n + 1 - arO o : Nat) : Int) = (n : Int) + 1 - popsM o.k := by simp only [arO] at hle ⊢; omega
    rw [e2]; exact e
theorem expr_steps : ∀ (l : List OP) (n : Int), exprFrom l n = 0 → ∀ o ∈ l, 1 ≤ o.k ∧ o.k ≤ 11 ∧ litM o.vk o.vn o.vs = 0 ∧ (o.k = 2 → nameM o.nm = 0)
  | [], _, _ => by simp
  | o :: r, n, e => by
    unfold exprFrom at e
    split at e
    · rename_i h; exact (h e).elim
    rename_i h
    obtain ⟨h1, h2, h3, h4, _⟩ := step_ok (show stepM o n = 0 by simpa using h)
    intro x hx
    rcases List.mem_cons.1 hx with rfl | hx
    · exact ⟨h1, h2, h3, h4⟩
    · exact expr_steps r _ e x hx
/-- An expression that may be. -/
theorem tree_of_expr {l : List OP} (h : exprM l = 0) : l.length ≤ 40 ∧ (∀ o ∈ l, 1 ≤ o.k ∧ o.k ≤ 11 ∧ litM o.vk o.vn o.vs = 0 ∧ (o.k = 2 → nameM o.nm = 0)) ∧ ∃ t : RT OP, t.wf arO ∧ t.flat = l := by
  unfold exprM at h
  split at h
  · cases h
  · exact ⟨by omega, expr_steps l 0 h, tree_of arO_le (hgt_of_expr l 0 h)⟩
end Go.AM
