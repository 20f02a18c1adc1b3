/- Texts of the law LockLeaves, part 5: lemmas; what is proved stands in the last text. -/
import Derived.Test.YteebiklebedneaaDoorZz4
import Derived.Test.YteebiklebedneaaDoorCards
import Derived.Test.YteebiklebedneaaDoorTie
import Derived.Test.YteebiklebedneaaDoorZz1
import Derived.WalkKit
import Derived.ProofKit
import Derived.OpenShut
import Derived.ShutString
import Derived.ChangeOld
import Derived.Below
import Derived.Lib.SmallJoins
import Derived.Deep.DeepHandedRow
import Derived.Lib.LaidTab
import Derived.Test.YteebiklebedneaaDoorRows
import Derived.JoinedCond
import Derived.SizedLaws
import Derived.Deep.Strs
set_option linter.unusedSimpArgs false
set_option linter.unusedVariables false
/- The law LockLeaves. -/
namespace Go.AM
open Go Go.RowKit
open Go.Proofs.YteebiklebedneaaDoor (LK lockGood chkM haveM haveM_len)
attribute [local irreducible] AWP retA
set_option maxRecDepth 100000 in
set_option maxHeartbeats 8000000 in
theorem sameK_con (G : List (Nat × List Value)) (t1 t2 t3 t4 : Bool) (l1 l2 : List LK) (n1 : l1.length ≤ 1048576) (n2 : l2.length ≤ 1048576) : Con Go.Proofs.Tryd.prog G 23 [.agg [.ro t1 3 (l1.map eK), .ro t2 3 (l2.map eK)], .agg [.ro t3 3 (l1.map eK), .ro t4 3 (l2.map eK)]] [] 0 (Is (.r (.bool true)) [] 0) No := by
  refine con_of_awp Go.Proofs.Tryd.func23 rfl (by kernel_rfl) (of_decide_eq_true (by kernel_rfl)) ?_; intro E hG hE; subst hG; simp only [ent]
  (repeat' (first | refine awp_seq ?_ | refine awp_block ?_ | refine awp_skip ?_ | refine awp_exit ?_ | ((first | refine rR (fun K kp hK hkp => ?_) | refine rD (id := 6) mixed 11 [0,1,2,3,4,5,6,7,8,9,10] (fun K kp hK hkp => ?_) | refine rD (id := 11) mixed 11 [0,1,2,3,4,5,6,7,8,9,10] (fun K kp hK hkp => ?_) | refine iG ?_ | refine iD ?_); simp (implicitDefEqProofs := false) (maxSteps := 2000000) (disch := omega) only [go_sem, bne_self_eq_false]; (repeat' (first | (refine hK _ ?_; clear hK hkp kp K) | (with_reducible refine And.intro ?_ ?_) | omega))) | ((first | refine aG (fun h => ?_) (fun h => ?_) | refine aD (fun h => ?_) (fun h => ?_) | refine aX (fun h => ?_) (fun h => ?_)) <;> simp only [h]) | refine awp_cond_t rfl ?_ | refine awp_cond_f rfl ?_ | ((refine awp_cond rfl (fun h => ?_) (fun h => ?_) <;> try simp only [ifs] at h) <;> (try (exfalso; omega))) | refine awp_ret ?_))
  refine awp_loop (fun k : Nat => ⟨[(5, .r (.int .i64 k)), (3, .p 1 0 0), (2, .p 0 0 0)], [(0, .box 41 [.ro t1 3 (l1.map eK), .ro t2 3 (l2.map eK)]), (1, .box 41 [.ro t3 3 (l1.map eK), .ro t4 3 (l2.map eK)])], 2⟩) (fun k => k ≤ l1.length) (fun k => l1.length - k) 0 ?_ ?_ ?_
  · simp
  · (refine emb [0, 1] ?_ ?_ rfl ?_ ?_ ?_ ?_ <;> simp [okM, okO, lk, ren, renL, renNd, by_, hE] <;> (try omega) <;> (try (intro i hi; first | (rcases (by omega : i = 0 ∨ i = 1 ∨ i = 2) with rfl | rfl | rfl <;> rfl) | (rcases (by omega : i = 0 ∨ i = 1) with rfl | rfl <;> rfl))))
  intro k hk
  by_cases hlt : k < l1.length
  · obtain ⟨x, hx⟩ : ∃ x, l1[k]? = some x := ⟨l1[k], by simp [hlt]⟩
    have d1 : decide ((k : Int) < (l1.length : Int)) = true := decide_eq_true (by omega)
    (repeat' (first | refine awp_seq ?_ | refine awp_block ?_ | refine awp_skip ?_ | refine awp_exit ?_ | ((first | refine rR (fun K kp hK hkp => ?_) | refine rD (id := 6) mixed 11 [0,1,2,3,4,5,6,7,8,9,10] (fun K kp hK hkp => ?_) | refine rD (id := 11) mixed 11 [0,1,2,3,4,5,6,7,8,9,10] (fun K kp hK hkp => ?_) | refine iG ?_ | refine iD ?_); simp (implicitDefEqProofs := false) (maxSteps := 2000000) (disch := omega) only [go_sem, hx, eK, d1, beq_self_eq_true, Bool.and_self, Bool.and_true, Bool.not_true]; (repeat' (first | (refine hK _ ?_; clear hK hkp kp K) | (with_reducible refine And.intro ?_ ?_) | omega))) | ((first | refine aG (fun h => ?_) (fun h => ?_) | refine aD (fun h => ?_) (fun h => ?_) | refine aX (fun h => ?_) (fun h => ?_)) <;> simp only [h]) | refine awp_cond_t rfl ?_ | refine awp_cond_f rfl ?_ | ((refine awp_cond rfl (fun h => ?_) (fun h => ?_) <;> try simp only [ifs] at h) <;> (try (exfalso; omega))) | refine awp_ret ?_))
    ((first | (refine nextB (k + 1) ?_ ?_ ?_) | (refine nextA (k + 1) ?_ ?_ ?_) | (refine nextE (k + 1) ?_ ?_ ?_)); rotate_left; (· (try dsimp only); (first | omega | (simp only [List.length_drop, List.length_cons, List.length_append]; omega) | (simp; done) | (simp; omega))); (· (refine emb [0, 1] ?_ ?_ rfl ?_ ?_ ?_ ?_ <;> simp [okM, okO, lk, ren, renL, renNd, by_, hE] <;> (try omega) <;> (try (intro i hi; first | (rcases (by omega : i = 0 ∨ i = 1 ∨ i = 2) with rfl | rfl | rfl <;> rfl) | (rcases (by omega : i = 0 ∨ i = 1) with rfl | rfl <;> rfl))))))
    omega
  · have d1 : decide ((k : Int) < (l1.length : Int)) = false := decide_eq_false (by omega)
    (repeat' (first | refine awp_seq ?_ | refine awp_block ?_ | refine awp_skip ?_ | refine awp_exit ?_ | ((first | refine rR (fun K kp hK hkp => ?_) | refine rD (id := 6) mixed 11 [0,1,2,3,4,5,6,7,8,9,10] (fun K kp hK hkp => ?_) | refine rD (id := 11) mixed 11 [0,1,2,3,4,5,6,7,8,9,10] (fun K kp hK hkp => ?_) | refine iG ?_ | refine iD ?_); simp (implicitDefEqProofs := false) (maxSteps := 2000000) (disch := omega) only [go_sem, d1]; (repeat' (first | (refine hK _ ?_; clear hK hkp kp K) | (with_reducible refine And.intro ?_ ?_) | omega))) | ((first | refine aG (fun h => ?_) (fun h => ?_) | refine aD (fun h => ?_) (fun h => ?_) | refine aX (fun h => ?_) (fun h => ?_)) <;> simp only [h]) | refine awp_cond_t rfl ?_ | refine awp_cond_f rfl ?_ | ((refine awp_cond rfl (fun h => ?_) (fun h => ?_) <;> try simp only [ifs] at h) <;> (try (exfalso; omega))) | refine awp_ret ?_))
    refine awp_loop (fun k : Nat => ⟨[(6, .r (.int .i64 k)), (3, .p 1 0 0), (2, .p 0 0 0)], [(0, .box 41 [.ro t1 3 (l1.map eK), .ro t2 3 (l2.map eK)]), (1, .box 41 [.ro t3 3 (l1.map eK), .ro t4 3 (l2.map eK)])], 2⟩) (fun k => k ≤ l2.length) (fun k => l2.length - k) 0 ?_ ?_ ?_
    · simp
    · (refine emb [0, 1] ?_ ?_ rfl ?_ ?_ ?_ ?_ <;> simp [okM, okO, lk, ren, renL, renNd, by_, hE] <;> (try omega) <;> (try (intro i hi; first | (rcases (by omega : i = 0 ∨ i = 1 ∨ i = 2) with rfl | rfl | rfl <;> rfl) | (rcases (by omega : i = 0 ∨ i = 1) with rfl | rfl <;> rfl))))
    intro k hk
    by_cases hlt : k < l2.length
    · obtain ⟨x, hx⟩ : ∃ x, l2[k]? = some x := ⟨l2[k], by simp [hlt]⟩
      have d1 : decide ((k : Int) < (l2.length : Int)) = true := decide_eq_true (by omega)
      (repeat' (first | refine awp_seq ?_ | refine awp_block ?_ | refine awp_skip ?_ | refine awp_exit ?_ | ((first | refine rR (fun K kp hK hkp => ?_) | refine rD (id := 6) mixed 11 [0,1,2,3,4,5,6,7,8,9,10] (fun K kp hK hkp => ?_) | refine rD (id := 11) mixed 11 [0,1,2,3,4,5,6,7,8,9,10] (fun K kp hK hkp => ?_) | refine iG ?_ | refine iD ?_); simp (implicitDefEqProofs := false) (maxSteps := 2000000) (disch := omega) only [go_sem, hx, eK, d1, beq_self_eq_true, Bool.and_self, Bool.and_true, Bool.not_true]; (repeat' (first | (refine hK _ ?_; clear hK hkp kp K) | (with_reducible refine And.intro ?_ ?_) | omega))) | ((first | refine aG (fun h => ?_) (fun h => ?_) | refine aD (fun h => ?_) (fun h => ?_) | refine aX (fun h => ?_) (fun h => ?_)) <;> simp only [h]) | refine awp_cond_t rfl ?_ | refine awp_cond_f rfl ?_ | ((refine awp_cond rfl (fun h => ?_) (fun h => ?_) <;> try simp only [ifs] at h) <;> (try (exfalso; omega))) | refine awp_ret ?_))
      ((first | (refine nextB (k + 1) ?_ ?_ ?_) | (refine nextA (k + 1) ?_ ?_ ?_) | (refine nextE (k + 1) ?_ ?_ ?_)); rotate_left; (· (try dsimp only); (first | omega | (simp only [List.length_drop, List.length_cons, List.length_append]; omega) | (simp; done) | (simp; omega))); (· (refine emb [0, 1] ?_ ?_ rfl ?_ ?_ ?_ ?_ <;> simp [okM, okO, lk, ren, renL, renNd, by_, hE] <;> (try omega) <;> (try (intro i hi; first | (rcases (by omega : i = 0 ∨ i = 1 ∨ i = 2) with rfl | rfl | rfl <;> rfl) | (rcases (by omega : i = 0 ∨ i = 1) with rfl | rfl <;> rfl))))))
      omega
    · have d1 : decide ((k : Int) < (l2.length : Int)) = false := decide_eq_false (by omega)
      (repeat' (first | refine awp_seq ?_ | refine awp_block ?_ | refine awp_skip ?_ | refine awp_exit ?_ | ((first | refine rR (fun K kp hK hkp => ?_) | refine rD (id := 6) mixed 11 [0,1,2,3,4,5,6,7,8,9,10] (fun K kp hK hkp => ?_) | refine rD (id := 11) mixed 11 [0,1,2,3,4,5,6,7,8,9,10] (fun K kp hK hkp => ?_) | refine iG ?_ | refine iD ?_); simp (implicitDefEqProofs := false) (maxSteps := 2000000) (disch := omega) only [go_sem, d1]; (repeat' (first | (refine hK _ ?_; clear hK hkp kp K) | (with_reducible refine And.intro ?_ ?_) | omega))) | ((first | refine aG (fun h => ?_) (fun h => ?_) | refine aD (fun h => ?_) (fun h => ?_) | refine aX (fun h => ?_) (fun h => ?_)) <;> simp only [h]) | refine awp_cond_t rfl ?_ | refine awp_cond_f rfl ?_ | ((refine awp_cond rfl (fun h => ?_) (fun h => ?_) <;> try simp only [ifs] at h) <;> (try (exfalso; omega))) | refine awp_ret ?_))
      (refine retA_is (by (simp (implicitDefEqProofs := false) (maxSteps := 2000000) (disch := omega) only [go_sem, Go.Proofs.Tryd.results23]); rfl) ?_; refine eN hE ?_; simp [oneA, ren, renL])
def badL (c : Int) : AV := .tup [.agg [.r (.slice none 0 0), .r (.slice none 0 0)], .r (.slice none 0 0), .r (.int .i64 c)]
set_option maxRecDepth 100000 in
set_option maxHeartbeats 4000000 in
theorem Leave_bad {G : List (Nat × List Value)} (T : TabsL G) (t1 t2 : Bool) (l1 l2 : List LK) (o1 : okKs l1) (o2 : okKs l2) (hg : ¬ lockGood l1 l2) (txn : Int) :
    Con Go.Proofs.Tryd.prog G 20 [.agg [.ro t1 3 (l1.map eK), .ro t2 3 (l2.map eK)], .r (.int .i64 txn)] [] 0 (Is (badL 11) [] 0) No := by
  have cc := check_con T t1 t2 l1 l2 o1 o2
  rw [Go.Proofs.YteebiklebedneaaDoor.chk_no hg] at cc
  unfold badL
  refine con_of_awp Go.Proofs.Tryd.func20 rfl (by kernel_rfl) (of_decide_eq_true (by kernel_rfl)) ?_; intro E hG hE; subst hG; simp only [ent]
  (repeat' (first | refine awp_seq ?_ | refine awp_block ?_ | refine awp_skip ?_ | refine awp_exit ?_ | ((first | refine rR (fun K kp hK hkp => ?_) | refine rX (id := 8) mixed [3,4] 9 [0,1,2,4,5,6,3,7,8] (fun K kp hK hkp => ?_) | refine cR cc ?_ | refine cD cc ?_ | refine iG ?_ | refine iD ?_); simp (implicitDefEqProofs := false) (maxSteps := 2000000) (disch := omega) only [go_sem, eK]; (repeat' (first | (refine hK _ ?_; clear hK hkp kp K) | (with_reducible refine And.intro ?_ ?_) | omega))) | ((first | refine aG (fun h => ?_) (fun h => ?_) | refine aD (fun h => ?_) (fun h => ?_) | refine aX (fun h => ?_) (fun h => ?_)) <;> simp only [h]) | refine awp_cond_t rfl ?_ | refine awp_cond_f rfl ?_ | ((refine awp_cond rfl (fun h => ?_) (fun h => ?_) <;> try simp only [ifs] at h) <;> (try (exfalso; omega))) | refine awp_ret ?_))
  (refine retA_is (by (simp (implicitDefEqProofs := false) (maxSteps := 2000000) (disch := omega) only [go_sem, Go.Proofs.Tryd.results20]); rfl) ?_; refine eN hE ?_; simp [oneA, ren, renL])
set_option maxRecDepth 100000 in
set_option maxHeartbeats 4000000 in
theorem LeftBy_bad (G : List (Nat × List Value)) (t1 t2 : Bool) (l1 l2 : List LK) (o1 : okKs l1) (o2 : okKs l2) (hg : ¬ lockGood l1 l2) (txn : Int) :
    Con Go.Proofs.Tryd.prog G 21 [.agg [.ro t1 3 (l1.map eK), .ro t2 3 (l2.map eK)], .r (.int .i64 txn)] [] 0 (Is (badL 11) [] 0) No := by
  have cc := locksFault_con G t1 t2 l1 l2 o1 o2
  rw [Go.Proofs.YteebiklebedneaaDoor.chk_no hg] at cc
  unfold badL
  refine con_of_awp Go.Proofs.Tryd.func21 rfl (by kernel_rfl) (of_decide_eq_true (by kernel_rfl)) ?_; intro E hG hE; subst hG; simp only [ent]
  (repeat' (first | refine awp_seq ?_ | refine awp_block ?_ | refine awp_skip ?_ | refine awp_exit ?_ | ((first | refine rR (fun K kp hK hkp => ?_) | refine rD (id := 11) mixed 8 [0,1,2,3,4,5,6,7] (fun K kp hK hkp => ?_) | refine rD (id := 16) mixed 8 [0,1,2,3,4,5,6,7] (fun K kp hK hkp => ?_) | refine cR cc ?_ | refine cD cc ?_ | refine iG ?_ | refine iD ?_); simp (implicitDefEqProofs := false) (maxSteps := 2000000) (disch := omega) only [go_sem, eK]; (repeat' (first | (refine hK _ ?_; clear hK hkp kp K) | (with_reducible refine And.intro ?_ ?_) | omega))) | ((first | refine aG (fun h => ?_) (fun h => ?_) | refine aD (fun h => ?_) (fun h => ?_) | refine aX (fun h => ?_) (fun h => ?_)) <;> simp only [h]) | refine awp_cond_t rfl ?_ | refine awp_cond_f rfl ?_ | ((refine awp_cond rfl (fun h => ?_) (fun h => ?_) <;> try simp only [ifs] at h) <;> (try (exfalso; omega))) | refine awp_ret ?_))
  (refine retA_is (by (simp (implicitDefEqProofs := false) (maxSteps := 2000000) (disch := omega) only [go_sem, Go.Proofs.Tryd.results21]); rfl) ?_; refine eN hE ?_; simp [oneA, ren, renL])
set_option maxRecDepth 100000 in
set_option maxHeartbeats 4000000 in
theorem Leave_out {G : List (Nat × List Value)} (T : TabsL G) (t1 t2 : Bool) (l1 l2 : List LK) (o1 : okKs l1) (o2 : okKs l2) (hg : lockGood l1 l2) (txn : Int) (h : ¬ (1 ≤ txn ∧ txn ≤ 1048576)) :
    Con Go.Proofs.Tryd.prog G 20 [.agg [.ro t1 3 (l1.map eK), .ro t2 3 (l2.map eK)], .r (.int .i64 txn)] [] 0 (Is (badL 3) [] 0) No := by
  have cc := check_con T t1 t2 l1 l2 o1 o2
  rw [Go.Proofs.YteebiklebedneaaDoor.chk_yes hg] at cc
  unfold badL
  by_cases h1 : txn < 1
  · have d1 : decide (txn < 1) = true := decide_eq_true h1
    refine con_of_awp Go.Proofs.Tryd.func20 rfl (by kernel_rfl) (of_decide_eq_true (by kernel_rfl)) ?_; intro E hG hE; subst hG; simp only [ent]
    (repeat' (first | refine awp_seq ?_ | refine awp_block ?_ | refine awp_skip ?_ | refine awp_exit ?_ | ((first | refine rR (fun K kp hK hkp => ?_) | refine rX (id := 8) mixed [3,4] 9 [0,1,2,4,5,6,3,7,8] (fun K kp hK hkp => ?_) | refine cR cc ?_ | refine cD cc ?_ | refine iG ?_ | refine iD ?_); simp (implicitDefEqProofs := false) (maxSteps := 2000000) (disch := omega) only [go_sem, eK, d1]; (repeat' (first | (refine hK _ ?_; clear hK hkp kp K) | (with_reducible refine And.intro ?_ ?_) | omega))) | ((first | refine aG (fun h => ?_) (fun h => ?_) | refine aD (fun h => ?_) (fun h => ?_) | refine aX (fun h => ?_) (fun h => ?_)) <;> simp only [h]) | refine awp_cond_t rfl ?_ | refine awp_cond_f rfl ?_ | ((refine awp_cond rfl (fun h => ?_) (fun h => ?_) <;> try simp only [ifs] at h) <;> (try (exfalso; omega))) | refine awp_ret ?_))
    (refine retA_is (by (simp (implicitDefEqProofs := false) (maxSteps := 2000000) (disch := omega) only [go_sem, Go.Proofs.Tryd.results20]); rfl) ?_; refine eN hE ?_; simp [oneA, ren, renL])
  · have d1 : decide (txn < 1) = false := decide_eq_false h1
    have d2 : decide (txn > 1048576) = true := decide_eq_true (by omega)
    refine con_of_awp Go.Proofs.Tryd.func20 rfl (by kernel_rfl) (of_decide_eq_true (by kernel_rfl)) ?_; intro E hG hE; subst hG; simp only [ent]
    (repeat' (first | refine awp_seq ?_ | refine awp_block ?_ | refine awp_skip ?_ | refine awp_exit ?_ | ((first | refine rR (fun K kp hK hkp => ?_) | refine rX (id := 8) mixed [3,4] 9 [0,1,2,4,5,6,3,7,8] (fun K kp hK hkp => ?_) | refine cR cc ?_ | refine cD cc ?_ | refine iG ?_ | refine iD ?_); simp (implicitDefEqProofs := false) (maxSteps := 2000000) (disch := omega) only [go_sem, eK, d1, d2]; (repeat' (first | (refine hK _ ?_; clear hK hkp kp K) | (with_reducible refine And.intro ?_ ?_) | omega))) | ((first | refine aG (fun h => ?_) (fun h => ?_) | refine aD (fun h => ?_) (fun h => ?_) | refine aX (fun h => ?_) (fun h => ?_)) <;> simp only [h]) | refine awp_cond_t rfl ?_ | refine awp_cond_f rfl ?_ | ((refine awp_cond rfl (fun h => ?_) (fun h => ?_) <;> try simp only [ifs] at h) <;> (try (exfalso; omega))) | refine awp_ret ?_))
    (refine retA_is (by (simp (implicitDefEqProofs := false) (maxSteps := 2000000) (disch := omega) only [go_sem, Go.Proofs.Tryd.results20]); rfl) ?_; refine eN hE ?_; simp [oneA, ren, renL])
set_option maxRecDepth 100000 in
set_option maxHeartbeats 4000000 in
theorem LeftBy_out (G : List (Nat × List Value)) (t1 t2 : Bool) (l1 l2 : List LK) (o1 : okKs l1) (o2 : okKs l2) (hg : lockGood l1 l2) (txn : Int) (h : ¬ (1 ≤ txn ∧ txn ≤ 1048576)) :
    Con Go.Proofs.Tryd.prog G 21 [.agg [.ro t1 3 (l1.map eK), .ro t2 3 (l2.map eK)], .r (.int .i64 txn)] [] 0 (Is (badL 3) [] 0) No := by
  have cc := locksFault_con G t1 t2 l1 l2 o1 o2
  rw [Go.Proofs.YteebiklebedneaaDoor.chk_yes hg] at cc
  have ic := inK_con G txn 1 1048576
  rw [show (decide ((1 : Int) ≤ txn) && decide (txn ≤ 1048576)) = false by simp; omega] at ic
  unfold badL
  refine con_of_awp Go.Proofs.Tryd.func21 rfl (by kernel_rfl) (of_decide_eq_true (by kernel_rfl)) ?_; intro E hG hE; subst hG; simp only [ent]
  (repeat' (first | refine awp_seq ?_ | refine awp_block ?_ | refine awp_skip ?_ | refine awp_exit ?_ | ((first | refine rR (fun K kp hK hkp => ?_) | refine rD (id := 11) mixed 8 [0,1,2,3,4,5,6,7] (fun K kp hK hkp => ?_) | refine rD (id := 16) mixed 8 [0,1,2,3,4,5,6,7] (fun K kp hK hkp => ?_) | refine cR cc ?_ | refine cD cc ?_ | refine cR ic ?_ | refine cD ic ?_ | refine iG ?_ | refine iD ?_); simp (implicitDefEqProofs := false) (maxSteps := 2000000) (disch := omega) only [go_sem, eK]; (repeat' (first | (refine hK _ ?_; clear hK hkp kp K) | (with_reducible refine And.intro ?_ ?_) | omega))) | ((first | refine aG (fun h => ?_) (fun h => ?_) | refine aD (fun h => ?_) (fun h => ?_) | refine aX (fun h => ?_) (fun h => ?_)) <;> simp only [h]) | refine awp_cond_t rfl ?_ | refine awp_cond_f rfl ?_ | ((refine awp_cond rfl (fun h => ?_) (fun h => ?_) <;> try simp only [ifs] at h) <;> (try (exfalso; omega))) | refine awp_ret ?_))
  (refine retA_is (by (simp (implicitDefEqProofs := false) (maxSteps := 2000000) (disch := omega) only [go_sem, Go.Proofs.Tryd.results21]); rfl) ?_; refine eN hE ?_; simp [oneA, ren, renL])
theorem leave_size {R : List LK × List LK × List Int} : ∀ {f : Nat} {h q : List LK} {w : List Int}, leaveF f h q w = R → R.1.length + R.2.1.length ≤ h.length + q.length + f ∧ R.2.2.length ≤ w.length + f := by
  intro f
  induction f with
  | zero => intro h q w e; simp only [leaveF] at e; subst e; simp
  | succ f ih =>
    intro h q w e
    rw [leaveF] at e
    split at e
    · subst e; simp only; omega
    · split at e
      · subst e; simp only; omega
      · rename_i i _ x hx
        have hlt := (List.getElem?_eq_some_iff.1 hx).1
        have h1 := ih e
        have h2 := delM_len hlt
        have h3 := haveM_len x h
        simp only [List.length_append, List.length_singleton] at h1
        omega
set_option maxRecDepth 100000 in
set_option maxHeartbeats 8000000 in
theorem lawLeaves_con {G : List (Nat × List Value)} (T : TabsL G) (l1 l2 : List LK) (o1 : okKs l1) (o2 : okKs l2) (txn : Int) :
    Con Go.Proofs.Tryd.prog G 6 [.agg [.ro true 3 (l1.map eK), .ro true 3 (l2.map eK)], .r (.int .i64 txn)] [] 0 (Is (.r (.bool true)) [] 0) No := by
  have yc := locksCopy_con G true true l1 l2 o1.1 o2.1
  have q1 := o1.1
  have q2 := o2.1
  have s2 := sameK_con G true true true true l1 l2 q1 q2
  have s3 := (sameK_con G true true true true [] [] (by simp) (by simp)).weak (xs := [.agg [.r (.slice none 0 0), .r (.slice none 0 0)], .agg [.r (.slice none 0 0), .r (.slice none 0 0)]]) (by simp [wkL, wk])
  have s4 := (sameI_con G true true [] (by simp)).weak (xs := [.r (.slice none 0 0), .r (.slice none 0 0)]) (by simp [wkL, wk])
  by_cases hg : lockGood l1 l2
  · by_cases ht : 1 ≤ txn ∧ txn ≤ 1048576
    · have pc := Leave_good T true true l1 l2 o1 o2 hg txn ht.1 ht.2
      have rc := LeftBy_good G true true l1 l2 o1 o2 hg txn ht.1 ht.2
      obtain ⟨R, hR⟩ : ∃ R, leaveM l1 l2 txn = R := ⟨_, rfl⟩
      rw [hR] at pc rc
      have hs := leave_size hR
      have g1 := kept_len (fun x => x.t == txn) l1
      have g2 := kept_len (fun x => x.t == txn) l2
      have g3 := hg.1
      simp only [keptT, List.length_nil] at hs
      have sc := sameI_con G true true R.2.2 (by omega)
      have kc := sameK_con G true true true true R.1 R.2.1 (by omega) (by omega)
      refine con_of_awp Go.Proofs.Tryd.func6 rfl (by kernel_rfl) (of_decide_eq_true (by kernel_rfl)) ?_; intro E hG hE; subst hG; simp only [ent]
      (repeat' (first | refine awp_seq ?_ | refine awp_block ?_ | refine awp_skip ?_ | refine awp_exit ?_ | ((first | refine rR (fun K kp hK hkp => ?_) | refine cR yc ?_ | refine cR pc ?_ | refine cR rc ?_ | refine cR sc ?_ | refine cR kc ?_ | refine cR s2 ?_ | refine iG ?_); simp (implicitDefEqProofs := false) (maxSteps := 2000000) (disch := omega) only [go_sem, beq_self_eq_true]; (repeat' (first | (refine hK _ ?_; clear hK hkp kp K) | (with_reducible refine And.intro ?_ ?_) | omega))) | ((first | refine aG (fun h => ?_) (fun h => ?_) | refine aD (fun h => ?_) (fun h => ?_) | refine aX (fun h => ?_) (fun h => ?_)) <;> simp only [h]) | refine awp_cond_t rfl ?_ | refine awp_cond_f rfl ?_ | ((refine awp_cond rfl (fun h => ?_) (fun h => ?_) <;> try simp only [ifs] at h) <;> (try (exfalso; omega))) | refine awp_ret ?_))
      (refine retA_is (by (simp (implicitDefEqProofs := false) (maxSteps := 2000000) (disch := omega) only [go_sem, Go.Proofs.Tryd.results6]); rfl) ?_; refine eN hE ?_; simp [oneA, ren, renL])
    · have pc := Leave_out T true true l1 l2 o1 o2 hg txn ht
      have rc := LeftBy_out G true true l1 l2 o1 o2 hg txn ht
      unfold badL at pc rc
      refine con_of_awp Go.Proofs.Tryd.func6 rfl (by kernel_rfl) (of_decide_eq_true (by kernel_rfl)) ?_; intro E hG hE; subst hG; simp only [ent]
      (repeat' (first | refine awp_seq ?_ | refine awp_block ?_ | refine awp_skip ?_ | refine awp_exit ?_ | ((first | refine rR (fun K kp hK hkp => ?_) | refine cR yc ?_ | refine cR pc ?_ | refine cR rc ?_ | refine cR s4 ?_ | refine cR s3 ?_ | refine cR s2 ?_ | refine iG ?_); simp (implicitDefEqProofs := false) (maxSteps := 2000000) (disch := omega) only [go_sem, beq_self_eq_true]; (repeat' (first | (refine hK _ ?_; clear hK hkp kp K) | (with_reducible refine And.intro ?_ ?_) | omega))) | ((first | refine aG (fun h => ?_) (fun h => ?_) | refine aD (fun h => ?_) (fun h => ?_) | refine aX (fun h => ?_) (fun h => ?_)) <;> simp only [h]) | refine awp_cond_t rfl ?_ | refine awp_cond_f rfl ?_ | ((refine awp_cond rfl (fun h => ?_) (fun h => ?_) <;> try simp only [ifs] at h) <;> (try (exfalso; omega))) | refine awp_ret ?_))
      (refine retA_is (by (simp (implicitDefEqProofs := false) (maxSteps := 2000000) (disch := omega) only [go_sem, Go.Proofs.Tryd.results6]); rfl) ?_; refine eN hE ?_; simp [oneA, ren, renL])
  · have pc := Leave_bad T true true l1 l2 o1 o2 hg txn
    have rc := LeftBy_bad G true true l1 l2 o1 o2 hg txn
    unfold badL at pc rc
    refine con_of_awp Go.Proofs.Tryd.func6 rfl (by kernel_rfl) (of_decide_eq_true (by kernel_rfl)) ?_; intro E hG hE; subst hG; simp only [ent]
    (repeat' (first | refine awp_seq ?_ | refine awp_block ?_ | refine awp_skip ?_ | refine awp_exit ?_ | ((first | refine rR (fun K kp hK hkp => ?_) | refine cR yc ?_ | refine cR pc ?_ | refine cR rc ?_ | refine cR s4 ?_ | refine cR s3 ?_ | refine cR s2 ?_ | refine iG ?_); simp (implicitDefEqProofs := false) (maxSteps := 2000000) (disch := omega) only [go_sem, beq_self_eq_true]; (repeat' (first | (refine hK _ ?_; clear hK hkp kp K) | (with_reducible refine And.intro ?_ ?_) | omega))) | ((first | refine aG (fun h => ?_) (fun h => ?_) | refine aD (fun h => ?_) (fun h => ?_) | refine aX (fun h => ?_) (fun h => ?_)) <;> simp only [h]) | refine awp_cond_t rfl ?_ | refine awp_cond_f rfl ?_ | ((refine awp_cond rfl (fun h => ?_) (fun h => ?_) <;> try simp only [ifs] at h) <;> (try (exfalso; omega))) | refine awp_ret ?_))
    (refine retA_is (by (simp (implicitDefEqProofs := false) (maxSteps := 2000000) (disch := omega) only [go_sem, Go.Proofs.Tryd.results6]); rfl) ?_; refine eN hE ?_; simp [oneA, ren, renL])
end Go.AM
/- How arguments and the listed tables read: the lock seat. -/
namespace Go.Proofs.YteebiklebedneaaDoor
open Go.ChangeShapes Go.WideShapes Go.ChangeAt Go.RowKit
theorem own : ownKnob Tryd.prog.godebug = none := by kernel_rfl
theorem laidOut : laidOutB Tryd.prog = true := by kernel_rfl
set_option maxRecDepth 100000 in
theorem open_i64 {H : Type} {enc : TypeId × Value → H} {w : World} {base : Nat} {spare : Nat → Bool} {held : Bool} {b0 : Nat} {v : Value} {d : DataW H} {p : List MemPlace}
    (hv : Value.okWide Tryd.prog w .any b0 3 v) (h : DataW.Trod enc Tryd.prog w base spare held 3 v d p) : ∃ n : Int, v = .int .i64 n ∧ (Lit.int .i64 n).wf = true := by
  obtain ⟨n, rfl, _, _, w0⟩ := open_int Tryd.underlying3 hv h
  exact ⟨n, rfl, w0⟩
/-- A plain datum as a value. -/
def valOf {H : Type} : DataW H → Value
  | .lit (.bool b) => .bool b
  | .lit (.int k n) => .int k n
  | _ => undef
/-- A table of rows, flat in its cells. -/
theorem arr2 {P : Program} {w : World} {t e f : TypeId} {n m fuel : Nat} {cs : List Value} {x : DataW Unit × List MemPlace} {base : Nat} {spare : Nat → Bool} {held : Bool}
    (ht : P.underlying t = some (.array n e)) (he : P.underlying e = some (.array m f)) (hce : P.cellsOf e = m) (hcf : P.cellsOf f = 1)
    (leaf : ∀ fuel cs x, DataW.trod (fun _ => ()) P w base spare held fuel f cs = some x → cs = [valOf x.1])
    (h : DataW.trod (fun _ => ()) P w base spare held fuel t cs = some x) :
    ∃ rows : List (DataW Unit), x.1 = .agg rows ∧ ∀ i j, i < n → j < m → ∃ row d, rows[i]? = some (.agg row) ∧ row[j]? = some d ∧ cs[i * m + j]? = some (valOf d) := by
  obtain ⟨xs, m', rfl, rfl, hl, hn, hi⟩ := DataW.trod_array ht h
  refine ⟨_, rfl, fun i j hin hjm => ?_⟩
  have h1 := hi i hin
  obtain ⟨y, hy⟩ : ∃ y, xs[i]? = some y := ⟨xs[i], by simp [hn, hin]⟩
  rw [hy] at h1
  obtain ⟨ys, m2, rfl, rfl, hl2, hm, hj⟩ := DataW.trod_array he h1
  have h2 := hj j hjm
  obtain ⟨z, hz⟩ : ∃ z, ys[j]? = some z := ⟨ys[j], by simp [hm, hjm]⟩
  rw [hz] at h2
  have h3 := leaf _ _ _ h2
  refine ⟨ys.map (·.1), z.1, by simp [hy], by simp [hz], ?_⟩
  rw [hcf, hce] at h3
  have h4 := congrArg (fun l => l[0]?) h3
  simp at h4
  simpa [List.getElem?_take, List.getElem?_drop, hjm] using h4
theorem leaf_bool {P : Program} {w : World} {f : TypeId} (hf : P.underlying f = some .bool) {base : Nat} {spare : Nat → Bool} {held : Bool} :
    ∀ fuel cs (x : DataW Unit × List MemPlace), DataW.trod (fun _ => ()) P w base spare held fuel f cs = some x → cs = [valOf x.1] := by
  intro fuel cs x h
  obtain ⟨b, rfl, rfl⟩ := DataW.trod_bool hf h
  rfl
theorem leaf_int {P : Program} {w : World} {f : TypeId} {k : IntKind} (hf : P.underlying f = some (.int k)) {base : Nat} {spare : Nat → Bool} {held : Bool} :
    ∀ fuel cs (x : DataW Unit × List MemPlace), DataW.trod (fun _ => ()) P w base spare held fuel f cs = some x → cs = [valOf x.1] := by
  intro fuel cs x h
  obtain ⟨b, rfl, rfl, _⟩ := DataW.trod_int hf h
  rfl
theorem six {i : Nat} (h : i < 6) : i = 0 ∨ i = 1 ∨ i = 2 ∨ i = 3 ∨ i = 4 ∨ i = 5 := by omega
theorem gFits : Tryd.prog.globalNamed "padlock/lock.fits" = some 2 := by kernel_rfl
theorem gJoins : Tryd.prog.globalNamed "padlock/lock.joins" = some 1 := by kernel_rfl
theorem gFitsT : (Tryd.prog.globals[2]?).map (·.type) = some 117 := by kernel_rfl
theorem gJoinsT : (Tryd.prog.globals[1]?).map (·.type) = some 112 := by kernel_rfl
theorem fits_head {W : World} {rest : List (String × DataW Unit)} {ps : List MemPlace} (h : DataW.LaidVars Tryd.prog W (("padlock/lock.fits", Rows.laid_padlock_lock_fits) :: rest) ps) : TabFits W ∧ ∃ q, DataW.LaidVars Tryd.prog W rest q := by
  obtain ⟨g, t, cs, fuel, p, q, hg, ht, hvar, hd, hr, _⟩ := h
  obtain rfl := Option.some.inj (gFits.symm.trans hg)
  obtain rfl := Option.some.inj (gFitsT.symm.trans ht)
  refine ⟨fun i j hi hj => ?_, q, hr⟩
  obtain ⟨rows, e, H⟩ := arr2 Tryd.underlying117 Tryd.underlying116 (by kernel_rfl) (by kernel_rfl) (leaf_bool Tryd.underlying4) hd
  obtain ⟨row, d, h1, h2, h3⟩ := H i j hi hj
  rw [World.var?_cell gFits hvar]
  rw [Array.getElem?_toList] at h3
  rw [h3]
  simp only [Rows.laid_padlock_lock_fits, DataW.agg.injEq] at e
  subst e
  rcases six hi with rfl | rfl | rfl | rfl | rfl | rfl <;> simp at h1 <;> subst h1 <;> rcases six hj with rfl | rfl | rfl | rfl | rfl | rfl <;> simp at h2 <;> subst h2 <;> rfl
theorem joins_head {W : World} {rest : List (String × DataW Unit)} {ps : List MemPlace} (h : DataW.LaidVars Tryd.prog W (("padlock/lock.joins", Rows.laid_padlock_lock_joins) :: rest) ps) : TabJoins W ∧ ∃ q, DataW.LaidVars Tryd.prog W rest q := by
  obtain ⟨g, t, cs, fuel, p, q, hg, ht, hvar, hd, hr, _⟩ := h
  obtain rfl := Option.some.inj (gJoins.symm.trans hg)
  obtain rfl := Option.some.inj (gJoinsT.symm.trans ht)
  refine ⟨fun i j hi hj => ?_, q, hr⟩
  obtain ⟨rows, e, H⟩ := arr2 Tryd.underlying112 Tryd.underlying111 (by kernel_rfl) (by kernel_rfl) (leaf_int Tryd.underlying3) hd
  obtain ⟨row, d, h1, h2, h3⟩ := H i j hi hj
  rw [World.var?_cell gJoins hvar]
  rw [Array.getElem?_toList] at h3
  rw [h3]
  simp only [Rows.laid_padlock_lock_joins, DataW.agg.injEq] at e
  subst e
  rcases six hi with rfl | rfl | rfl | rfl | rfl | rfl <;> simp at h1 <;> subst h1 <;> rcases six hj with rfl | rfl | rfl | rfl | rfl | rfl <;> simp at h2 <;> subst h2 <;> rfl
theorem tabs_fits {W : World} (h : laidMetH Tryd.prog [("padlock/lock.fits", Rows.laid_padlock_lock_fits)] W) : TabFits W := by
  obtain ⟨ps, h, _⟩ := h
  exact (fits_head h).1
theorem tabs_joins {W : World} (h : laidMetH Tryd.prog [("padlock/lock.joins", Rows.laid_padlock_lock_joins)] W) : TabJoins W := by
  obtain ⟨ps, h, _⟩ := h
  exact (joins_head h).1
theorem tabs_both {W : World} (h : laidMetH Tryd.prog [("padlock/lock.fits", Rows.laid_padlock_lock_fits), ("padlock/lock.joins", Rows.laid_padlock_lock_joins)] W) : TabFits W ∧ TabJoins W := by
  obtain ⟨ps, h, _⟩ := h
  obtain ⟨h1, q, h2⟩ := fits_head h
  exact ⟨h1, (joins_head h2).1⟩
end Go.Proofs.YteebiklebedneaaDoor
/- How arguments that came in read: lemmas out of the kit's readings, in the walks' own terms. -/
namespace Go.Proofs.YteebiklebedneaaDoor
open Go.ChangeShapes Go.WideShapes Go.ChangeAt Go.RowKit
theorem cellsValue : Tryd.prog.cellsOf 57 = 3 := by kernel_rfl
set_option maxRecDepth 100000 in
/-- A struct api.Value that came in: its three fields. -/
theorem open_value {H : Type} {enc : TypeId × Value → H} {w : World} {base : Nat} {spare : Nat → Bool} {held : Bool} {b0 : Nat} {v : Value} {d : DataW H} {p : List MemPlace}
    (hv : Value.okWide Tryd.prog w .any b0 57 v) (h : DataW.Trod enc Tryd.prog w base spare held 57 v d p) :
    ∃ (k n : Int) (s : ByteArray), v = .agg #[.int .i64 k, .int .i64 n, .string s] ∧ (Lit.int .i64 k).wf = true ∧ (Lit.int .i64 n).wf = true ∧ s.size ≤ maxLen := by
  obtain ⟨c0, c1, c2, y0, y1, y2, m, rfl, _, _, h0, h1, h2⟩ := Joins.open_agg3 Tryd.underlying57 (by kernel_rfl) cellsValue hv h
  obtain ⟨k, e0, _, w0⟩ := DataW.trod_int Tryd.underlying3 h0
  obtain ⟨n, e1, _, w1⟩ := DataW.trod_int Tryd.underlying3 h1
  obtain ⟨s, e2, _, w2⟩ := DataW.trod_string Tryd.underlying9 h2
  simp at e0 e1 e2
  subst e0 e1 e2
  exact ⟨k, n, s, rfl, w0, w1, w2⟩
theorem i64_bd {n : Int} (h : (Lit.int .i64 n).wf = true) : -9223372036854775808 ≤ n ∧ n ≤ 9223372036854775807 := by
  simp [Lit.wf, IntKind.min, IntKind.max, IntKind.signed, IntKind.bits] at h
  omega
end Go.Proofs.YteebiklebedneaaDoor
/- How bytes that came in read; bulk. -/
namespace Go.Proofs.YteebiklebedneaaDoor
open Go.ChangeShapes Go.WideShapes Go.ChangeAt Go.RowKit Go.AM
theorem bulk_one {H : Type} (d : DataW H) : 1 ≤ Rows.uptoBulk d := by
  cases d with
  | lit l => cases l <;> simp [Rows.uptoBulk]
  | nil => simp [Rows.uptoBulk]
  | ptr d => simp [Rows.uptoBulk]
  | slice elems spare => simp [Rows.uptoBulk]
  | agg parts => simp [Rows.uptoBulk]
  | iface t d => simp [Rows.uptoBulk]
  | map entries => simp [Rows.uptoBulk]
  | held h => simp [Rows.uptoBulk]
theorem bulk_length {H : Type} : ∀ l : List (DataW H), l.length ≤ Rows.uptoBulkAll l
  | [] => by simp [Rows.uptoBulkAll]
  | x :: r => by have := bulk_one x; have := bulk_length r; simp only [Rows.uptoBulkAll, List.length_cons]; omega
theorem bulk_slice {H : Type} (ds rest : List (DataW H)) : ds.length + 1 ≤ Rows.uptoBulk (.slice ds rest) := by
  have := bulk_length ds
  simp only [Rows.uptoBulk]; omega
theorem bulk_bound {H : Type} {l : List (DataW H)} (hk : Rows.uptoSmall H l = true) : Rows.uptoBulkAll l ≤ 1048576 := of_decide_eq_true hk
theorem bulk_of {H α : Type} {l : List α} {R : α → DataW H → Prop} {d : DataW H} (h : (l = [] ∧ d = .nil) ∨ ∃ ds rest, d = .slice ds rest ∧ ds.length = l.length ∧ ∀ (i : Nat) y, l[i]? = some y → ∃ d, ds[i]? = some d ∧ R y d) : l.length ≤ Rows.uptoBulk d := by
  rcases h with ⟨rfl, _⟩ | ⟨ds, rest, rfl, h, _⟩
  · exact Nat.zero_le _
  · have := bulk_slice ds rest; omega
end Go.Proofs.YteebiklebedneaaDoor
/- How lock states that came in read; what the listed variables hold. -/
namespace Go.Proofs.YteebiklebedneaaDoor
open Go.ChangeShapes Go.WideShapes Go.ChangeAt Go.RowKit Go.AM
theorem cellsLockA : Tryd.prog.cellsOf 82 = 3 := by kernel_rfl
theorem cellsLocksA : Tryd.prog.cellsOf 41 = 2 := by kernel_rfl
set_option maxRecDepth 100000 in
theorem leaf_lockA {H : Type} {E : TypeId × Value → H} {w : World} {base : Nat} {spare : Nat → Bool} {held : Bool} (fuel : Nat) (cs : List Value) (x : DataW H × List MemPlace)
    (h : DataW.trod E Tryd.prog w base spare held fuel 82 cs = some x) : ∃ y : LK, Reps w (zAll w) [] (eK y) cs ∧ (∀ v ∈ cs, v.oneCell' = true) ∧ y.s.size ≤ maxLen := by
  obtain ⟨y0, y1, y2, n, _, hl, h0, h1, h2⟩ := Deep.trod_struct3 Tryd.underlying82 h
  rw [cellsLockA] at hl
  obtain ⟨c0, c1, c2, rfl⟩ : ∃ a b c, cs = [a, b, c] := by
    match cs, hl with
    | [a, b, c], _ => exact ⟨a, b, c, rfl⟩
  obtain ⟨t, e0, _, _⟩ := DataW.trod_int Tryd.underlying3 h0
  obtain ⟨s, e1, _, w1⟩ := DataW.trod_string Tryd.underlying9 h1
  obtain ⟨m, e2, _, _⟩ := DataW.trod_int Tryd.underlying3 h2
  rw [show Tryd.prog.cellsOf 3 = 1 by kernel_rfl] at e0 e2
  rw [show Tryd.prog.cellsOf 9 = 1 by kernel_rfl] at e1
  simp at e0 e1 e2
  subst e0 e1 e2
  exact ⟨⟨t, s, m⟩, .cons (.r _ _) (.cons (.r _ _) (.cons (.r _ _) .nil)), by simp [Value.oneCell'], w1⟩
theorem open_lksA {H : Type} {E : TypeId × Value → H} {w : World} {base : Nat} {spare : Nat → Bool} {held : Bool} {fuel : Nat} {cs : List Value} {x : DataW H × List MemPlace}
    (h : DataW.trod E Tryd.prog w base spare held fuel 39 cs = some x) :
    ∃ (v : Value) (l : List LK), cs = [v] ∧ Rep w (zAll w) [] (.ro true 3 (l.map eK)) v ∧ l.length ≤ Rows.uptoBulk x.1 ∧ ∀ c ∈ l, c.s.size ≤ maxLen := by
  obtain ⟨u, l, h1, h2, _, h3⟩ := open_ro eK (fun y _ => y.s.size ≤ maxLen) true Tryd.underlying39 cellsLockA (by omega) leaf_lockA h
  refine ⟨u, l, h1, h2, bulk_of h3, fun c hc => ?_⟩
  obtain ⟨i, hi⟩ := List.mem_iff_getElem?.1 hc
  rcases h3 with ⟨rfl, _⟩ | ⟨ds, rest, _, _, h6⟩
  · simp at hi
  · exact (h6 i c hi).choose_spec.2
set_option maxRecDepth 100000 in
/-- Lock states that came in. -/
theorem open_locksA {H : Type} {enc : TypeId × Value → H} {w : World} {base : Nat} {spare : Nat → Bool} {held : Bool} {b0 : Nat} {v : Value} {d : DataW H} {p : List MemPlace}
    (hv : Value.okWide Tryd.prog w .any b0 41 v) (h : DataW.Trod enc Tryd.prog w base spare held 41 v d p) :
    ∃ l1 l2 : List LK, Rep w (zAll w) [] (.agg [.ro true 3 (l1.map eK), .ro true 3 (l2.map eK)]) v ∧ (∀ y ∈ l1, y.s.size ≤ maxLen) ∧ (∀ y ∈ l2, y.s.size ≤ maxLen) ∧ l1.length + l2.length ≤ Rows.uptoBulk d := by
  obtain ⟨c0, c1, y0, y1, m, rfl, rfl, _, h0, h1⟩ := Joins.open_agg2 Tryd.underlying41 (by kernel_rfl) cellsLocksA hv h
  obtain ⟨v1, l1, e1, g1, b1, s1⟩ := open_lksA h0
  obtain ⟨v2, l2, e2, g2, b2, s2⟩ := open_lksA h1
  simp at e1 e2
  subst e1 e2
  have hr : Reps w (zAll w) [] [.ro true 3 (l1.map eK), .ro true 3 (l2.map eK)] [c0, c1] := .cons g1 (.cons g2 .nil)
  refine ⟨l1, l2, .agg _ _ _ hr.1 hr.2, s1, s2, ?_⟩
  simp only [Rows.uptoBulk, Rows.uptoBulkAll]
  omega
def GL : List (Nat × List Value) := [(2, fitsV), (1, joinsV)]
theorem tabsGL : TabsL GL := ⟨rfl, rfl⟩
theorem globsL {W : World} (h : laidMetH Tryd.prog [("padlock/lock.fits", Rows.laid_padlock_lock_fits), ("padlock/lock.joins", Rows.laid_padlock_lock_joins)] W) : Globs GL W := by
  obtain ⟨h1, h2⟩ := tabs_both h
  intro g cs hg
  simp only [GL, List.mem_cons, Prod.mk.injEq, List.not_mem_nil, or_false] at hg
  rcases hg with ⟨rfl, rfl⟩ | ⟨rfl, rfl⟩
  · refine ⟨World.block_lt_of_cell? _ _ (h1 0 0 (by omega) (by omega)), fun j u hu => ?_⟩
    have hj : j < 36 := (List.getElem?_eq_some_iff.1 hu).1
    have h3 := h1 (j / 6) (j % 6) (by omega) (by omega)
    have h4 := fitsV_at (i := j / 6) (j := j % 6) (by omega) (by omega)
    rw [show j / 6 * 6 + j % 6 = j by omega] at h3 h4
    rw [h4] at hu
    rw [h3, hu]
  · refine ⟨World.block_lt_of_cell? _ _ (h2 0 0 (by omega) (by omega)), fun j u hu => ?_⟩
    have hj : j < 36 := (List.getElem?_eq_some_iff.1 hu).1
    have h3 := h2 (j / 6) (j % 6) (by omega) (by omega)
    have h4 := joinsV_at (i := j / 6) (j := j % 6) (by omega) (by omega)
    rw [show j / 6 * 6 + j % 6 = j by omega] at h3 h4
    rw [h4] at hu
    rw [h3, hu]
end Go.Proofs.YteebiklebedneaaDoor
