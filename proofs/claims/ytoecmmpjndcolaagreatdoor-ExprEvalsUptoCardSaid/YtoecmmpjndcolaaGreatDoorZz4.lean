/- Texts of the law ExprEvals, part 4: lemmas; what is proved stands in the last text. -/
import Derived.Test.YtoecmmpjndcolaaGreatDoorZz3
import Derived.Handy
import Derived.WalkSpells
import Derived.WalkLawsBesides
import Derived.Deep.Light
import Derived.StillTailTactics
import Derived.Lib.SmallJoins
import Derived.Lib.Bytealg
import Derived.Lib.Hide
set_option linter.unusedSimpArgs false
set_option linter.unusedVariables false
/- Statements: the reference's faults of a new table. -/
namespace Go.AM
open Go Go.RowKit
open Go.Proofs.YtoecmmpjndcolaaGreatDoor (OP nameM litM exprM marksS wordsS StrsAt str SlAt letB wrdB digB bt)
attribute [local irreducible] AWP retA
theorem in_con (G : List (Nat × List Value)) (n a b : Int) : Con Go.Proofs.Tryz.prog G 66 [.r (.int .i64 n), .r (.int .i64 a), .r (.int .i64 b)] [] 0 (Is (.r (.bool (decide (a ≤ n) && decide (n ≤ b)))) [] 0) No :=
  con_of_calls (by kernel_rfl) (fun w z vs hz hr hG => by
    obtain ⟨v1, r, rfl, h1, h2⟩ := hr.head
    obtain ⟨v2, r, rfl, h3, h4⟩ := h2.head
    obtain ⟨v3, r, rfl, h5, h6⟩ := h4.head
    obtain rfl := h1.r_inv
    obtain rfl := h3.r_inv
    obtain rfl := h5.r_inv
    obtain rfl := h6.of_nil
    exact (Go.Proofs.YtoecmmpjndcolaaGreatDoor.in_any n a b w).mono (fun e w' ⟨he, hw⟩ => by subst hw; exact ⟨he, Below.refl _ _⟩))
theorem in_yes {n a b : Int} (h : a ≤ n) (h' : n ≤ b) : (decide (a ≤ n) && decide (n ≤ b)) = true := by simp [h, h']
theorem in_no {n a b : Int} (h : n < a ∨ b < n) : (decide (a ≤ n) && decide (n ≤ b)) = false := by simp; omega
set_option maxRecDepth 100000 in
set_option maxHeartbeats 8000000 in
theorem parts1_con (G : List (Nat × List Value)) (s : ST) (hk : s.k = 1) (hl : s.cols.length ≤ 1048576) (hs : ∀ c ∈ s.cols, okS c.nm) : Con Go.Proofs.Tryz.prog G 77 [.agg (eST s)] [] 0 (Is (.r (.int .i64 (colsM s.cols))) [] 0) No := by
  refine con_of_awp Go.Proofs.Tryz.func77 rfl (by kernel_rfl) (of_decide_eq_true (by kernel_rfl)) ?_; intro E hG hE; subst hG; simp only [ent]
  have ic := in_con E.G s.cols.length 1 6
  by_cases h6 : s.cols.length < 1 ∨ 6 < s.cols.length
  · rw [in_no (by omega)] at ic
    (repeat' (first | refine awp_seq ?_ | refine awp_block ?_ | refine awp_skip ?_ | refine awp_exit ?_ | ((first | refine rR (fun K kp hK hkp => ?_) | refine rD (id := 14) mixed 13 [0,1,2,3,4,5,6,7,8,9,10,11,12] (fun K kp hK hkp => ?_) | refine cR ic ?_ | refine cD ic ?_ | refine iG ?_ | refine iD ?_); simp (implicitDefEqProofs := false) (maxSteps := 2000000) (disch := omega) only [go_sem, eST, hk]; (repeat' (first | (refine hK _ ?_; clear hK hkp kp K) | (with_reducible refine And.intro ?_ ?_) | omega))) | ((first | refine aG (fun h => ?_) (fun h => ?_) | refine aD (fun h => ?_) (fun h => ?_) | refine aX (fun h => ?_) (fun h => ?_)) <;> simp only [h]) | refine awp_cond_t rfl ?_ | refine awp_cond_f rfl ?_ | ((refine awp_cond rfl (fun h => ?_) (fun h => ?_) <;> try simp only [ifs] at h) <;> (try (exfalso; omega))) | refine awp_ret ?_))
    have hM : colsM s.cols = 1 := by rw [colsM, if_pos h6]
    rw [hM]
    (refine retA_is (by (simp (implicitDefEqProofs := false) (maxSteps := 2000000) (disch := omega) only [go_sem, Go.Proofs.Tryz.results77]); rfl) ?_; refine eN hE ?_; simp [oneA, ren, renL])
  rw [in_yes (by omega) (by omega)] at ic
  have hM : colsM s.cols = colsFrom [] s.cols := by rw [colsM, if_neg (by omega)]
  rw [hM]
  (repeat' (first | refine awp_seq ?_ | refine awp_block ?_ | refine awp_skip ?_ | refine awp_exit ?_ | ((first | refine rR (fun K kp hK hkp => ?_) | refine rD (id := 14) mixed 13 [0,1,2,3,4,5,6,7,8,9,10,11,12] (fun K kp hK hkp => ?_) | refine cR ic ?_ | refine cD ic ?_ | refine iG ?_ | refine iD ?_); simp (implicitDefEqProofs := false) (maxSteps := 2000000) (disch := omega) only [go_sem, eST, hk]; (repeat' (first | (refine hK _ ?_; clear hK hkp kp K) | (with_reducible refine And.intro ?_ ?_) | omega))) | ((first | refine aG (fun h => ?_) (fun h => ?_) | refine aD (fun h => ?_) (fun h => ?_) | refine aX (fun h => ?_) (fun h => ?_)) <;> simp only [h]) | refine awp_cond_t rfl ?_ | refine awp_cond_f rfl ?_ | ((refine awp_cond rfl (fun h => ?_) (fun h => ?_) <;> try simp only [ifs] at h) <;> (try (exfalso; omega))) | refine awp_ret ?_))
  refine awp_loop (fun k : Nat => ⟨[(3, .r (.int .i64 k)), (1, .p 0 0 0), (13, .r (.int .i64 1))], [(0, .box 71 (eST s))], 1⟩) (fun k => k ≤ s.cols.length ∧ colsFrom (s.cols.take k) (s.cols.drop k) = colsFrom [] s.cols) (fun k => s.cols.length - k) 0 ?_ ?_ ?_
  · simp
  · (refine emb [0] ?_ ?_ rfl ?_ ?_ ?_ ?_ <;> simp [okM, okO, lk, ren, renL, renNd, by_, hE, eST, hk] <;> (try omega))
  intro k ⟨hkl, hno⟩
  by_cases hlt : k < s.cols.length
  · obtain ⟨c, hx⟩ : ∃ x, s.cols[k]? = some x := ⟨s.cols[k], by simp [hlt]⟩
    rw [colsFrom_step hx] at hno
    have nc := nameFault_con E.G c.nm (hs c (List.mem_of_getElem? hx))
    by_cases hn : nameM c.nm = 0
    · rw [if_neg (by simpa using hn)] at hno
      rw [hn] at nc
      have jc := in_con E.G c.k 1 3
      by_cases hck : c.k < 1 ∨ 3 < c.k
      · rw [if_pos hck] at hno
        rw [in_no (by omega)] at jc
        (repeat' (first | refine awp_seq ?_ | refine awp_block ?_ | refine awp_skip ?_ | refine awp_exit ?_ | ((first | refine rR (fun K kp hK hkp => ?_) | refine rD (id := 14) mixed 13 [0,1,2,3,4,5,6,7,8,9,10,11,12] (fun K kp hK hkp => ?_) | refine cR nc ?_ | refine cD nc ?_ | refine cR jc ?_ | refine cD jc ?_ | refine iG ?_ | refine iD ?_); simp (implicitDefEqProofs := false) (maxSteps := 2000000) (disch := omega) only [go_sem, eST, hx, eC]; (repeat' (first | (refine hK _ ?_; clear hK hkp kp K) | (with_reducible refine And.intro ?_ ?_) | omega))) | ((first | refine aG (fun h => ?_) (fun h => ?_) | refine aD (fun h => ?_) (fun h => ?_) | refine aX (fun h => ?_) (fun h => ?_)) <;> simp only [h]) | refine awp_cond_t rfl ?_ | refine awp_cond_f rfl ?_ | ((refine awp_cond rfl (fun h => ?_) (fun h => ?_) <;> try simp only [ifs] at h) <;> (try (exfalso; omega))) | refine awp_ret ?_))
        have hb0 : ((2 : Int) == 0) = false := by decide
        have hb1 : ((2 : Int) != 0) = true := by decide
        refine awp_loop (fun _ : Unit => ⟨[(5, .r (.int .i64 0)), (4, .r (.int .i64 (2 : Int))), (3, .r (.int .i64 k)), (1, .p 0 0 0), (13, .r (.int .i64 1))], [(0, .box 71 (eST s))], 1⟩) (fun _ => True) (fun _ => 0) () trivial ?_ ?_
        · (refine emb [0] ?_ ?_ rfl ?_ ?_ ?_ ?_ <;> simp [okM, okO, lk, ren, renL, renNd, by_, hE, eST] <;> (try omega))
        rintro ⟨⟩ _
        by_cases hk0 : 0 < k
        · have d2 : decide ((0 : Int) < (k : Int)) = true := decide_eq_true (by omega)
          (repeat' (first | refine awp_seq ?_ | refine awp_block ?_ | refine awp_skip ?_ | refine awp_exit ?_ | ((first | refine rR (fun K kp hK hkp => ?_) | refine rD (id := 14) mixed 13 [0,1,2,3,4,5,6,7,8,9,10,11,12] (fun K kp hK hkp => ?_) | refine iG ?_ | refine iD ?_); simp (implicitDefEqProofs := false) (maxSteps := 2000000) (disch := omega) only [go_sem, eST, d2, hb0, hb1]; (repeat' (first | (refine hK _ ?_; clear hK hkp kp K) | (with_reducible refine And.intro ?_ ?_) | omega))) | ((first | refine aG (fun h => ?_) (fun h => ?_) | refine aD (fun h => ?_) (fun h => ?_) | refine aX (fun h => ?_) (fun h => ?_)) <;> simp only [h]) | refine awp_cond_t rfl ?_ | refine awp_cond_f rfl ?_ | ((refine awp_cond rfl (fun h => ?_) (fun h => ?_) <;> try simp only [ifs] at h) <;> (try (exfalso; omega))) | refine awp_ret ?_))
          (refine retA_is (by (simp (implicitDefEqProofs := false) (maxSteps := 2000000) (disch := omega) only [go_sem, Go.Proofs.Tryz.results77, hno]); rfl) ?_; refine eN hE ?_; simp [oneA, ren, renL, hno])
        · have d2 : decide ((0 : Int) < (k : Int)) = false := decide_eq_false (by omega)
          (repeat' (first | refine awp_seq ?_ | refine awp_block ?_ | refine awp_skip ?_ | refine awp_exit ?_ | ((first | refine rR (fun K kp hK hkp => ?_) | refine rD (id := 14) mixed 13 [0,1,2,3,4,5,6,7,8,9,10,11,12] (fun K kp hK hkp => ?_) | refine iG ?_ | refine iD ?_); simp (implicitDefEqProofs := false) (maxSteps := 2000000) (disch := omega) only [go_sem, eST, d2, hb0, hb1]; (repeat' (first | (refine hK _ ?_; clear hK hkp kp K) | (with_reducible refine And.intro ?_ ?_) | omega))) | ((first | refine aG (fun h => ?_) (fun h => ?_) | refine aD (fun h => ?_) (fun h => ?_) | refine aX (fun h => ?_) (fun h => ?_)) <;> simp only [h]) | refine awp_cond_t rfl ?_ | refine awp_cond_f rfl ?_ | ((refine awp_cond rfl (fun h => ?_) (fun h => ?_) <;> try simp only [ifs] at h) <;> (try (exfalso; omega))) | refine awp_ret ?_))
          (refine retA_is (by (simp (implicitDefEqProofs := false) (maxSteps := 2000000) (disch := omega) only [go_sem, Go.Proofs.Tryz.results77, hno]); rfl) ?_; refine eN hE ?_; simp [oneA, ren, renL, hno])
      · rw [if_neg hck] at hno
        rw [in_yes (by omega) (by omega)] at jc
        (repeat' (first | refine awp_seq ?_ | refine awp_block ?_ | refine awp_skip ?_ | refine awp_exit ?_ | ((first | refine rR (fun K kp hK hkp => ?_) | refine rD (id := 14) mixed 13 [0,1,2,3,4,5,6,7,8,9,10,11,12] (fun K kp hK hkp => ?_) | refine cR nc ?_ | refine cD nc ?_ | refine cR jc ?_ | refine cD jc ?_ | refine iG ?_ | refine iD ?_); simp (implicitDefEqProofs := false) (maxSteps := 2000000) (disch := omega) only [go_sem, eST, hx, eC]; (repeat' (first | (refine hK _ ?_; clear hK hkp kp K) | (with_reducible refine And.intro ?_ ?_) | omega))) | ((first | refine aG (fun h => ?_) (fun h => ?_) | refine aD (fun h => ?_) (fun h => ?_) | refine aX (fun h => ?_) (fun h => ?_)) <;> simp only [h]) | refine awp_cond_t rfl ?_ | refine awp_cond_f rfl ?_ | ((refine awp_cond rfl (fun h => ?_) (fun h => ?_) <;> try simp only [ifs] at h) <;> (try (exfalso; omega))) | refine awp_ret ?_))
        refine awp_loop (fun q : Nat × Bool => ⟨[(5, .r (.int .i64 q.1)), (4, .r (.int .i64 (if q.2 = true then 9 else 0))), (3, .r (.int .i64 k)), (1, .p 0 0 0), (13, .r (.int .i64 1))], [(0, .box 71 (eST s))], 1⟩)
          (fun q => q.1 ≤ k ∧ q.2 = (s.cols.take q.1).any (sameN c)) (fun q => k - q.1) (0, false) ?_ ?_ ?_
        · simp
        · (refine emb [0] ?_ ?_ rfl ?_ ?_ ?_ ?_ <;> simp [okM, okO, lk, ren, renL, renNd, by_, hE, eST] <;> (try omega))
        rintro ⟨j, f⟩ ⟨hj, hf⟩
        simp only at hj hf ⊢
        cases f
        · by_cases hjk : j < k
          · obtain ⟨x, hxj⟩ : ∃ x, s.cols[j]? = some x := ⟨s.cols[j]'(by omega), by simp⟩
            have d2 : decide ((j : Int) < (k : Int)) = true := decide_eq_true (by omega)
            have ha : (s.cols.take (j + 1)).any (sameN c) = sameN c x := by rw [List.take_add_one, hxj, List.any_append, ← hf]; simp
            cases hsm : (x.nm.toList == c.nm.toList)
            · (repeat' (first | refine awp_seq ?_ | refine awp_block ?_ | refine awp_skip ?_ | refine awp_exit ?_ | ((first | refine rR (fun K kp hK hkp => ?_) | refine rD (id := 14) mixed 13 [0,1,2,3,4,5,6,7,8,9,10,11,12] (fun K kp hK hkp => ?_) | refine iG ?_ | refine iD ?_); simp (implicitDefEqProofs := false) (maxSteps := 2000000) (disch := omega) only [go_sem, eST, hx, hxj, eC, d2, hsm]; (repeat' (first | (refine hK _ ?_; clear hK hkp kp K) | (with_reducible refine And.intro ?_ ?_) | omega))) | ((first | refine aG (fun h => ?_) (fun h => ?_) | refine aD (fun h => ?_) (fun h => ?_) | refine aX (fun h => ?_) (fun h => ?_)) <;> simp only [h]) | refine awp_cond_t rfl ?_ | refine awp_cond_f rfl ?_ | ((refine awp_cond rfl (fun h => ?_) (fun h => ?_) <;> try simp only [ifs] at h) <;> (try (exfalso; omega))) | refine awp_ret ?_))
              ((first | (refine nextB ((j + 1, false)) ?_ ?_ ?_) | (refine nextA ((j + 1, false)) ?_ ?_ ?_)); rotate_left; (· (try dsimp only); (first | omega | (simp only [List.length_drop, List.length_cons, List.length_append]; omega) | (simp; done) | (simp; omega))); (· (refine emb [0] ?_ ?_ rfl ?_ ?_ ?_ ?_ <;> simp [okM, okO, lk, ren, renL, renNd, by_, hE, eST] <;> (try omega))))
              exact ⟨by omega, by rw [ha]; exact hsm.symm⟩
            · (repeat' (first | refine awp_seq ?_ | refine awp_block ?_ | refine awp_skip ?_ | refine awp_exit ?_ | ((first | refine rR (fun K kp hK hkp => ?_) | refine rD (id := 14) mixed 13 [0,1,2,3,4,5,6,7,8,9,10,11,12] (fun K kp hK hkp => ?_) | refine iG ?_ | refine iD ?_); simp (implicitDefEqProofs := false) (maxSteps := 2000000) (disch := omega) only [go_sem, eST, hx, hxj, eC, d2, hsm]; (repeat' (first | (refine hK _ ?_; clear hK hkp kp K) | (with_reducible refine And.intro ?_ ?_) | omega))) | ((first | refine aG (fun h => ?_) (fun h => ?_) | refine aD (fun h => ?_) (fun h => ?_) | refine aX (fun h => ?_) (fun h => ?_)) <;> simp only [h]) | refine awp_cond_t rfl ?_ | refine awp_cond_f rfl ?_ | ((refine awp_cond rfl (fun h => ?_) (fun h => ?_) <;> try simp only [ifs] at h) <;> (try (exfalso; omega))) | refine awp_ret ?_))
              ((first | (refine nextB ((j + 1, true)) ?_ ?_ ?_) | (refine nextA ((j + 1, true)) ?_ ?_ ?_)); rotate_left; (· (try dsimp only); (first | omega | (simp only [List.length_drop, List.length_cons, List.length_append]; omega) | (simp; done) | (simp; omega))); (· (refine emb [0] ?_ ?_ rfl ?_ ?_ ?_ ?_ <;> simp [okM, okO, lk, ren, renL, renNd, by_, hE, eST] <;> (try omega))))
              exact ⟨by omega, by rw [ha]; exact hsm.symm⟩
          · obtain rfl : j = k := by omega
            have d2 : decide ((j : Int) < (j : Int)) = false := decide_eq_false (by omega)
            (repeat' (first | refine awp_seq ?_ | refine awp_block ?_ | refine awp_skip ?_ | refine awp_exit ?_ | ((first | refine rR (fun K kp hK hkp => ?_) | refine rD (id := 14) mixed 13 [0,1,2,3,4,5,6,7,8,9,10,11,12] (fun K kp hK hkp => ?_) | refine iG ?_ | refine iD ?_); simp (implicitDefEqProofs := false) (maxSteps := 2000000) (disch := omega) only [go_sem, eST, d2]; (repeat' (first | (refine hK _ ?_; clear hK hkp kp K) | (with_reducible refine And.intro ?_ ?_) | omega))) | ((first | refine aG (fun h => ?_) (fun h => ?_) | refine aD (fun h => ?_) (fun h => ?_) | refine aX (fun h => ?_) (fun h => ?_)) <;> simp only [h]) | refine awp_cond_t rfl ?_ | refine awp_cond_f rfl ?_ | ((refine awp_cond rfl (fun h => ?_) (fun h => ?_) <;> try simp only [ifs] at h) <;> (try (exfalso; omega))) | refine awp_ret ?_))
            ((first | (refine nextB (j + 1) ?_ ?_ ?_) | (refine nextA (j + 1) ?_ ?_ ?_)); rotate_left; (· (try dsimp only); (first | omega | (simp only [List.length_drop, List.length_cons, List.length_append]; omega) | (simp; done) | (simp; omega))); (· (refine emb [0] ?_ ?_ rfl ?_ ?_ ?_ ?_ <;> simp [okM, okO, lk, ren, renL, renNd, by_, hE, eST] <;> (try omega))))
            exact ⟨by omega, by rw [← hno, ← hf]; rfl⟩
        · have hno9 : 9 = colsFrom [] s.cols := by
            rw [← hno, if_pos]
            have h1 : s.cols.take j = (s.cols.take k).take j := by rw [List.take_take, Nat.min_eq_left hj]
            rw [h1] at hf
            obtain ⟨y, hy, hp⟩ := List.any_eq_true.1 hf.symm
            exact List.any_eq_true.2 ⟨y, List.mem_of_mem_take hy, hp⟩
          by_cases hjk : j < k
          · have d2 : decide ((j : Int) < (k : Int)) = true := decide_eq_true (by omega)
            (repeat' (first | refine awp_seq ?_ | refine awp_block ?_ | refine awp_skip ?_ | refine awp_exit ?_ | ((first | refine rR (fun K kp hK hkp => ?_) | refine rD (id := 14) mixed 13 [0,1,2,3,4,5,6,7,8,9,10,11,12] (fun K kp hK hkp => ?_) | refine iG ?_ | refine iD ?_); simp (implicitDefEqProofs := false) (maxSteps := 2000000) (disch := omega) only [go_sem, eST, d2]; (repeat' (first | (refine hK _ ?_; clear hK hkp kp K) | (with_reducible refine And.intro ?_ ?_) | omega))) | ((first | refine aG (fun h => ?_) (fun h => ?_) | refine aD (fun h => ?_) (fun h => ?_) | refine aX (fun h => ?_) (fun h => ?_)) <;> simp only [h]) | refine awp_cond_t rfl ?_ | refine awp_cond_f rfl ?_ | ((refine awp_cond rfl (fun h => ?_) (fun h => ?_) <;> try simp only [ifs] at h) <;> (try (exfalso; omega))) | refine awp_ret ?_))
            (refine retA_is (by (simp (implicitDefEqProofs := false) (maxSteps := 2000000) (disch := omega) only [go_sem, Go.Proofs.Tryz.results77, ← hno9]); rfl) ?_; refine eN hE ?_; simp [oneA, ren, renL, ← hno9])
          · have d2 : decide ((j : Int) < (k : Int)) = false := decide_eq_false (by omega)
            (repeat' (first | refine awp_seq ?_ | refine awp_block ?_ | refine awp_skip ?_ | refine awp_exit ?_ | ((first | refine rR (fun K kp hK hkp => ?_) | refine rD (id := 14) mixed 13 [0,1,2,3,4,5,6,7,8,9,10,11,12] (fun K kp hK hkp => ?_) | refine iG ?_ | refine iD ?_); simp (implicitDefEqProofs := false) (maxSteps := 2000000) (disch := omega) only [go_sem, eST, d2]; (repeat' (first | (refine hK _ ?_; clear hK hkp kp K) | (with_reducible refine And.intro ?_ ?_) | omega))) | ((first | refine aG (fun h => ?_) (fun h => ?_) | refine aD (fun h => ?_) (fun h => ?_) | refine aX (fun h => ?_) (fun h => ?_)) <;> simp only [h]) | refine awp_cond_t rfl ?_ | refine awp_cond_f rfl ?_ | ((refine awp_cond rfl (fun h => ?_) (fun h => ?_) <;> try simp only [ifs] at h) <;> (try (exfalso; omega))) | refine awp_ret ?_))
            (refine retA_is (by (simp (implicitDefEqProofs := false) (maxSteps := 2000000) (disch := omega) only [go_sem, Go.Proofs.Tryz.results77, ← hno9]); rfl) ?_; refine eN hE ?_; simp [oneA, ren, renL, ← hno9])
    · rw [if_pos hn] at hno
      have b1 : (nameM c.nm == 0) = false := by simpa using hn
      (repeat' (first | refine awp_seq ?_ | refine awp_block ?_ | refine awp_skip ?_ | refine awp_exit ?_ | ((first | refine rR (fun K kp hK hkp => ?_) | refine rD (id := 14) mixed 13 [0,1,2,3,4,5,6,7,8,9,10,11,12] (fun K kp hK hkp => ?_) | refine cR nc ?_ | refine cD nc ?_ | refine iG ?_ | refine iD ?_); simp (implicitDefEqProofs := false) (maxSteps := 2000000) (disch := omega) only [go_sem, eST, hx, eC, b1]; (repeat' (first | (refine hK _ ?_; clear hK hkp kp K) | (with_reducible refine And.intro ?_ ?_) | omega))) | ((first | refine aG (fun h => ?_) (fun h => ?_) | refine aD (fun h => ?_) (fun h => ?_) | refine aX (fun h => ?_) (fun h => ?_)) <;> simp only [h]) | refine awp_cond_t rfl ?_ | refine awp_cond_f rfl ?_ | ((refine awp_cond rfl (fun h => ?_) (fun h => ?_) <;> try simp only [ifs] at h) <;> (try (exfalso; omega))) | refine awp_ret ?_))
      have hb0 : (nameM c.nm == 0) = false := by simpa using hn
      have hb1 : (nameM c.nm != 0) = true := by simpa using hn
      refine awp_loop (fun _ : Unit => ⟨[(5, .r (.int .i64 0)), (4, .r (.int .i64 (nameM c.nm))), (3, .r (.int .i64 k)), (1, .p 0 0 0), (13, .r (.int .i64 1))], [(0, .box 71 (eST s))], 1⟩) (fun _ => True) (fun _ => 0) () trivial ?_ ?_
      · (refine emb [0] ?_ ?_ rfl ?_ ?_ ?_ ?_ <;> simp [okM, okO, lk, ren, renL, renNd, by_, hE, eST] <;> (try omega))
      rintro ⟨⟩ _
      by_cases hk0 : 0 < k
      · have d2 : decide ((0 : Int) < (k : Int)) = true := decide_eq_true (by omega)
        (repeat' (first | refine awp_seq ?_ | refine awp_block ?_ | refine awp_skip ?_ | refine awp_exit ?_ | ((first | refine rR (fun K kp hK hkp => ?_) | refine rD (id := 14) mixed 13 [0,1,2,3,4,5,6,7,8,9,10,11,12] (fun K kp hK hkp => ?_) | refine iG ?_ | refine iD ?_); simp (implicitDefEqProofs := false) (maxSteps := 2000000) (disch := omega) only [go_sem, eST, d2, hb0, hb1]; (repeat' (first | (refine hK _ ?_; clear hK hkp kp K) | (with_reducible refine And.intro ?_ ?_) | omega))) | ((first | refine aG (fun h => ?_) (fun h => ?_) | refine aD (fun h => ?_) (fun h => ?_) | refine aX (fun h => ?_) (fun h => ?_)) <;> simp only [h]) | refine awp_cond_t rfl ?_ | refine awp_cond_f rfl ?_ | ((refine awp_cond rfl (fun h => ?_) (fun h => ?_) <;> try simp only [ifs] at h) <;> (try (exfalso; omega))) | refine awp_ret ?_))
        (refine retA_is (by (simp (implicitDefEqProofs := false) (maxSteps := 2000000) (disch := omega) only [go_sem, Go.Proofs.Tryz.results77, hno]); rfl) ?_; refine eN hE ?_; simp [oneA, ren, renL, hno])
      · have d2 : decide ((0 : Int) < (k : Int)) = false := decide_eq_false (by omega)
        (repeat' (first | refine awp_seq ?_ | refine awp_block ?_ | refine awp_skip ?_ | refine awp_exit ?_ | ((first | refine rR (fun K kp hK hkp => ?_) | refine rD (id := 14) mixed 13 [0,1,2,3,4,5,6,7,8,9,10,11,12] (fun K kp hK hkp => ?_) | refine iG ?_ | refine iD ?_); simp (implicitDefEqProofs := false) (maxSteps := 2000000) (disch := omega) only [go_sem, eST, d2, hb0, hb1]; (repeat' (first | (refine hK _ ?_; clear hK hkp kp K) | (with_reducible refine And.intro ?_ ?_) | omega))) | ((first | refine aG (fun h => ?_) (fun h => ?_) | refine aD (fun h => ?_) (fun h => ?_) | refine aX (fun h => ?_) (fun h => ?_)) <;> simp only [h]) | refine awp_cond_t rfl ?_ | refine awp_cond_f rfl ?_ | ((refine awp_cond rfl (fun h => ?_) (fun h => ?_) <;> try simp only [ifs] at h) <;> (try (exfalso; omega))) | refine awp_ret ?_))
        (refine retA_is (by (simp (implicitDefEqProofs := false) (maxSteps := 2000000) (disch := omega) only [go_sem, Go.Proofs.Tryz.results77, hno]); rfl) ?_; refine eN hE ?_; simp [oneA, ren, renL, hno])
  · have d1 : decide ((k : Int) < (s.cols.length : Int)) = false := decide_eq_false (by omega)
    (repeat' (first | refine awp_seq ?_ | refine awp_block ?_ | refine awp_skip ?_ | refine awp_exit ?_ | ((first | refine rR (fun K kp hK hkp => ?_) | refine rD (id := 14) mixed 13 [0,1,2,3,4,5,6,7,8,9,10,11,12] (fun K kp hK hkp => ?_) | refine iG ?_ | refine iD ?_); simp (implicitDefEqProofs := false) (maxSteps := 2000000) (disch := omega) only [go_sem, eST, d1]; (repeat' (first | (refine hK _ ?_; clear hK hkp kp K) | (with_reducible refine And.intro ?_ ?_) | omega))) | ((first | refine aG (fun h => ?_) (fun h => ?_) | refine aD (fun h => ?_) (fun h => ?_) | refine aX (fun h => ?_) (fun h => ?_)) <;> simp only [h]) | refine awp_cond_t rfl ?_ | refine awp_cond_f rfl ?_ | ((refine awp_cond rfl (fun h => ?_) (fun h => ?_) <;> try simp only [ifs] at h) <;> (try (exfalso; omega))) | refine awp_ret ?_))
    (refine retA_is (by (simp (implicitDefEqProofs := false) (maxSteps := 2000000) (disch := omega) only [go_sem, Go.Proofs.Tryz.results77]); rfl) ?_; refine eN hE ?_; simp [oneA, ren, renL])
    rw [← hno, List.drop_of_length_le (by omega)]; rfl
end Go.AM
/- Statements: names that may be; columns that may be. -/
namespace Go.AM
open Go Go.RowKit
open Go.Proofs.YtoecmmpjndcolaaGreatDoor (OP nameM litM exprM marksS wordsS StrsAt str SlAt letB wrdB digB bt tokM wordS hasS spanM)
theorem good_of_name {s : ByteArray} (h : nameM s = 0) : goodN s := by
  obtain ⟨l, rfl⟩ : ∃ l, s = str l := ⟨_, Go.Proofs.YtoecmmpjndcolaaGreatDoor.eq_str s⟩
  have hsz : (str l).size = l.length := str_size l
  unfold nameM at h
  split at h
  · cases h
  rename_i h8
  split at h
  · cases h
  rename_i h1
  have h2 : wordS (str l) = true := by
    cases hw : wordS (str l) with
    | true => rfl
    | false => exact (h1 (.inl (by simp [tokM, hw]))).elim
  simp only [wordS, Bool.and_eq_true, decide_eq_true_eq] at h2
  obtain ⟨⟨g1, g2⟩, g3⟩ := h2
  have hall := ((Go.Proofs.YtoecmmpjndcolaaGreatDoor.spanM_all wrdB (str l) (str l).size 0 (by omega) (by omega)).1.1 g3)
  refine ⟨by rw [Go.Proofs.YtoecmmpjndcolaaGreatDoor.mk_toList]; omega, ?_, ?_⟩
  · rw [Go.Proofs.YtoecmmpjndcolaaGreatDoor.mk_toList]
    match l, g2 with
    | [], g2 => rw [str_size] at g1; simp at g1
    | c :: r, g2 =>
      rw [Go.Proofs.YtoecmmpjndcolaaGreatDoor.bt_str] at g2
      exact ⟨c, r, rfl, by simpa using g2⟩
  · rw [Go.Proofs.YtoecmmpjndcolaaGreatDoor.mk_toList]
    rintro c hc rfl
    obtain ⟨j, hj⟩ := List.mem_iff_getElem?.1 hc
    have hjl := (List.getElem?_eq_some_iff.1 hj).1
    have := hall j (by omega) (by omega)
    rw [Go.Proofs.YtoecmmpjndcolaaGreatDoor.bt_str, hj] at this
    simp [wrdB, letB, digB] at this
theorem colsFrom_ok : ∀ (l p : List CO), colsFrom p l = 0 → ∀ c ∈ l, goodC c ∧ goodN c.nm
  | [], _, _ => by simp
  | c :: r, p, h => by
    unfold colsFrom at h
    split at h
    · rename_i hn; exact absurd h hn
    rename_i hn
    split at h
    · cases h
    rename_i hk
    split at h
    · cases h
    intro x hx
    rcases List.mem_cons.1 hx with rfl | hx
    · exact ⟨⟨by omega, by omega⟩, good_of_name (by simpa using hn)⟩
    · exact colsFrom_ok r _ h x hx
theorem colsM_ok {l : List CO} (h : colsM l = 0) : 1 ≤ l.length ∧ l.length ≤ 6 ∧ ∀ c ∈ l, goodC c ∧ goodN c.nm := by
  unfold colsM at h
  split at h
  · cases h
  · exact ⟨by omega, by omega, colsFrom_ok l [] h⟩
theorem commas_two : ∀ (l : List CO), (commas (l.map colT)).length ≤ 3 * l.length
  | [] => by simp [commas]
  | [a] => by simp [commas, colT]
  | a :: b :: r => by
    have := commas_two (b :: r)
    simp only [List.map_cons] at this ⊢
    rw [commas_cc]; simp [colT] at this ⊢; omega
/-- The statement that columns are checked by. -/
def s0 (l : List CO) : ST := ⟨1, str [116], l, [], [], false, [], str [], false, -1, str [], []⟩
theorem name_t : nameM (str [116]) = 0 := by
  have h1 : tokM 1 (str [116]) 0 = 0 := by
    have : wordS (str [116]) = true := by decide +kernel
    simp [tokM, this]
  have h2 : hasS wordsS (str [116]) = false := by
    simp only [hasS, wordsS, Go.Proofs.YtoecmmpjndcolaaGreatDoor.wordsL, List.map_cons, List.map_nil, List.any_cons, List.any_nil, Go.Proofs.YtoecmmpjndcolaaGreatDoor.mk_toList]
    decide +kernel
  rw [nameM, if_neg (by rw [str_size]; simp), if_neg (by rw [h1, h2]; simp)]
theorem create_len {l : List CO} (h : l.length ≤ 6) : (createT (s0 l)).length ≤ 100 := by
  have := commas_two l
  simp [createT, s0, listM]; omega
end Go.AM
/- Statements: what the program checks of them. -/
namespace Go.AM
open Go Go.RowKit
open Go.Proofs.YtoecmmpjndcolaaGreatDoor (OP nameM litM exprM marksS wordsS StrsAt str SlAt)
attribute [local irreducible] AWP retA
def emp (s : ByteArray) : Bool := s.toList == ByteArray.toList ⟨#[]⟩
def hasN (s : ST) : Bool := decide ((s.names.length : Int) > 0)
def pickM (s : ST) : Int :=
  if 6 < s.names.length then 1 else if s.lim < -1 then 3 else if (s.count && hasN s) || (s.down && emp s.ord) then 6
  else if namesM s.names ≠ 0 then namesM s.names else if whereM s.wh ≠ 0 then whereM s.wh else if emp s.ord then 0 else nameM s.ord
/-- What is asked of a statement's texts and lists: what all that come in have. -/
structure okST (s : ST) : Prop where
  tab : okS s.tab
  cols : ∀ c ∈ s.cols, okS c.nm
  row : ∀ v ∈ s.row, okS v.s
  names : ∀ n ∈ s.names, okS n
  wh : ∀ o ∈ s.wh, okO1 o
  ord : okS s.ord
  set : okS s.set
  to : ∀ o ∈ s.to, okO1 o
  lc : s.cols.length ≤ 1048576
  lr : s.row.length ≤ 1048576
  ln : s.names.length ≤ 1048576
  lw : s.wh.length ≤ 1048576
  lt : s.to.length ≤ 1048576

set_option maxRecDepth 100000 in
set_option maxHeartbeats 8000000 in
theorem pick_con {G : List (Nat × List Value)} (T : Tabs G) (s : ST) (o : okST s) : Con Go.Proofs.Tryz.prog G 89 [.agg (eST s)] [] 0 (Is (.r (.int .i64 (pickM s))) [] 0) No := by
  refine con_of_awp Go.Proofs.Tryz.func89 rfl (by kernel_rfl) (of_decide_eq_true (by kernel_rfl)) ?_; intro E hG hE; subst hG; simp only [ent]
  have nc := names_con T true s.names o.ln o.names
  have wc := where_con T true s.wh o.lw o.wh
  have oc := name_con T s.ord o.ord
  by_cases h6 : 6 < s.names.length
  · have d1 : decide ((s.names.length : Int) > 6) = true := decide_eq_true (by omega)
    (repeat' (first | refine awp_seq ?_ | refine awp_block ?_ | refine awp_skip ?_ | refine awp_exit ?_ | ((first | refine rR (fun K kp hK hkp => ?_) | refine iG ?_); simp (implicitDefEqProofs := false) (maxSteps := 2000000) (disch := omega) only [go_sem, eST, d1]; (repeat' (first | (refine hK _ ?_; clear hK hkp kp K) | (with_reducible refine And.intro ?_ ?_) | omega))) | ((first | refine aG (fun h => ?_) (fun h => ?_) | refine aD (fun h => ?_) (fun h => ?_) | refine aX (fun h => ?_) (fun h => ?_)) <;> simp only [h]) | refine awp_cond_t rfl ?_ | refine awp_cond_f rfl ?_ | ((refine awp_cond rfl (fun h => ?_) (fun h => ?_) <;> try simp only [ifs] at h) <;> (try (exfalso; omega))) | refine awp_ret ?_))
    (refine retA_is (by (simp (implicitDefEqProofs := false) (maxSteps := 2000000) (disch := omega) only [go_sem, Go.Proofs.Tryz.results89, pickM, h6]); rfl) ?_; refine eN hE ?_; simp [oneA, ren, renL, pickM, h6])
  have d1 : decide ((s.names.length : Int) > 6) = false := decide_eq_false (by omega)
  by_cases hl : s.lim < -1
  · have d2 : decide (s.lim < -1) = true := decide_eq_true hl
    (repeat' (first | refine awp_seq ?_ | refine awp_block ?_ | refine awp_skip ?_ | refine awp_exit ?_ | ((first | refine rR (fun K kp hK hkp => ?_) | refine iG ?_); simp (implicitDefEqProofs := false) (maxSteps := 2000000) (disch := omega) only [go_sem, eST, d1, d2]; (repeat' (first | (refine hK _ ?_; clear hK hkp kp K) | (with_reducible refine And.intro ?_ ?_) | omega))) | ((first | refine aG (fun h => ?_) (fun h => ?_) | refine aD (fun h => ?_) (fun h => ?_) | refine aX (fun h => ?_) (fun h => ?_)) <;> simp only [h]) | refine awp_cond_t rfl ?_ | refine awp_cond_f rfl ?_ | ((refine awp_cond rfl (fun h => ?_) (fun h => ?_) <;> try simp only [ifs] at h) <;> (try (exfalso; omega))) | refine awp_ret ?_))
    (refine retA_is (by (simp (implicitDefEqProofs := false) (maxSteps := 2000000) (disch := omega) only [go_sem, Go.Proofs.Tryz.results89, pickM, h6, hl]); rfl) ?_; refine eN hE ?_; simp [oneA, ren, renL, pickM, h6, hl])
  have d2 : decide (s.lim < -1) = false := decide_eq_false hl
  cases hc : s.count
  · skip
    cases hd : s.down
    · skip
      by_cases n0 : namesM s.names = 0
      · rw [n0] at nc
        by_cases w0 : whereM s.wh = 0
        · rw [w0] at wc
          cases ho2 : emp s.ord
          · have e2 : (s.ord.toList == ByteArray.toList ⟨#[]⟩) = false := ho2
            (repeat' (first | refine awp_seq ?_ | refine awp_block ?_ | refine awp_skip ?_ | refine awp_exit ?_ | ((first | refine rR (fun K kp hK hkp => ?_) | refine cR nc ?_ | refine cR wc ?_ | refine cR oc ?_ | refine iG ?_); simp (implicitDefEqProofs := false) (maxSteps := 2000000) (disch := omega) only [go_sem, eST, d1, d2, hc, hd, e2]; (repeat' (first | (refine hK _ ?_; clear hK hkp kp K) | (with_reducible refine And.intro ?_ ?_) | omega))) | ((first | refine aG (fun h => ?_) (fun h => ?_) | refine aD (fun h => ?_) (fun h => ?_) | refine aX (fun h => ?_) (fun h => ?_)) <;> simp only [h]) | refine awp_cond_t rfl ?_ | refine awp_cond_f rfl ?_ | ((refine awp_cond rfl (fun h => ?_) (fun h => ?_) <;> try simp only [ifs] at h) <;> (try (exfalso; omega))) | refine awp_ret ?_))
            (refine retA_is (by (simp (implicitDefEqProofs := false) (maxSteps := 2000000) (disch := omega) only [go_sem, Go.Proofs.Tryz.results89, pickM, h6, hl, n0, w0, ho2, hc, hd]); rfl) ?_; refine eN hE ?_; simp [oneA, ren, renL, pickM, h6, hl, n0, w0, ho2, hc, hd])
          · have e2 : (s.ord.toList == ByteArray.toList ⟨#[]⟩) = true := ho2
            first
              | (exfalso; simp_all; done)
              | ((repeat' (first | refine awp_seq ?_ | refine awp_block ?_ | refine awp_skip ?_ | refine awp_exit ?_ | ((first | refine rR (fun K kp hK hkp => ?_) | refine cR nc ?_ | refine cR wc ?_ | refine cR oc ?_ | refine iG ?_); simp (implicitDefEqProofs := false) (maxSteps := 2000000) (disch := omega) only [go_sem, eST, d1, d2, hc, hd, e2]; (repeat' (first | (refine hK _ ?_; clear hK hkp kp K) | (with_reducible refine And.intro ?_ ?_) | omega))) | ((first | refine aG (fun h => ?_) (fun h => ?_) | refine aD (fun h => ?_) (fun h => ?_) | refine aX (fun h => ?_) (fun h => ?_)) <;> simp only [h]) | refine awp_cond_t rfl ?_ | refine awp_cond_f rfl ?_ | ((refine awp_cond rfl (fun h => ?_) (fun h => ?_) <;> try simp only [ifs] at h) <;> (try (exfalso; omega))) | refine awp_ret ?_)); (refine retA_is (by (simp (implicitDefEqProofs := false) (maxSteps := 2000000) (disch := omega) only [go_sem, Go.Proofs.Tryz.results89, pickM, h6, hl, n0, w0, ho2, hc, hd]); rfl) ?_; refine eN hE ?_; simp [oneA, ren, renL, pickM, h6, hl, n0, w0, ho2, hc, hd]))
        · have b2 : (whereM s.wh != 0) = true := by simpa using w0
          (repeat' (first | refine awp_seq ?_ | refine awp_block ?_ | refine awp_skip ?_ | refine awp_exit ?_ | ((first | refine rR (fun K kp hK hkp => ?_) | refine cR nc ?_ | refine cR wc ?_ | refine iG ?_); simp (implicitDefEqProofs := false) (maxSteps := 2000000) (disch := omega) only [go_sem, eST, d1, d2, hc, hd, b2]; (repeat' (first | (refine hK _ ?_; clear hK hkp kp K) | (with_reducible refine And.intro ?_ ?_) | omega))) | ((first | refine aG (fun h => ?_) (fun h => ?_) | refine aD (fun h => ?_) (fun h => ?_) | refine aX (fun h => ?_) (fun h => ?_)) <;> simp only [h]) | refine awp_cond_t rfl ?_ | refine awp_cond_f rfl ?_ | ((refine awp_cond rfl (fun h => ?_) (fun h => ?_) <;> try simp only [ifs] at h) <;> (try (exfalso; omega))) | refine awp_ret ?_))
          (refine retA_is (by (simp (implicitDefEqProofs := false) (maxSteps := 2000000) (disch := omega) only [go_sem, Go.Proofs.Tryz.results89, pickM, h6, hl, n0, w0, hc, hd]); rfl) ?_; refine eN hE ?_; simp [oneA, ren, renL, pickM, h6, hl, n0, w0, hc, hd])
      · have b1 : (namesM s.names != 0) = true := by simpa using n0
        (repeat' (first | refine awp_seq ?_ | refine awp_block ?_ | refine awp_skip ?_ | refine awp_exit ?_ | ((first | refine rR (fun K kp hK hkp => ?_) | refine cR nc ?_ | refine iG ?_); simp (implicitDefEqProofs := false) (maxSteps := 2000000) (disch := omega) only [go_sem, eST, d1, d2, hc, hd, b1]; (repeat' (first | (refine hK _ ?_; clear hK hkp kp K) | (with_reducible refine And.intro ?_ ?_) | omega))) | ((first | refine aG (fun h => ?_) (fun h => ?_) | refine aD (fun h => ?_) (fun h => ?_) | refine aX (fun h => ?_) (fun h => ?_)) <;> simp only [h]) | refine awp_cond_t rfl ?_ | refine awp_cond_f rfl ?_ | ((refine awp_cond rfl (fun h => ?_) (fun h => ?_) <;> try simp only [ifs] at h) <;> (try (exfalso; omega))) | refine awp_ret ?_))
        (refine retA_is (by (simp (implicitDefEqProofs := false) (maxSteps := 2000000) (disch := omega) only [go_sem, Go.Proofs.Tryz.results89, pickM, h6, hl, n0, hc, hd]); rfl) ?_; refine eN hE ?_; simp [oneA, ren, renL, pickM, h6, hl, n0, hc, hd])
    cases ho : emp s.ord
    · have eo : (s.ord.toList == ByteArray.toList ⟨#[]⟩) = false := ho
      by_cases n0 : namesM s.names = 0
      · rw [n0] at nc
        by_cases w0 : whereM s.wh = 0
        · rw [w0] at wc
          cases ho2 : emp s.ord
          · have e2 : (s.ord.toList == ByteArray.toList ⟨#[]⟩) = false := ho2
            (repeat' (first | refine awp_seq ?_ | refine awp_block ?_ | refine awp_skip ?_ | refine awp_exit ?_ | ((first | refine rR (fun K kp hK hkp => ?_) | refine cR nc ?_ | refine cR wc ?_ | refine cR oc ?_ | refine iG ?_); simp (implicitDefEqProofs := false) (maxSteps := 2000000) (disch := omega) only [go_sem, eST, d1, d2, hc, hd, eo, e2]; (repeat' (first | (refine hK _ ?_; clear hK hkp kp K) | (with_reducible refine And.intro ?_ ?_) | omega))) | ((first | refine aG (fun h => ?_) (fun h => ?_) | refine aD (fun h => ?_) (fun h => ?_) | refine aX (fun h => ?_) (fun h => ?_)) <;> simp only [h]) | refine awp_cond_t rfl ?_ | refine awp_cond_f rfl ?_ | ((refine awp_cond rfl (fun h => ?_) (fun h => ?_) <;> try simp only [ifs] at h) <;> (try (exfalso; omega))) | refine awp_ret ?_))
            (refine retA_is (by (simp (implicitDefEqProofs := false) (maxSteps := 2000000) (disch := omega) only [go_sem, Go.Proofs.Tryz.results89, pickM, h6, hl, n0, w0, ho2, hc, hd, ho]); rfl) ?_; refine eN hE ?_; simp [oneA, ren, renL, pickM, h6, hl, n0, w0, ho2, hc, hd, ho])
          · have e2 : (s.ord.toList == ByteArray.toList ⟨#[]⟩) = true := ho2
            first
              | (exfalso; simp_all; done)
              | ((repeat' (first | refine awp_seq ?_ | refine awp_block ?_ | refine awp_skip ?_ | refine awp_exit ?_ | ((first | refine rR (fun K kp hK hkp => ?_) | refine cR nc ?_ | refine cR wc ?_ | refine cR oc ?_ | refine iG ?_); simp (implicitDefEqProofs := false) (maxSteps := 2000000) (disch := omega) only [go_sem, eST, d1, d2, hc, hd, eo, e2]; (repeat' (first | (refine hK _ ?_; clear hK hkp kp K) | (with_reducible refine And.intro ?_ ?_) | omega))) | ((first | refine aG (fun h => ?_) (fun h => ?_) | refine aD (fun h => ?_) (fun h => ?_) | refine aX (fun h => ?_) (fun h => ?_)) <;> simp only [h]) | refine awp_cond_t rfl ?_ | refine awp_cond_f rfl ?_ | ((refine awp_cond rfl (fun h => ?_) (fun h => ?_) <;> try simp only [ifs] at h) <;> (try (exfalso; omega))) | refine awp_ret ?_)); (refine retA_is (by (simp (implicitDefEqProofs := false) (maxSteps := 2000000) (disch := omega) only [go_sem, Go.Proofs.Tryz.results89, pickM, h6, hl, n0, w0, ho2, hc, hd, ho]); rfl) ?_; refine eN hE ?_; simp [oneA, ren, renL, pickM, h6, hl, n0, w0, ho2, hc, hd, ho]))
        · have b2 : (whereM s.wh != 0) = true := by simpa using w0
          (repeat' (first | refine awp_seq ?_ | refine awp_block ?_ | refine awp_skip ?_ | refine awp_exit ?_ | ((first | refine rR (fun K kp hK hkp => ?_) | refine cR nc ?_ | refine cR wc ?_ | refine iG ?_); simp (implicitDefEqProofs := false) (maxSteps := 2000000) (disch := omega) only [go_sem, eST, d1, d2, hc, hd, eo, b2]; (repeat' (first | (refine hK _ ?_; clear hK hkp kp K) | (with_reducible refine And.intro ?_ ?_) | omega))) | ((first | refine aG (fun h => ?_) (fun h => ?_) | refine aD (fun h => ?_) (fun h => ?_) | refine aX (fun h => ?_) (fun h => ?_)) <;> simp only [h]) | refine awp_cond_t rfl ?_ | refine awp_cond_f rfl ?_ | ((refine awp_cond rfl (fun h => ?_) (fun h => ?_) <;> try simp only [ifs] at h) <;> (try (exfalso; omega))) | refine awp_ret ?_))
          (refine retA_is (by (simp (implicitDefEqProofs := false) (maxSteps := 2000000) (disch := omega) only [go_sem, Go.Proofs.Tryz.results89, pickM, h6, hl, n0, w0, hc, hd, ho]); rfl) ?_; refine eN hE ?_; simp [oneA, ren, renL, pickM, h6, hl, n0, w0, hc, hd, ho])
      · have b1 : (namesM s.names != 0) = true := by simpa using n0
        (repeat' (first | refine awp_seq ?_ | refine awp_block ?_ | refine awp_skip ?_ | refine awp_exit ?_ | ((first | refine rR (fun K kp hK hkp => ?_) | refine cR nc ?_ | refine iG ?_); simp (implicitDefEqProofs := false) (maxSteps := 2000000) (disch := omega) only [go_sem, eST, d1, d2, hc, hd, eo, b1]; (repeat' (first | (refine hK _ ?_; clear hK hkp kp K) | (with_reducible refine And.intro ?_ ?_) | omega))) | ((first | refine aG (fun h => ?_) (fun h => ?_) | refine aD (fun h => ?_) (fun h => ?_) | refine aX (fun h => ?_) (fun h => ?_)) <;> simp only [h]) | refine awp_cond_t rfl ?_ | refine awp_cond_f rfl ?_ | ((refine awp_cond rfl (fun h => ?_) (fun h => ?_) <;> try simp only [ifs] at h) <;> (try (exfalso; omega))) | refine awp_ret ?_))
        (refine retA_is (by (simp (implicitDefEqProofs := false) (maxSteps := 2000000) (disch := omega) only [go_sem, Go.Proofs.Tryz.results89, pickM, h6, hl, n0, hc, hd, ho]); rfl) ?_; refine eN hE ?_; simp [oneA, ren, renL, pickM, h6, hl, n0, hc, hd, ho])
    · have eo : (s.ord.toList == ByteArray.toList ⟨#[]⟩) = true := ho
      (repeat' (first | refine awp_seq ?_ | refine awp_block ?_ | refine awp_skip ?_ | refine awp_exit ?_ | ((first | refine rR (fun K kp hK hkp => ?_) | refine iG ?_); simp (implicitDefEqProofs := false) (maxSteps := 2000000) (disch := omega) only [go_sem, eST, d1, d2, hc, hd, eo]; (repeat' (first | (refine hK _ ?_; clear hK hkp kp K) | (with_reducible refine And.intro ?_ ?_) | omega))) | ((first | refine aG (fun h => ?_) (fun h => ?_) | refine aD (fun h => ?_) (fun h => ?_) | refine aX (fun h => ?_) (fun h => ?_)) <;> simp only [h]) | refine awp_cond_t rfl ?_ | refine awp_cond_f rfl ?_ | ((refine awp_cond rfl (fun h => ?_) (fun h => ?_) <;> try simp only [ifs] at h) <;> (try (exfalso; omega))) | refine awp_ret ?_))
      (refine retA_is (by (simp (implicitDefEqProofs := false) (maxSteps := 2000000) (disch := omega) only [go_sem, Go.Proofs.Tryz.results89, pickM, h6, hl, hc, hd, ho]); rfl) ?_; refine eN hE ?_; simp [oneA, ren, renL, pickM, h6, hl, hc, hd, ho])
  cases hn : hasN s
  · have en : decide ((s.names.length : Int) > 0) = false := hn
    cases hd : s.down
    · skip
      by_cases n0 : namesM s.names = 0
      · rw [n0] at nc
        by_cases w0 : whereM s.wh = 0
        · rw [w0] at wc
          cases ho2 : emp s.ord
          · have e2 : (s.ord.toList == ByteArray.toList ⟨#[]⟩) = false := ho2
            (repeat' (first | refine awp_seq ?_ | refine awp_block ?_ | refine awp_skip ?_ | refine awp_exit ?_ | ((first | refine rR (fun K kp hK hkp => ?_) | refine cR nc ?_ | refine cR wc ?_ | refine cR oc ?_ | refine iG ?_); simp (implicitDefEqProofs := false) (maxSteps := 2000000) (disch := omega) only [go_sem, eST, d1, d2, hc, en, hd, e2]; (repeat' (first | (refine hK _ ?_; clear hK hkp kp K) | (with_reducible refine And.intro ?_ ?_) | omega))) | ((first | refine aG (fun h => ?_) (fun h => ?_) | refine aD (fun h => ?_) (fun h => ?_) | refine aX (fun h => ?_) (fun h => ?_)) <;> simp only [h]) | refine awp_cond_t rfl ?_ | refine awp_cond_f rfl ?_ | ((refine awp_cond rfl (fun h => ?_) (fun h => ?_) <;> try simp only [ifs] at h) <;> (try (exfalso; omega))) | refine awp_ret ?_))
            (refine retA_is (by (simp (implicitDefEqProofs := false) (maxSteps := 2000000) (disch := omega) only [go_sem, Go.Proofs.Tryz.results89, pickM, h6, hl, n0, w0, ho2, hc, hn, hd]); rfl) ?_; refine eN hE ?_; simp [oneA, ren, renL, pickM, h6, hl, n0, w0, ho2, hc, hn, hd])
          · have e2 : (s.ord.toList == ByteArray.toList ⟨#[]⟩) = true := ho2
            first
              | (exfalso; simp_all; done)
              | ((repeat' (first | refine awp_seq ?_ | refine awp_block ?_ | refine awp_skip ?_ | refine awp_exit ?_ | ((first | refine rR (fun K kp hK hkp => ?_) | refine cR nc ?_ | refine cR wc ?_ | refine cR oc ?_ | refine iG ?_); simp (implicitDefEqProofs := false) (maxSteps := 2000000) (disch := omega) only [go_sem, eST, d1, d2, hc, en, hd, e2]; (repeat' (first | (refine hK _ ?_; clear hK hkp kp K) | (with_reducible refine And.intro ?_ ?_) | omega))) | ((first | refine aG (fun h => ?_) (fun h => ?_) | refine aD (fun h => ?_) (fun h => ?_) | refine aX (fun h => ?_) (fun h => ?_)) <;> simp only [h]) | refine awp_cond_t rfl ?_ | refine awp_cond_f rfl ?_ | ((refine awp_cond rfl (fun h => ?_) (fun h => ?_) <;> try simp only [ifs] at h) <;> (try (exfalso; omega))) | refine awp_ret ?_)); (refine retA_is (by (simp (implicitDefEqProofs := false) (maxSteps := 2000000) (disch := omega) only [go_sem, Go.Proofs.Tryz.results89, pickM, h6, hl, n0, w0, ho2, hc, hn, hd]); rfl) ?_; refine eN hE ?_; simp [oneA, ren, renL, pickM, h6, hl, n0, w0, ho2, hc, hn, hd]))
        · have b2 : (whereM s.wh != 0) = true := by simpa using w0
          (repeat' (first | refine awp_seq ?_ | refine awp_block ?_ | refine awp_skip ?_ | refine awp_exit ?_ | ((first | refine rR (fun K kp hK hkp => ?_) | refine cR nc ?_ | refine cR wc ?_ | refine iG ?_); simp (implicitDefEqProofs := false) (maxSteps := 2000000) (disch := omega) only [go_sem, eST, d1, d2, hc, en, hd, b2]; (repeat' (first | (refine hK _ ?_; clear hK hkp kp K) | (with_reducible refine And.intro ?_ ?_) | omega))) | ((first | refine aG (fun h => ?_) (fun h => ?_) | refine aD (fun h => ?_) (fun h => ?_) | refine aX (fun h => ?_) (fun h => ?_)) <;> simp only [h]) | refine awp_cond_t rfl ?_ | refine awp_cond_f rfl ?_ | ((refine awp_cond rfl (fun h => ?_) (fun h => ?_) <;> try simp only [ifs] at h) <;> (try (exfalso; omega))) | refine awp_ret ?_))
          (refine retA_is (by (simp (implicitDefEqProofs := false) (maxSteps := 2000000) (disch := omega) only [go_sem, Go.Proofs.Tryz.results89, pickM, h6, hl, n0, w0, hc, hn, hd]); rfl) ?_; refine eN hE ?_; simp [oneA, ren, renL, pickM, h6, hl, n0, w0, hc, hn, hd])
      · have b1 : (namesM s.names != 0) = true := by simpa using n0
        (repeat' (first | refine awp_seq ?_ | refine awp_block ?_ | refine awp_skip ?_ | refine awp_exit ?_ | ((first | refine rR (fun K kp hK hkp => ?_) | refine cR nc ?_ | refine iG ?_); simp (implicitDefEqProofs := false) (maxSteps := 2000000) (disch := omega) only [go_sem, eST, d1, d2, hc, en, hd, b1]; (repeat' (first | (refine hK _ ?_; clear hK hkp kp K) | (with_reducible refine And.intro ?_ ?_) | omega))) | ((first | refine aG (fun h => ?_) (fun h => ?_) | refine aD (fun h => ?_) (fun h => ?_) | refine aX (fun h => ?_) (fun h => ?_)) <;> simp only [h]) | refine awp_cond_t rfl ?_ | refine awp_cond_f rfl ?_ | ((refine awp_cond rfl (fun h => ?_) (fun h => ?_) <;> try simp only [ifs] at h) <;> (try (exfalso; omega))) | refine awp_ret ?_))
        (refine retA_is (by (simp (implicitDefEqProofs := false) (maxSteps := 2000000) (disch := omega) only [go_sem, Go.Proofs.Tryz.results89, pickM, h6, hl, n0, hc, hn, hd]); rfl) ?_; refine eN hE ?_; simp [oneA, ren, renL, pickM, h6, hl, n0, hc, hn, hd])
    cases ho : emp s.ord
    · have eo : (s.ord.toList == ByteArray.toList ⟨#[]⟩) = false := ho
      by_cases n0 : namesM s.names = 0
      · rw [n0] at nc
        by_cases w0 : whereM s.wh = 0
        · rw [w0] at wc
          cases ho2 : emp s.ord
          · have e2 : (s.ord.toList == ByteArray.toList ⟨#[]⟩) = false := ho2
            (repeat' (first | refine awp_seq ?_ | refine awp_block ?_ | refine awp_skip ?_ | refine awp_exit ?_ | ((first | refine rR (fun K kp hK hkp => ?_) | refine cR nc ?_ | refine cR wc ?_ | refine cR oc ?_ | refine iG ?_); simp (implicitDefEqProofs := false) (maxSteps := 2000000) (disch := omega) only [go_sem, eST, d1, d2, hc, en, hd, eo, e2]; (repeat' (first | (refine hK _ ?_; clear hK hkp kp K) | (with_reducible refine And.intro ?_ ?_) | omega))) | ((first | refine aG (fun h => ?_) (fun h => ?_) | refine aD (fun h => ?_) (fun h => ?_) | refine aX (fun h => ?_) (fun h => ?_)) <;> simp only [h]) | refine awp_cond_t rfl ?_ | refine awp_cond_f rfl ?_ | ((refine awp_cond rfl (fun h => ?_) (fun h => ?_) <;> try simp only [ifs] at h) <;> (try (exfalso; omega))) | refine awp_ret ?_))
            (refine retA_is (by (simp (implicitDefEqProofs := false) (maxSteps := 2000000) (disch := omega) only [go_sem, Go.Proofs.Tryz.results89, pickM, h6, hl, n0, w0, ho2, hc, hn, hd, ho]); rfl) ?_; refine eN hE ?_; simp [oneA, ren, renL, pickM, h6, hl, n0, w0, ho2, hc, hn, hd, ho])
          · have e2 : (s.ord.toList == ByteArray.toList ⟨#[]⟩) = true := ho2
            first
              | (exfalso; simp_all; done)
              | ((repeat' (first | refine awp_seq ?_ | refine awp_block ?_ | refine awp_skip ?_ | refine awp_exit ?_ | ((first | refine rR (fun K kp hK hkp => ?_) | refine cR nc ?_ | refine cR wc ?_ | refine cR oc ?_ | refine iG ?_); simp (implicitDefEqProofs := false) (maxSteps := 2000000) (disch := omega) only [go_sem, eST, d1, d2, hc, en, hd, eo, e2]; (repeat' (first | (refine hK _ ?_; clear hK hkp kp K) | (with_reducible refine And.intro ?_ ?_) | omega))) | ((first | refine aG (fun h => ?_) (fun h => ?_) | refine aD (fun h => ?_) (fun h => ?_) | refine aX (fun h => ?_) (fun h => ?_)) <;> simp only [h]) | refine awp_cond_t rfl ?_ | refine awp_cond_f rfl ?_ | ((refine awp_cond rfl (fun h => ?_) (fun h => ?_) <;> try simp only [ifs] at h) <;> (try (exfalso; omega))) | refine awp_ret ?_)); (refine retA_is (by (simp (implicitDefEqProofs := false) (maxSteps := 2000000) (disch := omega) only [go_sem, Go.Proofs.Tryz.results89, pickM, h6, hl, n0, w0, ho2, hc, hn, hd, ho]); rfl) ?_; refine eN hE ?_; simp [oneA, ren, renL, pickM, h6, hl, n0, w0, ho2, hc, hn, hd, ho]))
        · have b2 : (whereM s.wh != 0) = true := by simpa using w0
          (repeat' (first | refine awp_seq ?_ | refine awp_block ?_ | refine awp_skip ?_ | refine awp_exit ?_ | ((first | refine rR (fun K kp hK hkp => ?_) | refine cR nc ?_ | refine cR wc ?_ | refine iG ?_); simp (implicitDefEqProofs := false) (maxSteps := 2000000) (disch := omega) only [go_sem, eST, d1, d2, hc, en, hd, eo, b2]; (repeat' (first | (refine hK _ ?_; clear hK hkp kp K) | (with_reducible refine And.intro ?_ ?_) | omega))) | ((first | refine aG (fun h => ?_) (fun h => ?_) | refine aD (fun h => ?_) (fun h => ?_) | refine aX (fun h => ?_) (fun h => ?_)) <;> simp only [h]) | refine awp_cond_t rfl ?_ | refine awp_cond_f rfl ?_ | ((refine awp_cond rfl (fun h => ?_) (fun h => ?_) <;> try simp only [ifs] at h) <;> (try (exfalso; omega))) | refine awp_ret ?_))
          (refine retA_is (by (simp (implicitDefEqProofs := false) (maxSteps := 2000000) (disch := omega) only [go_sem, Go.Proofs.Tryz.results89, pickM, h6, hl, n0, w0, hc, hn, hd, ho]); rfl) ?_; refine eN hE ?_; simp [oneA, ren, renL, pickM, h6, hl, n0, w0, hc, hn, hd, ho])
      · have b1 : (namesM s.names != 0) = true := by simpa using n0
        (repeat' (first | refine awp_seq ?_ | refine awp_block ?_ | refine awp_skip ?_ | refine awp_exit ?_ | ((first | refine rR (fun K kp hK hkp => ?_) | refine cR nc ?_ | refine iG ?_); simp (implicitDefEqProofs := false) (maxSteps := 2000000) (disch := omega) only [go_sem, eST, d1, d2, hc, en, hd, eo, b1]; (repeat' (first | (refine hK _ ?_; clear hK hkp kp K) | (with_reducible refine And.intro ?_ ?_) | omega))) | ((first | refine aG (fun h => ?_) (fun h => ?_) | refine aD (fun h => ?_) (fun h => ?_) | refine aX (fun h => ?_) (fun h => ?_)) <;> simp only [h]) | refine awp_cond_t rfl ?_ | refine awp_cond_f rfl ?_ | ((refine awp_cond rfl (fun h => ?_) (fun h => ?_) <;> try simp only [ifs] at h) <;> (try (exfalso; omega))) | refine awp_ret ?_))
        (refine retA_is (by (simp (implicitDefEqProofs := false) (maxSteps := 2000000) (disch := omega) only [go_sem, Go.Proofs.Tryz.results89, pickM, h6, hl, n0, hc, hn, hd, ho]); rfl) ?_; refine eN hE ?_; simp [oneA, ren, renL, pickM, h6, hl, n0, hc, hn, hd, ho])
    · have eo : (s.ord.toList == ByteArray.toList ⟨#[]⟩) = true := ho
      (repeat' (first | refine awp_seq ?_ | refine awp_block ?_ | refine awp_skip ?_ | refine awp_exit ?_ | ((first | refine rR (fun K kp hK hkp => ?_) | refine iG ?_); simp (implicitDefEqProofs := false) (maxSteps := 2000000) (disch := omega) only [go_sem, eST, d1, d2, hc, en, hd, eo]; (repeat' (first | (refine hK _ ?_; clear hK hkp kp K) | (with_reducible refine And.intro ?_ ?_) | omega))) | ((first | refine aG (fun h => ?_) (fun h => ?_) | refine aD (fun h => ?_) (fun h => ?_) | refine aX (fun h => ?_) (fun h => ?_)) <;> simp only [h]) | refine awp_cond_t rfl ?_ | refine awp_cond_f rfl ?_ | ((refine awp_cond rfl (fun h => ?_) (fun h => ?_) <;> try simp only [ifs] at h) <;> (try (exfalso; omega))) | refine awp_ret ?_))
      (refine retA_is (by (simp (implicitDefEqProofs := false) (maxSteps := 2000000) (disch := omega) only [go_sem, Go.Proofs.Tryz.results89, pickM, h6, hl, hc, hn, hd, ho]); rfl) ?_; refine eN hE ?_; simp [oneA, ren, renL, pickM, h6, hl, hc, hn, hd, ho])
  · have en : decide ((s.names.length : Int) > 0) = true := hn
    (repeat' (first | refine awp_seq ?_ | refine awp_block ?_ | refine awp_skip ?_ | refine awp_exit ?_ | ((first | refine rR (fun K kp hK hkp => ?_) | refine iG ?_); simp (implicitDefEqProofs := false) (maxSteps := 2000000) (disch := omega) only [go_sem, eST, d1, d2, hc, en]; (repeat' (first | (refine hK _ ?_; clear hK hkp kp K) | (with_reducible refine And.intro ?_ ?_) | omega))) | ((first | refine aG (fun h => ?_) (fun h => ?_) | refine aD (fun h => ?_) (fun h => ?_) | refine aX (fun h => ?_) (fun h => ?_)) <;> simp only [h]) | refine awp_cond_t rfl ?_ | refine awp_cond_f rfl ?_ | ((refine awp_cond rfl (fun h => ?_) (fun h => ?_) <;> try simp only [ifs] at h) <;> (try (exfalso; omega))) | refine awp_ret ?_))
    (refine retA_is (by (simp (implicitDefEqProofs := false) (maxSteps := 2000000) (disch := omega) only [go_sem, Go.Proofs.Tryz.results89, pickM, h6, hl, hc, hn]); rfl) ?_; refine eN hE ?_; simp [oneA, ren, renL, pickM, h6, hl, hc, hn])
end Go.AM
/- Statements: parse.check. -/
namespace Go.AM
open Go Go.RowKit
open Go.Proofs.YtoecmmpjndcolaaGreatDoor (OP nameM litM exprM marksS wordsS StrsAt str SlAt)
attribute [local irreducible] AWP retA
/-- What is wrong with the parts that a kind has. -/
def partsM (s : ST) : Int :=
  if s.k = 1 then colsM s.cols else if s.k = 3 then rowM s.row else if s.k = 4 then pickM s
  else if s.k = 5 then (if nameM s.set ≠ 0 then nameM s.set else if exprM s.to ≠ 0 then exprM s.to else whereM s.wh)
  else if s.k = 6 then whereM s.wh else 0
def b0 : ByteArray := ⟨#[]⟩
/-- What a kind has. -/
def hasM (s : ST) : ST :=
  if s.k = 1 then ⟨s.k, s.tab, s.cols, [], [], false, [], b0, false, -1, b0, []⟩
  else if s.k = 2 then ⟨s.k, s.tab, [], [], [], false, [], b0, false, -1, b0, []⟩
  else if s.k = 3 then ⟨s.k, s.tab, [], s.row, [], false, [], b0, false, -1, b0, []⟩
  else if s.k = 4 then ⟨s.k, s.tab, [], [], s.names, s.count, s.wh, s.ord, s.down, s.lim, b0, []⟩
  else if s.k = 5 then ⟨s.k, s.tab, [], [], [], false, s.wh, b0, false, -1, s.set, s.to⟩
  else if s.k = 6 then ⟨s.k, s.tab, [], [], [], false, s.wh, b0, false, -1, b0, []⟩
  else ⟨s.k, b0, [], [], [], false, [], b0, false, -1, b0, []⟩
def checkM (s : ST) : Int := if s.k < 7 ∧ nameM s.tab ≠ 0 then nameM s.tab else if partsM s ≠ 0 then partsM s else if bareB s (hasM s) = true then 0 else 6
theorem checkM_name {s : ST} (h : s.k < 7) (hn : nameM s.tab ≠ 0) : checkM s = nameM s.tab := by rw [checkM, if_pos ⟨h, hn⟩]
theorem checkM_parts {s : ST} (h : ¬ (s.k < 7 ∧ nameM s.tab ≠ 0)) (hn : partsM s ≠ 0) : checkM s = partsM s := by rw [checkM, if_neg h, if_pos hn]
theorem checkM_ok {s : ST} (h : ¬ (s.k < 7 ∧ nameM s.tab ≠ 0)) (hn : partsM s = 0) (hb : bareB s (hasM s) = true) : checkM s = 0 := by rw [checkM, if_neg h, if_neg (by simp [hn]), if_pos hb]
theorem checkM_form {s : ST} (h : ¬ (s.k < 7 ∧ nameM s.tab ≠ 0)) (hn : partsM s = 0) (hb : bareB s (hasM s) = false) : checkM s = 6 := by rw [checkM, if_neg h, if_neg (by simp [hn]), if_neg (by simp [hb])]
set_option maxRecDepth 100000 in
set_option maxHeartbeats 8000000 in
theorem check1_con {G : List (Nat × List Value)} (T : Tabs G) (s : ST) (o : okST s) (hk : s.k = 1) : Con Go.Proofs.Tryz.prog G 72 [.agg (eST s)] [] 0 (Is (.r (.int .i64 (checkM s))) [] 0) No := by
  refine con_of_awp Go.Proofs.Tryz.func72 rfl (by kernel_rfl) (of_decide_eq_true (by kernel_rfl)) ?_; intro E hG hE; subst hG; simp only [ent]
  have tc := name_con T s.tab o.tab
  by_cases hn : nameM s.tab = 0
  · rw [hn] at tc
    have hh : ¬ (s.k < 7 ∧ nameM s.tab ≠ 0) := fun h => h.2 hn
    have p0 := cols_con T true s.cols o.lc o.cols
    by_cases z0 : colsM s.cols = 0
    · rw [z0] at p0
      have hp : partsM s = 0 := by simp [partsM, hk, z0]
      have hS : hasM s = ⟨1, s.tab, s.cols, [], [], false, [], b0, false, -1, b0, []⟩ := by simp [hasM, hk]
      have bc := bare_con E.G s (hasM s)
      cases hb : bareB s (hasM s)
      · rw [hb, hS] at bc
        simp only [eST, hk, List.map_nil] at bc
        have bc := bc.weak (xs := [.agg [.r (.int .i64 1), .r (.string s.tab), .ro true 2 (s.cols.map eC), .ro true 3 (s.row.map eV), .ro true 1 (s.names.map eStr), .r (.bool s.count), .ro true 5 (s.wh.map eO), .r (.string s.ord), .r (.bool s.down), .r (.int .i64 s.lim), .r (.string s.set), .ro true 5 (s.to.map eO)], .agg [.r (.int .i64 1), .r (.string s.tab), .ro true 2 (s.cols.map eC), .r (.slice none 0 0), .r (.slice none 0 0), .r (.bool false), .r (.slice none 0 0), .r (.string b0), .r (.bool false), .r (.int .i64 (-1)), .r (.string b0), .r (.slice none 0 0)]]) (by simp [wkL, wk])
        (repeat' (first | refine awp_seq ?_ | refine awp_block ?_ | refine awp_skip ?_ | refine awp_exit ?_ | ((first | refine rR (fun K kp hK hkp => ?_) | refine rX (id := 16) mixed [1] 24 [0,1,2,3,4,5,6,7,8,9,10,11,12,13,14,15,16,17,18,19,20,21,22,23] (fun K kp hK hkp => ?_) | refine rX (id := 19) mixed [1] 12 [0,1,2,3,4,5,6,7,8,9,10,11] (fun K kp hK hkp => ?_) | refine cR tc ?_ | refine cD tc ?_ | refine cX tc ?_ | refine cR p0 ?_ | refine cD p0 ?_ | refine cX p0 ?_ | refine cR bc ?_ | refine cD bc ?_ | refine cX bc ?_ | refine iG ?_ | refine iD ?_ | refine iX ?_); simp (implicitDefEqProofs := false) (maxSteps := 2000000) (disch := omega) only [go_sem, eST, hk]; (repeat' (first | (refine hK _ ?_; clear hK hkp kp K) | (with_reducible refine And.intro ?_ ?_) | omega))) | ((first | refine aG (fun h => ?_) (fun h => ?_) | refine aD (fun h => ?_) (fun h => ?_) | refine aX (fun h => ?_) (fun h => ?_)) <;> simp only [h]) | refine awp_cond_t rfl ?_ | refine awp_cond_f rfl ?_ | ((refine awp_cond rfl (fun h => ?_) (fun h => ?_) <;> try simp only [ifs] at h) <;> (try (exfalso; omega))) | refine awp_ret ?_))
        (refine retA_is (by (simp (implicitDefEqProofs := false) (maxSteps := 2000000) (disch := omega) only [go_sem, Go.Proofs.Tryz.results72, checkM_form hh hp hb]); rfl) ?_; refine eN hE ?_; simp [oneA, ren, renL, checkM_form hh hp hb])
      · rw [hb, hS] at bc
        simp only [eST, hk, List.map_nil] at bc
        have bc := bc.weak (xs := [.agg [.r (.int .i64 1), .r (.string s.tab), .ro true 2 (s.cols.map eC), .ro true 3 (s.row.map eV), .ro true 1 (s.names.map eStr), .r (.bool s.count), .ro true 5 (s.wh.map eO), .r (.string s.ord), .r (.bool s.down), .r (.int .i64 s.lim), .r (.string s.set), .ro true 5 (s.to.map eO)], .agg [.r (.int .i64 1), .r (.string s.tab), .ro true 2 (s.cols.map eC), .r (.slice none 0 0), .r (.slice none 0 0), .r (.bool false), .r (.slice none 0 0), .r (.string b0), .r (.bool false), .r (.int .i64 (-1)), .r (.string b0), .r (.slice none 0 0)]]) (by simp [wkL, wk])
        (repeat' (first | refine awp_seq ?_ | refine awp_block ?_ | refine awp_skip ?_ | refine awp_exit ?_ | ((first | refine rR (fun K kp hK hkp => ?_) | refine rX (id := 16) mixed [1] 24 [0,1,2,3,4,5,6,7,8,9,10,11,12,13,14,15,16,17,18,19,20,21,22,23] (fun K kp hK hkp => ?_) | refine rX (id := 19) mixed [1] 12 [0,1,2,3,4,5,6,7,8,9,10,11] (fun K kp hK hkp => ?_) | refine cR tc ?_ | refine cD tc ?_ | refine cX tc ?_ | refine cR p0 ?_ | refine cD p0 ?_ | refine cX p0 ?_ | refine cR bc ?_ | refine cD bc ?_ | refine cX bc ?_ | refine iG ?_ | refine iD ?_ | refine iX ?_); simp (implicitDefEqProofs := false) (maxSteps := 2000000) (disch := omega) only [go_sem, eST, hk]; (repeat' (first | (refine hK _ ?_; clear hK hkp kp K) | (with_reducible refine And.intro ?_ ?_) | omega))) | ((first | refine aG (fun h => ?_) (fun h => ?_) | refine aD (fun h => ?_) (fun h => ?_) | refine aX (fun h => ?_) (fun h => ?_)) <;> simp only [h]) | refine awp_cond_t rfl ?_ | refine awp_cond_f rfl ?_ | ((refine awp_cond rfl (fun h => ?_) (fun h => ?_) <;> try simp only [ifs] at h) <;> (try (exfalso; omega))) | refine awp_ret ?_))
        (refine retA_is (by (simp (implicitDefEqProofs := false) (maxSteps := 2000000) (disch := omega) only [go_sem, Go.Proofs.Tryz.results72, checkM_ok hh hp hb]); rfl) ?_; refine eN hE ?_; simp [oneA, ren, renL, checkM_ok hh hp hb])
    · have y0 : (colsM s.cols == 0) = false := by simpa using z0
      have hp : partsM s = colsM s.cols := by simp [partsM, hk, z0]
      (repeat' (first | refine awp_seq ?_ | refine awp_block ?_ | refine awp_skip ?_ | refine awp_exit ?_ | ((first | refine rR (fun K kp hK hkp => ?_) | refine rX (id := 16) mixed [1] 24 [0,1,2,3,4,5,6,7,8,9,10,11,12,13,14,15,16,17,18,19,20,21,22,23] (fun K kp hK hkp => ?_) | refine rX (id := 19) mixed [1] 12 [0,1,2,3,4,5,6,7,8,9,10,11] (fun K kp hK hkp => ?_) | refine cR tc ?_ | refine cD tc ?_ | refine cX tc ?_ | refine cR p0 ?_ | refine cD p0 ?_ | refine cX p0 ?_ | refine iG ?_ | refine iD ?_ | refine iX ?_); simp (implicitDefEqProofs := false) (maxSteps := 2000000) (disch := omega) only [go_sem, eST, hk, y0]; (repeat' (first | (refine hK _ ?_; clear hK hkp kp K) | (with_reducible refine And.intro ?_ ?_) | omega))) | ((first | refine aG (fun h => ?_) (fun h => ?_) | refine aD (fun h => ?_) (fun h => ?_) | refine aX (fun h => ?_) (fun h => ?_)) <;> simp only [h]) | refine awp_cond_t rfl ?_ | refine awp_cond_f rfl ?_ | ((refine awp_cond rfl (fun h => ?_) (fun h => ?_) <;> try simp only [ifs] at h) <;> (try (exfalso; omega))) | refine awp_ret ?_))
      (refine retA_is (by (simp (implicitDefEqProofs := false) (maxSteps := 2000000) (disch := omega) only [go_sem, Go.Proofs.Tryz.results72, checkM_parts hh (hp ▸ z0), hp]); rfl) ?_; refine eN hE ?_; simp [oneA, ren, renL, checkM_parts hh (hp ▸ z0), hp])
  · have bn : (nameM s.tab != 0) = true := by simpa using hn
    (repeat' (first | refine awp_seq ?_ | refine awp_block ?_ | refine awp_skip ?_ | refine awp_exit ?_ | ((first | refine rR (fun K kp hK hkp => ?_) | refine rX (id := 16) mixed [] 24 [0,1,2,3,4,5,6,7,8,9,10,11,12,13,14,15,16,17,18,19,20,21,22,23] (fun K kp hK hkp => ?_) | refine rX (id := 19) mixed [] 12 [0,1,2,3,4,5,6,7,8,9,10,11] (fun K kp hK hkp => ?_) | refine cR tc ?_ | refine cD tc ?_ | refine cX tc ?_ | refine iG ?_ | refine iD ?_ | refine iX ?_); simp (implicitDefEqProofs := false) (maxSteps := 2000000) (disch := omega) only [go_sem, eST, hk, bn]; (repeat' (first | (refine hK _ ?_; clear hK hkp kp K) | (with_reducible refine And.intro ?_ ?_) | omega))) | ((first | refine aG (fun h => ?_) (fun h => ?_) | refine aD (fun h => ?_) (fun h => ?_) | refine aX (fun h => ?_) (fun h => ?_)) <;> simp only [h]) | refine awp_cond_t rfl ?_ | refine awp_cond_f rfl ?_ | ((refine awp_cond rfl (fun h => ?_) (fun h => ?_) <;> try simp only [ifs] at h) <;> (try (exfalso; omega))) | refine awp_ret ?_))
    (refine retA_is (by (simp (implicitDefEqProofs := false) (maxSteps := 2000000) (disch := omega) only [go_sem, Go.Proofs.Tryz.results72, checkM_name (show s.k < 7 by omega) hn]); rfl) ?_; refine eN hE ?_; simp [oneA, ren, renL, checkM_name (show s.k < 7 by omega) hn])
set_option maxRecDepth 100000 in
set_option maxHeartbeats 8000000 in
theorem check2_con {G : List (Nat × List Value)} (T : Tabs G) (s : ST) (o : okST s) (hk : s.k = 2) : Con Go.Proofs.Tryz.prog G 72 [.agg (eST s)] [] 0 (Is (.r (.int .i64 (checkM s))) [] 0) No := by
  refine con_of_awp Go.Proofs.Tryz.func72 rfl (by kernel_rfl) (of_decide_eq_true (by kernel_rfl)) ?_; intro E hG hE; subst hG; simp only [ent]
  have tc := name_con T s.tab o.tab
  by_cases hn : nameM s.tab = 0
  · rw [hn] at tc
    have hh : ¬ (s.k < 7 ∧ nameM s.tab ≠ 0) := fun h => h.2 hn
    have hp : partsM s = 0 := by simp [partsM, hk]
    have hS : hasM s = ⟨2, s.tab, [], [], [], false, [], b0, false, -1, b0, []⟩ := by simp [hasM, hk]
    have bc := bare_con E.G s (hasM s)
    cases hb : bareB s (hasM s)
    · rw [hb, hS] at bc
      simp only [eST, hk, List.map_nil] at bc
      have bc := bc.weak (xs := [.agg [.r (.int .i64 2), .r (.string s.tab), .ro true 2 (s.cols.map eC), .ro true 3 (s.row.map eV), .ro true 1 (s.names.map eStr), .r (.bool s.count), .ro true 5 (s.wh.map eO), .r (.string s.ord), .r (.bool s.down), .r (.int .i64 s.lim), .r (.string s.set), .ro true 5 (s.to.map eO)], .agg [.r (.int .i64 2), .r (.string s.tab), .r (.slice none 0 0), .r (.slice none 0 0), .r (.slice none 0 0), .r (.bool false), .r (.slice none 0 0), .r (.string b0), .r (.bool false), .r (.int .i64 (-1)), .r (.string b0), .r (.slice none 0 0)]]) (by simp [wkL, wk])
      (repeat' (first | refine awp_seq ?_ | refine awp_block ?_ | refine awp_skip ?_ | refine awp_exit ?_ | ((first | refine rR (fun K kp hK hkp => ?_) | refine rX (id := 16) mixed [1] 24 [0,1,2,3,4,5,6,7,8,9,10,11,12,13,14,15,16,17,18,19,20,21,22,23] (fun K kp hK hkp => ?_) | refine rX (id := 19) mixed [1] 12 [0,1,2,3,4,5,6,7,8,9,10,11] (fun K kp hK hkp => ?_) | refine cR tc ?_ | refine cD tc ?_ | refine cX tc ?_ | refine cR bc ?_ | refine cD bc ?_ | refine cX bc ?_ | refine iG ?_ | refine iD ?_ | refine iX ?_); simp (implicitDefEqProofs := false) (maxSteps := 2000000) (disch := omega) only [go_sem, eST, hk]; (repeat' (first | (refine hK _ ?_; clear hK hkp kp K) | (with_reducible refine And.intro ?_ ?_) | omega))) | ((first | refine aG (fun h => ?_) (fun h => ?_) | refine aD (fun h => ?_) (fun h => ?_) | refine aX (fun h => ?_) (fun h => ?_)) <;> simp only [h]) | refine awp_cond_t rfl ?_ | refine awp_cond_f rfl ?_ | ((refine awp_cond rfl (fun h => ?_) (fun h => ?_) <;> try simp only [ifs] at h) <;> (try (exfalso; omega))) | refine awp_ret ?_))
      (refine retA_is (by (simp (implicitDefEqProofs := false) (maxSteps := 2000000) (disch := omega) only [go_sem, Go.Proofs.Tryz.results72, checkM_form hh hp hb]); rfl) ?_; refine eN hE ?_; simp [oneA, ren, renL, checkM_form hh hp hb])
    · rw [hb, hS] at bc
      simp only [eST, hk, List.map_nil] at bc
      have bc := bc.weak (xs := [.agg [.r (.int .i64 2), .r (.string s.tab), .ro true 2 (s.cols.map eC), .ro true 3 (s.row.map eV), .ro true 1 (s.names.map eStr), .r (.bool s.count), .ro true 5 (s.wh.map eO), .r (.string s.ord), .r (.bool s.down), .r (.int .i64 s.lim), .r (.string s.set), .ro true 5 (s.to.map eO)], .agg [.r (.int .i64 2), .r (.string s.tab), .r (.slice none 0 0), .r (.slice none 0 0), .r (.slice none 0 0), .r (.bool false), .r (.slice none 0 0), .r (.string b0), .r (.bool false), .r (.int .i64 (-1)), .r (.string b0), .r (.slice none 0 0)]]) (by simp [wkL, wk])
      (repeat' (first | refine awp_seq ?_ | refine awp_block ?_ | refine awp_skip ?_ | refine awp_exit ?_ | ((first | refine rR (fun K kp hK hkp => ?_) | refine rX (id := 16) mixed [1] 24 [0,1,2,3,4,5,6,7,8,9,10,11,12,13,14,15,16,17,18,19,20,21,22,23] (fun K kp hK hkp => ?_) | refine rX (id := 19) mixed [1] 12 [0,1,2,3,4,5,6,7,8,9,10,11] (fun K kp hK hkp => ?_) | refine cR tc ?_ | refine cD tc ?_ | refine cX tc ?_ | refine cR bc ?_ | refine cD bc ?_ | refine cX bc ?_ | refine iG ?_ | refine iD ?_ | refine iX ?_); simp (implicitDefEqProofs := false) (maxSteps := 2000000) (disch := omega) only [go_sem, eST, hk]; (repeat' (first | (refine hK _ ?_; clear hK hkp kp K) | (with_reducible refine And.intro ?_ ?_) | omega))) | ((first | refine aG (fun h => ?_) (fun h => ?_) | refine aD (fun h => ?_) (fun h => ?_) | refine aX (fun h => ?_) (fun h => ?_)) <;> simp only [h]) | refine awp_cond_t rfl ?_ | refine awp_cond_f rfl ?_ | ((refine awp_cond rfl (fun h => ?_) (fun h => ?_) <;> try simp only [ifs] at h) <;> (try (exfalso; omega))) | refine awp_ret ?_))
      (refine retA_is (by (simp (implicitDefEqProofs := false) (maxSteps := 2000000) (disch := omega) only [go_sem, Go.Proofs.Tryz.results72, checkM_ok hh hp hb]); rfl) ?_; refine eN hE ?_; simp [oneA, ren, renL, checkM_ok hh hp hb])
  · have bn : (nameM s.tab != 0) = true := by simpa using hn
    (repeat' (first | refine awp_seq ?_ | refine awp_block ?_ | refine awp_skip ?_ | refine awp_exit ?_ | ((first | refine rR (fun K kp hK hkp => ?_) | refine rX (id := 16) mixed [] 24 [0,1,2,3,4,5,6,7,8,9,10,11,12,13,14,15,16,17,18,19,20,21,22,23] (fun K kp hK hkp => ?_) | refine rX (id := 19) mixed [] 12 [0,1,2,3,4,5,6,7,8,9,10,11] (fun K kp hK hkp => ?_) | refine cR tc ?_ | refine cD tc ?_ | refine cX tc ?_ | refine iG ?_ | refine iD ?_ | refine iX ?_); simp (implicitDefEqProofs := false) (maxSteps := 2000000) (disch := omega) only [go_sem, eST, hk, bn]; (repeat' (first | (refine hK _ ?_; clear hK hkp kp K) | (with_reducible refine And.intro ?_ ?_) | omega))) | ((first | refine aG (fun h => ?_) (fun h => ?_) | refine aD (fun h => ?_) (fun h => ?_) | refine aX (fun h => ?_) (fun h => ?_)) <;> simp only [h]) | refine awp_cond_t rfl ?_ | refine awp_cond_f rfl ?_ | ((refine awp_cond rfl (fun h => ?_) (fun h => ?_) <;> try simp only [ifs] at h) <;> (try (exfalso; omega))) | refine awp_ret ?_))
    (refine retA_is (by (simp (implicitDefEqProofs := false) (maxSteps := 2000000) (disch := omega) only [go_sem, Go.Proofs.Tryz.results72, checkM_name (show s.k < 7 by omega) hn]); rfl) ?_; refine eN hE ?_; simp [oneA, ren, renL, checkM_name (show s.k < 7 by omega) hn])
set_option maxRecDepth 100000 in
set_option maxHeartbeats 8000000 in
theorem check3_con {G : List (Nat × List Value)} (T : Tabs G) (s : ST) (o : okST s) (hk : s.k = 3) : Con Go.Proofs.Tryz.prog G 72 [.agg (eST s)] [] 0 (Is (.r (.int .i64 (checkM s))) [] 0) No := by
  refine con_of_awp Go.Proofs.Tryz.func72 rfl (by kernel_rfl) (of_decide_eq_true (by kernel_rfl)) ?_; intro E hG hE; subst hG; simp only [ent]
  have tc := name_con T s.tab o.tab
  by_cases hn : nameM s.tab = 0
  · rw [hn] at tc
    have hh : ¬ (s.k < 7 ∧ nameM s.tab ≠ 0) := fun h => h.2 hn
    have p0 := row_con E.G true s.row o.lr o.row
    by_cases z0 : rowM s.row = 0
    · rw [z0] at p0
      have hp : partsM s = 0 := by simp [partsM, hk, z0]
      have hS : hasM s = ⟨3, s.tab, [], s.row, [], false, [], b0, false, -1, b0, []⟩ := by simp [hasM, hk]
      have bc := bare_con E.G s (hasM s)
      cases hb : bareB s (hasM s)
      · rw [hb, hS] at bc
        simp only [eST, hk, List.map_nil] at bc
        have bc := bc.weak (xs := [.agg [.r (.int .i64 3), .r (.string s.tab), .ro true 2 (s.cols.map eC), .ro true 3 (s.row.map eV), .ro true 1 (s.names.map eStr), .r (.bool s.count), .ro true 5 (s.wh.map eO), .r (.string s.ord), .r (.bool s.down), .r (.int .i64 s.lim), .r (.string s.set), .ro true 5 (s.to.map eO)], .agg [.r (.int .i64 3), .r (.string s.tab), .r (.slice none 0 0), .ro true 3 (s.row.map eV), .r (.slice none 0 0), .r (.bool false), .r (.slice none 0 0), .r (.string b0), .r (.bool false), .r (.int .i64 (-1)), .r (.string b0), .r (.slice none 0 0)]]) (by simp [wkL, wk])
        (repeat' (first | refine awp_seq ?_ | refine awp_block ?_ | refine awp_skip ?_ | refine awp_exit ?_ | ((first | refine rR (fun K kp hK hkp => ?_) | refine rX (id := 16) mixed [1] 24 [0,1,2,3,4,5,6,7,8,9,10,11,12,13,14,15,16,17,18,19,20,21,22,23] (fun K kp hK hkp => ?_) | refine rX (id := 19) mixed [1] 12 [0,1,2,3,4,5,6,7,8,9,10,11] (fun K kp hK hkp => ?_) | refine cR tc ?_ | refine cD tc ?_ | refine cX tc ?_ | refine cR p0 ?_ | refine cD p0 ?_ | refine cX p0 ?_ | refine cR bc ?_ | refine cD bc ?_ | refine cX bc ?_ | refine iG ?_ | refine iD ?_ | refine iX ?_); simp (implicitDefEqProofs := false) (maxSteps := 2000000) (disch := omega) only [go_sem, eST, hk]; (repeat' (first | (refine hK _ ?_; clear hK hkp kp K) | (with_reducible refine And.intro ?_ ?_) | omega))) | ((first | refine aG (fun h => ?_) (fun h => ?_) | refine aD (fun h => ?_) (fun h => ?_) | refine aX (fun h => ?_) (fun h => ?_)) <;> simp only [h]) | refine awp_cond_t rfl ?_ | refine awp_cond_f rfl ?_ | ((refine awp_cond rfl (fun h => ?_) (fun h => ?_) <;> try simp only [ifs] at h) <;> (try (exfalso; omega))) | refine awp_ret ?_))
        (refine retA_is (by (simp (implicitDefEqProofs := false) (maxSteps := 2000000) (disch := omega) only [go_sem, Go.Proofs.Tryz.results72, checkM_form hh hp hb]); rfl) ?_; refine eN hE ?_; simp [oneA, ren, renL, checkM_form hh hp hb])
      · rw [hb, hS] at bc
        simp only [eST, hk, List.map_nil] at bc
        have bc := bc.weak (xs := [.agg [.r (.int .i64 3), .r (.string s.tab), .ro true 2 (s.cols.map eC), .ro true 3 (s.row.map eV), .ro true 1 (s.names.map eStr), .r (.bool s.count), .ro true 5 (s.wh.map eO), .r (.string s.ord), .r (.bool s.down), .r (.int .i64 s.lim), .r (.string s.set), .ro true 5 (s.to.map eO)], .agg [.r (.int .i64 3), .r (.string s.tab), .r (.slice none 0 0), .ro true 3 (s.row.map eV), .r (.slice none 0 0), .r (.bool false), .r (.slice none 0 0), .r (.string b0), .r (.bool false), .r (.int .i64 (-1)), .r (.string b0), .r (.slice none 0 0)]]) (by simp [wkL, wk])
        (repeat' (first | refine awp_seq ?_ | refine awp_block ?_ | refine awp_skip ?_ | refine awp_exit ?_ | ((first | refine rR (fun K kp hK hkp => ?_) | refine rX (id := 16) mixed [1] 24 [0,1,2,3,4,5,6,7,8,9,10,11,12,13,14,15,16,17,18,19,20,21,22,23] (fun K kp hK hkp => ?_) | refine rX (id := 19) mixed [1] 12 [0,1,2,3,4,5,6,7,8,9,10,11] (fun K kp hK hkp => ?_) | refine cR tc ?_ | refine cD tc ?_ | refine cX tc ?_ | refine cR p0 ?_ | refine cD p0 ?_ | refine cX p0 ?_ | refine cR bc ?_ | refine cD bc ?_ | refine cX bc ?_ | refine iG ?_ | refine iD ?_ | refine iX ?_); simp (implicitDefEqProofs := false) (maxSteps := 2000000) (disch := omega) only [go_sem, eST, hk]; (repeat' (first | (refine hK _ ?_; clear hK hkp kp K) | (with_reducible refine And.intro ?_ ?_) | omega))) | ((first | refine aG (fun h => ?_) (fun h => ?_) | refine aD (fun h => ?_) (fun h => ?_) | refine aX (fun h => ?_) (fun h => ?_)) <;> simp only [h]) | refine awp_cond_t rfl ?_ | refine awp_cond_f rfl ?_ | ((refine awp_cond rfl (fun h => ?_) (fun h => ?_) <;> try simp only [ifs] at h) <;> (try (exfalso; omega))) | refine awp_ret ?_))
        (refine retA_is (by (simp (implicitDefEqProofs := false) (maxSteps := 2000000) (disch := omega) only [go_sem, Go.Proofs.Tryz.results72, checkM_ok hh hp hb]); rfl) ?_; refine eN hE ?_; simp [oneA, ren, renL, checkM_ok hh hp hb])
    · have y0 : (rowM s.row == 0) = false := by simpa using z0
      have hp : partsM s = rowM s.row := by simp [partsM, hk, z0]
      (repeat' (first | refine awp_seq ?_ | refine awp_block ?_ | refine awp_skip ?_ | refine awp_exit ?_ | ((first | refine rR (fun K kp hK hkp => ?_) | refine rX (id := 16) mixed [1] 24 [0,1,2,3,4,5,6,7,8,9,10,11,12,13,14,15,16,17,18,19,20,21,22,23] (fun K kp hK hkp => ?_) | refine rX (id := 19) mixed [1] 12 [0,1,2,3,4,5,6,7,8,9,10,11] (fun K kp hK hkp => ?_) | refine cR tc ?_ | refine cD tc ?_ | refine cX tc ?_ | refine cR p0 ?_ | refine cD p0 ?_ | refine cX p0 ?_ | refine iG ?_ | refine iD ?_ | refine iX ?_); simp (implicitDefEqProofs := false) (maxSteps := 2000000) (disch := omega) only [go_sem, eST, hk, y0]; (repeat' (first | (refine hK _ ?_; clear hK hkp kp K) | (with_reducible refine And.intro ?_ ?_) | omega))) | ((first | refine aG (fun h => ?_) (fun h => ?_) | refine aD (fun h => ?_) (fun h => ?_) | refine aX (fun h => ?_) (fun h => ?_)) <;> simp only [h]) | refine awp_cond_t rfl ?_ | refine awp_cond_f rfl ?_ | ((refine awp_cond rfl (fun h => ?_) (fun h => ?_) <;> try simp only [ifs] at h) <;> (try (exfalso; omega))) | refine awp_ret ?_))
      (refine retA_is (by (simp (implicitDefEqProofs := false) (maxSteps := 2000000) (disch := omega) only [go_sem, Go.Proofs.Tryz.results72, checkM_parts hh (hp ▸ z0), hp]); rfl) ?_; refine eN hE ?_; simp [oneA, ren, renL, checkM_parts hh (hp ▸ z0), hp])
  · have bn : (nameM s.tab != 0) = true := by simpa using hn
    (repeat' (first | refine awp_seq ?_ | refine awp_block ?_ | refine awp_skip ?_ | refine awp_exit ?_ | ((first | refine rR (fun K kp hK hkp => ?_) | refine rX (id := 16) mixed [] 24 [0,1,2,3,4,5,6,7,8,9,10,11,12,13,14,15,16,17,18,19,20,21,22,23] (fun K kp hK hkp => ?_) | refine rX (id := 19) mixed [] 12 [0,1,2,3,4,5,6,7,8,9,10,11] (fun K kp hK hkp => ?_) | refine cR tc ?_ | refine cD tc ?_ | refine cX tc ?_ | refine iG ?_ | refine iD ?_ | refine iX ?_); simp (implicitDefEqProofs := false) (maxSteps := 2000000) (disch := omega) only [go_sem, eST, hk, bn]; (repeat' (first | (refine hK _ ?_; clear hK hkp kp K) | (with_reducible refine And.intro ?_ ?_) | omega))) | ((first | refine aG (fun h => ?_) (fun h => ?_) | refine aD (fun h => ?_) (fun h => ?_) | refine aX (fun h => ?_) (fun h => ?_)) <;> simp only [h]) | refine awp_cond_t rfl ?_ | refine awp_cond_f rfl ?_ | ((refine awp_cond rfl (fun h => ?_) (fun h => ?_) <;> try simp only [ifs] at h) <;> (try (exfalso; omega))) | refine awp_ret ?_))
    (refine retA_is (by (simp (implicitDefEqProofs := false) (maxSteps := 2000000) (disch := omega) only [go_sem, Go.Proofs.Tryz.results72, checkM_name (show s.k < 7 by omega) hn]); rfl) ?_; refine eN hE ?_; simp [oneA, ren, renL, checkM_name (show s.k < 7 by omega) hn])
set_option maxRecDepth 100000 in
set_option maxHeartbeats 8000000 in
theorem check4_con {G : List (Nat × List Value)} (T : Tabs G) (s : ST) (o : okST s) (hk : s.k = 4) : Con Go.Proofs.Tryz.prog G 72 [.agg (eST s)] [] 0 (Is (.r (.int .i64 (checkM s))) [] 0) No := by
  refine con_of_awp Go.Proofs.Tryz.func72 rfl (by kernel_rfl) (of_decide_eq_true (by kernel_rfl)) ?_; intro E hG hE; subst hG; simp only [ent]
  have tc := name_con T s.tab o.tab
  by_cases hn : nameM s.tab = 0
  · rw [hn] at tc
    have hh : ¬ (s.k < 7 ∧ nameM s.tab ≠ 0) := fun h => h.2 hn
    have p0 := pick_con T s o
    simp only [eST, hk] at p0
    by_cases z0 : pickM s = 0
    · rw [z0] at p0
      have hp : partsM s = 0 := by simp [partsM, hk, z0]
      have hS : hasM s = ⟨4, s.tab, [], [], s.names, s.count, s.wh, s.ord, s.down, s.lim, b0, []⟩ := by simp [hasM, hk]
      have bc := bare_con E.G s (hasM s)
      cases hb : bareB s (hasM s)
      · rw [hb, hS] at bc
        simp only [eST, hk, List.map_nil] at bc
        have bc := bc.weak (xs := [.agg [.r (.int .i64 4), .r (.string s.tab), .ro true 2 (s.cols.map eC), .ro true 3 (s.row.map eV), .ro true 1 (s.names.map eStr), .r (.bool s.count), .ro true 5 (s.wh.map eO), .r (.string s.ord), .r (.bool s.down), .r (.int .i64 s.lim), .r (.string s.set), .ro true 5 (s.to.map eO)], .agg [.r (.int .i64 4), .r (.string s.tab), .r (.slice none 0 0), .r (.slice none 0 0), .ro true 1 (s.names.map eStr), .r (.bool s.count), .ro true 5 (s.wh.map eO), .r (.string s.ord), .r (.bool s.down), .r (.int .i64 s.lim), .r (.string b0), .r (.slice none 0 0)]]) (by simp [wkL, wk])
        (repeat' (first | refine awp_seq ?_ | refine awp_block ?_ | refine awp_skip ?_ | refine awp_exit ?_ | ((first | refine rR (fun K kp hK hkp => ?_) | refine rX (id := 16) mixed [1] 24 [0,1,2,3,4,5,6,7,8,9,10,11,12,13,14,15,16,17,18,19,20,21,22,23] (fun K kp hK hkp => ?_) | refine rX (id := 19) mixed [1] 12 [0,1,2,3,4,5,6,7,8,9,10,11] (fun K kp hK hkp => ?_) | refine cR tc ?_ | refine cD tc ?_ | refine cX tc ?_ | refine cR p0 ?_ | refine cD p0 ?_ | refine cX p0 ?_ | refine cR bc ?_ | refine cD bc ?_ | refine cX bc ?_ | refine iG ?_ | refine iD ?_ | refine iX ?_); simp (implicitDefEqProofs := false) (maxSteps := 2000000) (disch := omega) only [go_sem, eST, hk]; (repeat' (first | (refine hK _ ?_; clear hK hkp kp K) | (with_reducible refine And.intro ?_ ?_) | omega))) | ((first | refine aG (fun h => ?_) (fun h => ?_) | refine aD (fun h => ?_) (fun h => ?_) | refine aX (fun h => ?_) (fun h => ?_)) <;> simp only [h]) | refine awp_cond_t rfl ?_ | refine awp_cond_f rfl ?_ | ((refine awp_cond rfl (fun h => ?_) (fun h => ?_) <;> try simp only [ifs] at h) <;> (try (exfalso; omega))) | refine awp_ret ?_))
        (refine retA_is (by (simp (implicitDefEqProofs := false) (maxSteps := 2000000) (disch := omega) only [go_sem, Go.Proofs.Tryz.results72, checkM_form hh hp hb]); rfl) ?_; refine eN hE ?_; simp [oneA, ren, renL, checkM_form hh hp hb])
      · rw [hb, hS] at bc
        simp only [eST, hk, List.map_nil] at bc
        have bc := bc.weak (xs := [.agg [.r (.int .i64 4), .r (.string s.tab), .ro true 2 (s.cols.map eC), .ro true 3 (s.row.map eV), .ro true 1 (s.names.map eStr), .r (.bool s.count), .ro true 5 (s.wh.map eO), .r (.string s.ord), .r (.bool s.down), .r (.int .i64 s.lim), .r (.string s.set), .ro true 5 (s.to.map eO)], .agg [.r (.int .i64 4), .r (.string s.tab), .r (.slice none 0 0), .r (.slice none 0 0), .ro true 1 (s.names.map eStr), .r (.bool s.count), .ro true 5 (s.wh.map eO), .r (.string s.ord), .r (.bool s.down), .r (.int .i64 s.lim), .r (.string b0), .r (.slice none 0 0)]]) (by simp [wkL, wk])
        (repeat' (first | refine awp_seq ?_ | refine awp_block ?_ | refine awp_skip ?_ | refine awp_exit ?_ | ((first | refine rR (fun K kp hK hkp => ?_) | refine rX (id := 16) mixed [1] 24 [0,1,2,3,4,5,6,7,8,9,10,11,12,13,14,15,16,17,18,19,20,21,22,23] (fun K kp hK hkp => ?_) | refine rX (id := 19) mixed [1] 12 [0,1,2,3,4,5,6,7,8,9,10,11] (fun K kp hK hkp => ?_) | refine cR tc ?_ | refine cD tc ?_ | refine cX tc ?_ | refine cR p0 ?_ | refine cD p0 ?_ | refine cX p0 ?_ | refine cR bc ?_ | refine cD bc ?_ | refine cX bc ?_ | refine iG ?_ | refine iD ?_ | refine iX ?_); simp (implicitDefEqProofs := false) (maxSteps := 2000000) (disch := omega) only [go_sem, eST, hk]; (repeat' (first | (refine hK _ ?_; clear hK hkp kp K) | (with_reducible refine And.intro ?_ ?_) | omega))) | ((first | refine aG (fun h => ?_) (fun h => ?_) | refine aD (fun h => ?_) (fun h => ?_) | refine aX (fun h => ?_) (fun h => ?_)) <;> simp only [h]) | refine awp_cond_t rfl ?_ | refine awp_cond_f rfl ?_ | ((refine awp_cond rfl (fun h => ?_) (fun h => ?_) <;> try simp only [ifs] at h) <;> (try (exfalso; omega))) | refine awp_ret ?_))
        (refine retA_is (by (simp (implicitDefEqProofs := false) (maxSteps := 2000000) (disch := omega) only [go_sem, Go.Proofs.Tryz.results72, checkM_ok hh hp hb]); rfl) ?_; refine eN hE ?_; simp [oneA, ren, renL, checkM_ok hh hp hb])
    · have y0 : (pickM s == 0) = false := by simpa using z0
      have hp : partsM s = pickM s := by simp [partsM, hk, z0]
      (repeat' (first | refine awp_seq ?_ | refine awp_block ?_ | refine awp_skip ?_ | refine awp_exit ?_ | ((first | refine rR (fun K kp hK hkp => ?_) | refine rX (id := 16) mixed [1] 24 [0,1,2,3,4,5,6,7,8,9,10,11,12,13,14,15,16,17,18,19,20,21,22,23] (fun K kp hK hkp => ?_) | refine rX (id := 19) mixed [1] 12 [0,1,2,3,4,5,6,7,8,9,10,11] (fun K kp hK hkp => ?_) | refine cR tc ?_ | refine cD tc ?_ | refine cX tc ?_ | refine cR p0 ?_ | refine cD p0 ?_ | refine cX p0 ?_ | refine iG ?_ | refine iD ?_ | refine iX ?_); simp (implicitDefEqProofs := false) (maxSteps := 2000000) (disch := omega) only [go_sem, eST, hk, y0]; (repeat' (first | (refine hK _ ?_; clear hK hkp kp K) | (with_reducible refine And.intro ?_ ?_) | omega))) | ((first | refine aG (fun h => ?_) (fun h => ?_) | refine aD (fun h => ?_) (fun h => ?_) | refine aX (fun h => ?_) (fun h => ?_)) <;> simp only [h]) | refine awp_cond_t rfl ?_ | refine awp_cond_f rfl ?_ | ((refine awp_cond rfl (fun h => ?_) (fun h => ?_) <;> try simp only [ifs] at h) <;> (try (exfalso; omega))) | refine awp_ret ?_))
      (refine retA_is (by (simp (implicitDefEqProofs := false) (maxSteps := 2000000) (disch := omega) only [go_sem, Go.Proofs.Tryz.results72, checkM_parts hh (hp ▸ z0), hp]); rfl) ?_; refine eN hE ?_; simp [oneA, ren, renL, checkM_parts hh (hp ▸ z0), hp])
  · have bn : (nameM s.tab != 0) = true := by simpa using hn
    (repeat' (first | refine awp_seq ?_ | refine awp_block ?_ | refine awp_skip ?_ | refine awp_exit ?_ | ((first | refine rR (fun K kp hK hkp => ?_) | refine rX (id := 16) mixed [] 24 [0,1,2,3,4,5,6,7,8,9,10,11,12,13,14,15,16,17,18,19,20,21,22,23] (fun K kp hK hkp => ?_) | refine rX (id := 19) mixed [] 12 [0,1,2,3,4,5,6,7,8,9,10,11] (fun K kp hK hkp => ?_) | refine cR tc ?_ | refine cD tc ?_ | refine cX tc ?_ | refine iG ?_ | refine iD ?_ | refine iX ?_); simp (implicitDefEqProofs := false) (maxSteps := 2000000) (disch := omega) only [go_sem, eST, hk, bn]; (repeat' (first | (refine hK _ ?_; clear hK hkp kp K) | (with_reducible refine And.intro ?_ ?_) | omega))) | ((first | refine aG (fun h => ?_) (fun h => ?_) | refine aD (fun h => ?_) (fun h => ?_) | refine aX (fun h => ?_) (fun h => ?_)) <;> simp only [h]) | refine awp_cond_t rfl ?_ | refine awp_cond_f rfl ?_ | ((refine awp_cond rfl (fun h => ?_) (fun h => ?_) <;> try simp only [ifs] at h) <;> (try (exfalso; omega))) | refine awp_ret ?_))
    (refine retA_is (by (simp (implicitDefEqProofs := false) (maxSteps := 2000000) (disch := omega) only [go_sem, Go.Proofs.Tryz.results72, checkM_name (show s.k < 7 by omega) hn]); rfl) ?_; refine eN hE ?_; simp [oneA, ren, renL, checkM_name (show s.k < 7 by omega) hn])
set_option maxRecDepth 100000 in
set_option maxHeartbeats 8000000 in
theorem check5_con {G : List (Nat × List Value)} (T : Tabs G) (s : ST) (o : okST s) (hk : s.k = 5) : Con Go.Proofs.Tryz.prog G 72 [.agg (eST s)] [] 0 (Is (.r (.int .i64 (checkM s))) [] 0) No := by
  refine con_of_awp Go.Proofs.Tryz.func72 rfl (by kernel_rfl) (of_decide_eq_true (by kernel_rfl)) ?_; intro E hG hE; subst hG; simp only [ent]
  have tc := name_con T s.tab o.tab
  by_cases hn : nameM s.tab = 0
  · rw [hn] at tc
    have hh : ¬ (s.k < 7 ∧ nameM s.tab ≠ 0) := fun h => h.2 hn
    have p0 := name_con T s.set o.set
    by_cases z0 : nameM s.set = 0
    · rw [z0] at p0
      have p1 := expression_con T true s.to o.lt o.to
      by_cases z1 : exprM s.to = 0
      · rw [z1] at p1
        have p2 := where_con T true s.wh o.lw o.wh
        by_cases z2 : whereM s.wh = 0
        · rw [z2] at p2
          have hp : partsM s = 0 := by simp [partsM, hk, z0, z1, z2]
          have hS : hasM s = ⟨5, s.tab, [], [], [], false, s.wh, b0, false, -1, s.set, s.to⟩ := by simp [hasM, hk]
          have bc := bare_con E.G s (hasM s)
          cases hb : bareB s (hasM s)
          · rw [hb, hS] at bc
            simp only [eST, hk, List.map_nil] at bc
            have bc := bc.weak (xs := [.agg [.r (.int .i64 5), .r (.string s.tab), .ro true 2 (s.cols.map eC), .ro true 3 (s.row.map eV), .ro true 1 (s.names.map eStr), .r (.bool s.count), .ro true 5 (s.wh.map eO), .r (.string s.ord), .r (.bool s.down), .r (.int .i64 s.lim), .r (.string s.set), .ro true 5 (s.to.map eO)], .agg [.r (.int .i64 5), .r (.string s.tab), .r (.slice none 0 0), .r (.slice none 0 0), .r (.slice none 0 0), .r (.bool false), .ro true 5 (s.wh.map eO), .r (.string b0), .r (.bool false), .r (.int .i64 (-1)), .r (.string s.set), .ro true 5 (s.to.map eO)]]) (by simp [wkL, wk])
            (repeat' (first | refine awp_seq ?_ | refine awp_block ?_ | refine awp_skip ?_ | refine awp_exit ?_ | ((first | refine rR (fun K kp hK hkp => ?_) | refine rX (id := 16) mixed [1] 24 [0,1,2,3,4,5,6,7,8,9,10,11,12,13,14,15,16,17,18,19,20,21,22,23] (fun K kp hK hkp => ?_) | refine rX (id := 19) mixed [1] 12 [0,1,2,3,4,5,6,7,8,9,10,11] (fun K kp hK hkp => ?_) | refine cR tc ?_ | refine cD tc ?_ | refine cX tc ?_ | refine cR p0 ?_ | refine cD p0 ?_ | refine cX p0 ?_ | refine cR p1 ?_ | refine cD p1 ?_ | refine cX p1 ?_ | refine cR p2 ?_ | refine cD p2 ?_ | refine cX p2 ?_ | refine cR bc ?_ | refine cD bc ?_ | refine cX bc ?_ | refine iG ?_ | refine iD ?_ | refine iX ?_); simp (implicitDefEqProofs := false) (maxSteps := 2000000) (disch := omega) only [go_sem, eST, hk]; (repeat' (first | (refine hK _ ?_; clear hK hkp kp K) | (with_reducible refine And.intro ?_ ?_) | omega))) | ((first | refine aG (fun h => ?_) (fun h => ?_) | refine aD (fun h => ?_) (fun h => ?_) | refine aX (fun h => ?_) (fun h => ?_)) <;> simp only [h]) | refine awp_cond_t rfl ?_ | refine awp_cond_f rfl ?_ | ((refine awp_cond rfl (fun h => ?_) (fun h => ?_) <;> try simp only [ifs] at h) <;> (try (exfalso; omega))) | refine awp_ret ?_))
            (refine retA_is (by (simp (implicitDefEqProofs := false) (maxSteps := 2000000) (disch := omega) only [go_sem, Go.Proofs.Tryz.results72, checkM_form hh hp hb]); rfl) ?_; refine eN hE ?_; simp [oneA, ren, renL, checkM_form hh hp hb])
          · rw [hb, hS] at bc
            simp only [eST, hk, List.map_nil] at bc
            have bc := bc.weak (xs := [.agg [.r (.int .i64 5), .r (.string s.tab), .ro true 2 (s.cols.map eC), .ro true 3 (s.row.map eV), .ro true 1 (s.names.map eStr), .r (.bool s.count), .ro true 5 (s.wh.map eO), .r (.string s.ord), .r (.bool s.down), .r (.int .i64 s.lim), .r (.string s.set), .ro true 5 (s.to.map eO)], .agg [.r (.int .i64 5), .r (.string s.tab), .r (.slice none 0 0), .r (.slice none 0 0), .r (.slice none 0 0), .r (.bool false), .ro true 5 (s.wh.map eO), .r (.string b0), .r (.bool false), .r (.int .i64 (-1)), .r (.string s.set), .ro true 5 (s.to.map eO)]]) (by simp [wkL, wk])
            (repeat' (first | refine awp_seq ?_ | refine awp_block ?_ | refine awp_skip ?_ | refine awp_exit ?_ | ((first | refine rR (fun K kp hK hkp => ?_) | refine rX (id := 16) mixed [1] 24 [0,1,2,3,4,5,6,7,8,9,10,11,12,13,14,15,16,17,18,19,20,21,22,23] (fun K kp hK hkp => ?_) | refine rX (id := 19) mixed [1] 12 [0,1,2,3,4,5,6,7,8,9,10,11] (fun K kp hK hkp => ?_) | refine cR tc ?_ | refine cD tc ?_ | refine cX tc ?_ | refine cR p0 ?_ | refine cD p0 ?_ | refine cX p0 ?_ | refine cR p1 ?_ | refine cD p1 ?_ | refine cX p1 ?_ | refine cR p2 ?_ | refine cD p2 ?_ | refine cX p2 ?_ | refine cR bc ?_ | refine cD bc ?_ | refine cX bc ?_ | refine iG ?_ | refine iD ?_ | refine iX ?_); simp (implicitDefEqProofs := false) (maxSteps := 2000000) (disch := omega) only [go_sem, eST, hk]; (repeat' (first | (refine hK _ ?_; clear hK hkp kp K) | (with_reducible refine And.intro ?_ ?_) | omega))) | ((first | refine aG (fun h => ?_) (fun h => ?_) | refine aD (fun h => ?_) (fun h => ?_) | refine aX (fun h => ?_) (fun h => ?_)) <;> simp only [h]) | refine awp_cond_t rfl ?_ | refine awp_cond_f rfl ?_ | ((refine awp_cond rfl (fun h => ?_) (fun h => ?_) <;> try simp only [ifs] at h) <;> (try (exfalso; omega))) | refine awp_ret ?_))
            (refine retA_is (by (simp (implicitDefEqProofs := false) (maxSteps := 2000000) (disch := omega) only [go_sem, Go.Proofs.Tryz.results72, checkM_ok hh hp hb]); rfl) ?_; refine eN hE ?_; simp [oneA, ren, renL, checkM_ok hh hp hb])
        · have y2 : (whereM s.wh == 0) = false := by simpa using z2
          have hp : partsM s = whereM s.wh := by simp [partsM, hk, z0, z1, z2]
          (repeat' (first | refine awp_seq ?_ | refine awp_block ?_ | refine awp_skip ?_ | refine awp_exit ?_ | ((first | refine rR (fun K kp hK hkp => ?_) | refine rX (id := 16) mixed [1] 24 [0,1,2,3,4,5,6,7,8,9,10,11,12,13,14,15,16,17,18,19,20,21,22,23] (fun K kp hK hkp => ?_) | refine rX (id := 19) mixed [1] 12 [0,1,2,3,4,5,6,7,8,9,10,11] (fun K kp hK hkp => ?_) | refine cR tc ?_ | refine cD tc ?_ | refine cX tc ?_ | refine cR p0 ?_ | refine cD p0 ?_ | refine cX p0 ?_ | refine cR p1 ?_ | refine cD p1 ?_ | refine cX p1 ?_ | refine cR p2 ?_ | refine cD p2 ?_ | refine cX p2 ?_ | refine iG ?_ | refine iD ?_ | refine iX ?_); simp (implicitDefEqProofs := false) (maxSteps := 2000000) (disch := omega) only [go_sem, eST, hk, y2]; (repeat' (first | (refine hK _ ?_; clear hK hkp kp K) | (with_reducible refine And.intro ?_ ?_) | omega))) | ((first | refine aG (fun h => ?_) (fun h => ?_) | refine aD (fun h => ?_) (fun h => ?_) | refine aX (fun h => ?_) (fun h => ?_)) <;> simp only [h]) | refine awp_cond_t rfl ?_ | refine awp_cond_f rfl ?_ | ((refine awp_cond rfl (fun h => ?_) (fun h => ?_) <;> try simp only [ifs] at h) <;> (try (exfalso; omega))) | refine awp_ret ?_))
          (refine retA_is (by (simp (implicitDefEqProofs := false) (maxSteps := 2000000) (disch := omega) only [go_sem, Go.Proofs.Tryz.results72, checkM_parts hh (hp ▸ z2), hp]); rfl) ?_; refine eN hE ?_; simp [oneA, ren, renL, checkM_parts hh (hp ▸ z2), hp])
      · have y1 : (exprM s.to == 0) = false := by simpa using z1
        have hp : partsM s = exprM s.to := by simp [partsM, hk, z0, z1]
        (repeat' (first | refine awp_seq ?_ | refine awp_block ?_ | refine awp_skip ?_ | refine awp_exit ?_ | ((first | refine rR (fun K kp hK hkp => ?_) | refine rX (id := 16) mixed [1] 24 [0,1,2,3,4,5,6,7,8,9,10,11,12,13,14,15,16,17,18,19,20,21,22,23] (fun K kp hK hkp => ?_) | refine rX (id := 19) mixed [1] 12 [0,1,2,3,4,5,6,7,8,9,10,11] (fun K kp hK hkp => ?_) | refine cR tc ?_ | refine cD tc ?_ | refine cX tc ?_ | refine cR p0 ?_ | refine cD p0 ?_ | refine cX p0 ?_ | refine cR p1 ?_ | refine cD p1 ?_ | refine cX p1 ?_ | refine iG ?_ | refine iD ?_ | refine iX ?_); simp (implicitDefEqProofs := false) (maxSteps := 2000000) (disch := omega) only [go_sem, eST, hk, y1]; (repeat' (first | (refine hK _ ?_; clear hK hkp kp K) | (with_reducible refine And.intro ?_ ?_) | omega))) | ((first | refine aG (fun h => ?_) (fun h => ?_) | refine aD (fun h => ?_) (fun h => ?_) | refine aX (fun h => ?_) (fun h => ?_)) <;> simp only [h]) | refine awp_cond_t rfl ?_ | refine awp_cond_f rfl ?_ | ((refine awp_cond rfl (fun h => ?_) (fun h => ?_) <;> try simp only [ifs] at h) <;> (try (exfalso; omega))) | refine awp_ret ?_))
        (refine retA_is (by (simp (implicitDefEqProofs := false) (maxSteps := 2000000) (disch := omega) only [go_sem, Go.Proofs.Tryz.results72, checkM_parts hh (hp ▸ z1), hp]); rfl) ?_; refine eN hE ?_; simp [oneA, ren, renL, checkM_parts hh (hp ▸ z1), hp])
    · have y0 : (nameM s.set == 0) = false := by simpa using z0
      have hp : partsM s = nameM s.set := by simp [partsM, hk, z0]
      (repeat' (first | refine awp_seq ?_ | refine awp_block ?_ | refine awp_skip ?_ | refine awp_exit ?_ | ((first | refine rR (fun K kp hK hkp => ?_) | refine rX (id := 16) mixed [1] 24 [0,1,2,3,4,5,6,7,8,9,10,11,12,13,14,15,16,17,18,19,20,21,22,23] (fun K kp hK hkp => ?_) | refine rX (id := 19) mixed [1] 12 [0,1,2,3,4,5,6,7,8,9,10,11] (fun K kp hK hkp => ?_) | refine cR tc ?_ | refine cD tc ?_ | refine cX tc ?_ | refine cR p0 ?_ | refine cD p0 ?_ | refine cX p0 ?_ | refine iG ?_ | refine iD ?_ | refine iX ?_); simp (implicitDefEqProofs := false) (maxSteps := 2000000) (disch := omega) only [go_sem, eST, hk, y0]; (repeat' (first | (refine hK _ ?_; clear hK hkp kp K) | (with_reducible refine And.intro ?_ ?_) | omega))) | ((first | refine aG (fun h => ?_) (fun h => ?_) | refine aD (fun h => ?_) (fun h => ?_) | refine aX (fun h => ?_) (fun h => ?_)) <;> simp only [h]) | refine awp_cond_t rfl ?_ | refine awp_cond_f rfl ?_ | ((refine awp_cond rfl (fun h => ?_) (fun h => ?_) <;> try simp only [ifs] at h) <;> (try (exfalso; omega))) | refine awp_ret ?_))
      (refine retA_is (by (simp (implicitDefEqProofs := false) (maxSteps := 2000000) (disch := omega) only [go_sem, Go.Proofs.Tryz.results72, checkM_parts hh (hp ▸ z0), hp]); rfl) ?_; refine eN hE ?_; simp [oneA, ren, renL, checkM_parts hh (hp ▸ z0), hp])
  · have bn : (nameM s.tab != 0) = true := by simpa using hn
    (repeat' (first | refine awp_seq ?_ | refine awp_block ?_ | refine awp_skip ?_ | refine awp_exit ?_ | ((first | refine rR (fun K kp hK hkp => ?_) | refine rX (id := 16) mixed [] 24 [0,1,2,3,4,5,6,7,8,9,10,11,12,13,14,15,16,17,18,19,20,21,22,23] (fun K kp hK hkp => ?_) | refine rX (id := 19) mixed [] 12 [0,1,2,3,4,5,6,7,8,9,10,11] (fun K kp hK hkp => ?_) | refine cR tc ?_ | refine cD tc ?_ | refine cX tc ?_ | refine iG ?_ | refine iD ?_ | refine iX ?_); simp (implicitDefEqProofs := false) (maxSteps := 2000000) (disch := omega) only [go_sem, eST, hk, bn]; (repeat' (first | (refine hK _ ?_; clear hK hkp kp K) | (with_reducible refine And.intro ?_ ?_) | omega))) | ((first | refine aG (fun h => ?_) (fun h => ?_) | refine aD (fun h => ?_) (fun h => ?_) | refine aX (fun h => ?_) (fun h => ?_)) <;> simp only [h]) | refine awp_cond_t rfl ?_ | refine awp_cond_f rfl ?_ | ((refine awp_cond rfl (fun h => ?_) (fun h => ?_) <;> try simp only [ifs] at h) <;> (try (exfalso; omega))) | refine awp_ret ?_))
    (refine retA_is (by (simp (implicitDefEqProofs := false) (maxSteps := 2000000) (disch := omega) only [go_sem, Go.Proofs.Tryz.results72, checkM_name (show s.k < 7 by omega) hn]); rfl) ?_; refine eN hE ?_; simp [oneA, ren, renL, checkM_name (show s.k < 7 by omega) hn])
set_option maxRecDepth 100000 in
set_option maxHeartbeats 8000000 in
theorem check6_con {G : List (Nat × List Value)} (T : Tabs G) (s : ST) (o : okST s) (hk : s.k = 6) : Con Go.Proofs.Tryz.prog G 72 [.agg (eST s)] [] 0 (Is (.r (.int .i64 (checkM s))) [] 0) No := by
  refine con_of_awp Go.Proofs.Tryz.func72 rfl (by kernel_rfl) (of_decide_eq_true (by kernel_rfl)) ?_; intro E hG hE; subst hG; simp only [ent]
  have tc := name_con T s.tab o.tab
  by_cases hn : nameM s.tab = 0
  · rw [hn] at tc
    have hh : ¬ (s.k < 7 ∧ nameM s.tab ≠ 0) := fun h => h.2 hn
    have p0 := where_con T true s.wh o.lw o.wh
    by_cases z0 : whereM s.wh = 0
    · rw [z0] at p0
      have hp : partsM s = 0 := by simp [partsM, hk, z0]
      have hS : hasM s = ⟨6, s.tab, [], [], [], false, s.wh, b0, false, -1, b0, []⟩ := by simp [hasM, hk]
      have bc := bare_con E.G s (hasM s)
      cases hb : bareB s (hasM s)
      · rw [hb, hS] at bc
        simp only [eST, hk, List.map_nil] at bc
        have bc := bc.weak (xs := [.agg [.r (.int .i64 6), .r (.string s.tab), .ro true 2 (s.cols.map eC), .ro true 3 (s.row.map eV), .ro true 1 (s.names.map eStr), .r (.bool s.count), .ro true 5 (s.wh.map eO), .r (.string s.ord), .r (.bool s.down), .r (.int .i64 s.lim), .r (.string s.set), .ro true 5 (s.to.map eO)], .agg [.r (.int .i64 6), .r (.string s.tab), .r (.slice none 0 0), .r (.slice none 0 0), .r (.slice none 0 0), .r (.bool false), .ro true 5 (s.wh.map eO), .r (.string b0), .r (.bool false), .r (.int .i64 (-1)), .r (.string b0), .r (.slice none 0 0)]]) (by simp [wkL, wk])
        (repeat' (first | refine awp_seq ?_ | refine awp_block ?_ | refine awp_skip ?_ | refine awp_exit ?_ | ((first | refine rR (fun K kp hK hkp => ?_) | refine rX (id := 16) mixed [1] 24 [0,1,2,3,4,5,6,7,8,9,10,11,12,13,14,15,16,17,18,19,20,21,22,23] (fun K kp hK hkp => ?_) | refine rX (id := 19) mixed [1] 12 [0,1,2,3,4,5,6,7,8,9,10,11] (fun K kp hK hkp => ?_) | refine cR tc ?_ | refine cD tc ?_ | refine cX tc ?_ | refine cR p0 ?_ | refine cD p0 ?_ | refine cX p0 ?_ | refine cR bc ?_ | refine cD bc ?_ | refine cX bc ?_ | refine iG ?_ | refine iD ?_ | refine iX ?_); simp (implicitDefEqProofs := false) (maxSteps := 2000000) (disch := omega) only [go_sem, eST, hk]; (repeat' (first | (refine hK _ ?_; clear hK hkp kp K) | (with_reducible refine And.intro ?_ ?_) | omega))) | ((first | refine aG (fun h => ?_) (fun h => ?_) | refine aD (fun h => ?_) (fun h => ?_) | refine aX (fun h => ?_) (fun h => ?_)) <;> simp only [h]) | refine awp_cond_t rfl ?_ | refine awp_cond_f rfl ?_ | ((refine awp_cond rfl (fun h => ?_) (fun h => ?_) <;> try simp only [ifs] at h) <;> (try (exfalso; omega))) | refine awp_ret ?_))
        (refine retA_is (by (simp (implicitDefEqProofs := false) (maxSteps := 2000000) (disch := omega) only [go_sem, Go.Proofs.Tryz.results72, checkM_form hh hp hb]); rfl) ?_; refine eN hE ?_; simp [oneA, ren, renL, checkM_form hh hp hb])
      · rw [hb, hS] at bc
        simp only [eST, hk, List.map_nil] at bc
        have bc := bc.weak (xs := [.agg [.r (.int .i64 6), .r (.string s.tab), .ro true 2 (s.cols.map eC), .ro true 3 (s.row.map eV), .ro true 1 (s.names.map eStr), .r (.bool s.count), .ro true 5 (s.wh.map eO), .r (.string s.ord), .r (.bool s.down), .r (.int .i64 s.lim), .r (.string s.set), .ro true 5 (s.to.map eO)], .agg [.r (.int .i64 6), .r (.string s.tab), .r (.slice none 0 0), .r (.slice none 0 0), .r (.slice none 0 0), .r (.bool false), .ro true 5 (s.wh.map eO), .r (.string b0), .r (.bool false), .r (.int .i64 (-1)), .r (.string b0), .r (.slice none 0 0)]]) (by simp [wkL, wk])
        (repeat' (first | refine awp_seq ?_ | refine awp_block ?_ | refine awp_skip ?_ | refine awp_exit ?_ | ((first | refine rR (fun K kp hK hkp => ?_) | refine rX (id := 16) mixed [1] 24 [0,1,2,3,4,5,6,7,8,9,10,11,12,13,14,15,16,17,18,19,20,21,22,23] (fun K kp hK hkp => ?_) | refine rX (id := 19) mixed [1] 12 [0,1,2,3,4,5,6,7,8,9,10,11] (fun K kp hK hkp => ?_) | refine cR tc ?_ | refine cD tc ?_ | refine cX tc ?_ | refine cR p0 ?_ | refine cD p0 ?_ | refine cX p0 ?_ | refine cR bc ?_ | refine cD bc ?_ | refine cX bc ?_ | refine iG ?_ | refine iD ?_ | refine iX ?_); simp (implicitDefEqProofs := false) (maxSteps := 2000000) (disch := omega) only [go_sem, eST, hk]; (repeat' (first | (refine hK _ ?_; clear hK hkp kp K) | (with_reducible refine And.intro ?_ ?_) | omega))) | ((first | refine aG (fun h => ?_) (fun h => ?_) | refine aD (fun h => ?_) (fun h => ?_) | refine aX (fun h => ?_) (fun h => ?_)) <;> simp only [h]) | refine awp_cond_t rfl ?_ | refine awp_cond_f rfl ?_ | ((refine awp_cond rfl (fun h => ?_) (fun h => ?_) <;> try simp only [ifs] at h) <;> (try (exfalso; omega))) | refine awp_ret ?_))
        (refine retA_is (by (simp (implicitDefEqProofs := false) (maxSteps := 2000000) (disch := omega) only [go_sem, Go.Proofs.Tryz.results72, checkM_ok hh hp hb]); rfl) ?_; refine eN hE ?_; simp [oneA, ren, renL, checkM_ok hh hp hb])
    · have y0 : (whereM s.wh == 0) = false := by simpa using z0
      have hp : partsM s = whereM s.wh := by simp [partsM, hk, z0]
      (repeat' (first | refine awp_seq ?_ | refine awp_block ?_ | refine awp_skip ?_ | refine awp_exit ?_ | ((first | refine rR (fun K kp hK hkp => ?_) | refine rX (id := 16) mixed [1] 24 [0,1,2,3,4,5,6,7,8,9,10,11,12,13,14,15,16,17,18,19,20,21,22,23] (fun K kp hK hkp => ?_) | refine rX (id := 19) mixed [1] 12 [0,1,2,3,4,5,6,7,8,9,10,11] (fun K kp hK hkp => ?_) | refine cR tc ?_ | refine cD tc ?_ | refine cX tc ?_ | refine cR p0 ?_ | refine cD p0 ?_ | refine cX p0 ?_ | refine iG ?_ | refine iD ?_ | refine iX ?_); simp (implicitDefEqProofs := false) (maxSteps := 2000000) (disch := omega) only [go_sem, eST, hk, y0]; (repeat' (first | (refine hK _ ?_; clear hK hkp kp K) | (with_reducible refine And.intro ?_ ?_) | omega))) | ((first | refine aG (fun h => ?_) (fun h => ?_) | refine aD (fun h => ?_) (fun h => ?_) | refine aX (fun h => ?_) (fun h => ?_)) <;> simp only [h]) | refine awp_cond_t rfl ?_ | refine awp_cond_f rfl ?_ | ((refine awp_cond rfl (fun h => ?_) (fun h => ?_) <;> try simp only [ifs] at h) <;> (try (exfalso; omega))) | refine awp_ret ?_))
      (refine retA_is (by (simp (implicitDefEqProofs := false) (maxSteps := 2000000) (disch := omega) only [go_sem, Go.Proofs.Tryz.results72, checkM_parts hh (hp ▸ z0), hp]); rfl) ?_; refine eN hE ?_; simp [oneA, ren, renL, checkM_parts hh (hp ▸ z0), hp])
  · have bn : (nameM s.tab != 0) = true := by simpa using hn
    (repeat' (first | refine awp_seq ?_ | refine awp_block ?_ | refine awp_skip ?_ | refine awp_exit ?_ | ((first | refine rR (fun K kp hK hkp => ?_) | refine rX (id := 16) mixed [] 24 [0,1,2,3,4,5,6,7,8,9,10,11,12,13,14,15,16,17,18,19,20,21,22,23] (fun K kp hK hkp => ?_) | refine rX (id := 19) mixed [] 12 [0,1,2,3,4,5,6,7,8,9,10,11] (fun K kp hK hkp => ?_) | refine cR tc ?_ | refine cD tc ?_ | refine cX tc ?_ | refine iG ?_ | refine iD ?_ | refine iX ?_); simp (implicitDefEqProofs := false) (maxSteps := 2000000) (disch := omega) only [go_sem, eST, hk, bn]; (repeat' (first | (refine hK _ ?_; clear hK hkp kp K) | (with_reducible refine And.intro ?_ ?_) | omega))) | ((first | refine aG (fun h => ?_) (fun h => ?_) | refine aD (fun h => ?_) (fun h => ?_) | refine aX (fun h => ?_) (fun h => ?_)) <;> simp only [h]) | refine awp_cond_t rfl ?_ | refine awp_cond_f rfl ?_ | ((refine awp_cond rfl (fun h => ?_) (fun h => ?_) <;> try simp only [ifs] at h) <;> (try (exfalso; omega))) | refine awp_ret ?_))
    (refine retA_is (by (simp (implicitDefEqProofs := false) (maxSteps := 2000000) (disch := omega) only [go_sem, Go.Proofs.Tryz.results72, checkM_name (show s.k < 7 by omega) hn]); rfl) ?_; refine eN hE ?_; simp [oneA, ren, renL, checkM_name (show s.k < 7 by omega) hn])
set_option maxRecDepth 100000 in
set_option maxHeartbeats 8000000 in
theorem check7_con {G : List (Nat × List Value)} (T : Tabs G) (s : ST) (o : okST s) (hk : 7 ≤ s.k) : Con Go.Proofs.Tryz.prog G 72 [.agg (eST s)] [] 0 (Is (.r (.int .i64 (checkM s))) [] 0) No := by
  refine con_of_awp Go.Proofs.Tryz.func72 rfl (by kernel_rfl) (of_decide_eq_true (by kernel_rfl)) ?_; intro E hG hE; subst hG; simp only [ent]
  have d7 : decide (s.k < 7) = false := decide_eq_false (by omega)
  have e1 : (s.k == 1) = false := by simp; omega
  have e3 : (s.k == 3) = false := by simp; omega
  have e4 : (s.k == 4) = false := by simp; omega
  have e5 : (s.k == 5) = false := by simp; omega
  have e6 : (s.k == 6) = false := by simp; omega
  have hh : ¬ (s.k < 7 ∧ nameM s.tab ≠ 0) := fun h => by omega
  have hp : partsM s = 0 := by rw [partsM, if_neg (by omega), if_neg (by omega), if_neg (by omega), if_neg (by omega), if_neg (by omega)]
  have hS : hasM s = ⟨s.k, b0, [], [], [], false, [], b0, false, -1, b0, []⟩ := by rw [hasM, if_neg (by omega), if_neg (by omega), if_neg (by omega), if_neg (by omega), if_neg (by omega), if_neg (by omega)]
  have bc := bare_con E.G s (hasM s)
  cases hb : bareB s (hasM s)
  · rw [hb, hS] at bc
    simp only [eST, List.map_nil] at bc
    have bc := bc.weak (xs := [.agg [.r (.int .i64 s.k), .r (.string s.tab), .ro true 2 (s.cols.map eC), .ro true 3 (s.row.map eV), .ro true 1 (s.names.map eStr), .r (.bool s.count), .ro true 5 (s.wh.map eO), .r (.string s.ord), .r (.bool s.down), .r (.int .i64 s.lim), .r (.string s.set), .ro true 5 (s.to.map eO)], .agg [.r (.int .i64 s.k), .r (.string b0), .r (.slice none 0 0), .r (.slice none 0 0), .r (.slice none 0 0), .r (.bool false), .r (.slice none 0 0), .r (.string b0), .r (.bool false), .r (.int .i64 (-1)), .r (.string b0), .r (.slice none 0 0)]]) (by simp [wkL, wk])
    (repeat' (first | refine awp_seq ?_ | refine awp_block ?_ | refine awp_skip ?_ | refine awp_exit ?_ | ((first | refine rR (fun K kp hK hkp => ?_) | refine rX (id := 16) mixed [1] 24 [0,1,2,3,4,5,6,7,8,9,10,11,12,13,14,15,16,17,18,19,20,21,22,23] (fun K kp hK hkp => ?_) | refine rX (id := 19) mixed [1] 12 [0,1,2,3,4,5,6,7,8,9,10,11] (fun K kp hK hkp => ?_) | refine cR bc ?_ | refine cD bc ?_ | refine cX bc ?_ | refine iG ?_ | refine iD ?_ | refine iX ?_); simp (implicitDefEqProofs := false) (maxSteps := 2000000) (disch := omega) only [go_sem, eST, d7, e1, e3, e4, e5, e6]; (repeat' (first | (refine hK _ ?_; clear hK hkp kp K) | (with_reducible refine And.intro ?_ ?_) | omega))) | ((first | refine aG (fun h => ?_) (fun h => ?_) | refine aD (fun h => ?_) (fun h => ?_) | refine aX (fun h => ?_) (fun h => ?_)) <;> simp only [h]) | refine awp_cond_t rfl ?_ | refine awp_cond_f rfl ?_ | ((refine awp_cond rfl (fun h => ?_) (fun h => ?_) <;> try simp only [ifs] at h) <;> (try (exfalso; omega))) | refine awp_ret ?_))
    (refine retA_is (by (simp (implicitDefEqProofs := false) (maxSteps := 2000000) (disch := omega) only [go_sem, Go.Proofs.Tryz.results72, checkM_form hh hp hb]); rfl) ?_; refine eN hE ?_; simp [oneA, ren, renL, checkM_form hh hp hb])
  · rw [hb, hS] at bc
    simp only [eST, List.map_nil] at bc
    have bc := bc.weak (xs := [.agg [.r (.int .i64 s.k), .r (.string s.tab), .ro true 2 (s.cols.map eC), .ro true 3 (s.row.map eV), .ro true 1 (s.names.map eStr), .r (.bool s.count), .ro true 5 (s.wh.map eO), .r (.string s.ord), .r (.bool s.down), .r (.int .i64 s.lim), .r (.string s.set), .ro true 5 (s.to.map eO)], .agg [.r (.int .i64 s.k), .r (.string b0), .r (.slice none 0 0), .r (.slice none 0 0), .r (.slice none 0 0), .r (.bool false), .r (.slice none 0 0), .r (.string b0), .r (.bool false), .r (.int .i64 (-1)), .r (.string b0), .r (.slice none 0 0)]]) (by simp [wkL, wk])
    (repeat' (first | refine awp_seq ?_ | refine awp_block ?_ | refine awp_skip ?_ | refine awp_exit ?_ | ((first | refine rR (fun K kp hK hkp => ?_) | refine rX (id := 16) mixed [1] 24 [0,1,2,3,4,5,6,7,8,9,10,11,12,13,14,15,16,17,18,19,20,21,22,23] (fun K kp hK hkp => ?_) | refine rX (id := 19) mixed [1] 12 [0,1,2,3,4,5,6,7,8,9,10,11] (fun K kp hK hkp => ?_) | refine cR bc ?_ | refine cD bc ?_ | refine cX bc ?_ | refine iG ?_ | refine iD ?_ | refine iX ?_); simp (implicitDefEqProofs := false) (maxSteps := 2000000) (disch := omega) only [go_sem, eST, d7, e1, e3, e4, e5, e6]; (repeat' (first | (refine hK _ ?_; clear hK hkp kp K) | (with_reducible refine And.intro ?_ ?_) | omega))) | ((first | refine aG (fun h => ?_) (fun h => ?_) | refine aD (fun h => ?_) (fun h => ?_) | refine aX (fun h => ?_) (fun h => ?_)) <;> simp only [h]) | refine awp_cond_t rfl ?_ | refine awp_cond_f rfl ?_ | ((refine awp_cond rfl (fun h => ?_) (fun h => ?_) <;> try simp only [ifs] at h) <;> (try (exfalso; omega))) | refine awp_ret ?_))
    (refine retA_is (by (simp (implicitDefEqProofs := false) (maxSteps := 2000000) (disch := omega) only [go_sem, Go.Proofs.Tryz.results72, checkM_ok hh hp hb]); rfl) ?_; refine eN hE ?_; simp [oneA, ren, renL, checkM_ok hh hp hb])
theorem check_con {G : List (Nat × List Value)} (T : Tabs G) (s : ST) (o : okST s) (h1 : 1 ≤ s.k) : Con Go.Proofs.Tryz.prog G 72 [.agg (eST s)] [] 0 (Is (.r (.int .i64 (checkM s))) [] 0) No := by
  by_cases h7 : 7 ≤ s.k
  · exact check7_con T s o h7
  obtain h | h | h | h | h | h : s.k = 1 ∨ s.k = 2 ∨ s.k = 3 ∨ s.k = 4 ∨ s.k = 5 ∨ s.k = 6 := by omega
  · exact check1_con T s o h
  · exact check2_con T s o h
  · exact check3_con T s o h
  · exact check4_con T s o h
  · exact check5_con T s o h
  · exact check6_con T s o h
end Go.AM
/- Columns: expr.Cols and the reference's answer. -/
namespace Go.AM
open Go Go.RowKit
open Go.Proofs.YtoecmmpjndcolaaGreatDoor (OP nameM litM exprM marksS wordsS StrsAt str SlAt letB wrdB digB bt)
attribute [local irreducible] AWP retA
theorem ok_s0 {l : List CO} (hl : l.length ≤ 1048576) (hs : ∀ c ∈ l, okS c.nm) : okST (s0 l) := by
  have h0 : okS (str []) := by rw [okS, str_size]; simp
  exact ⟨by rw [okS, s0, str_size]; simp [Go.maxLen], hs, by simp [s0], by simp [s0], by simp [s0], h0, h0, by simp [s0], hl, by simp [s0], by simp [s0], by simp [s0], by simp [s0]⟩
theorem check_s0 (l : List CO) : checkM (s0 l) = colsM l := by
  have hh : ¬ ((s0 l).k < 7 ∧ nameM (s0 l).tab ≠ 0) := fun h => h.2 name_t
  have hp : partsM (s0 l) = colsM l := by rw [partsM, if_pos (show (s0 l).k = 1 from rfl)]; rfl
  by_cases hc : colsM l = 0
  · rw [checkM_ok hh (hp.trans hc) (by simp [bareB, hasM, s0, b0, str]), hc]
  · rw [checkM_parts hh (by rw [hp]; exact hc), hp]
set_option maxRecDepth 100000 in
set_option maxHeartbeats 8000000 in
theorem parseCheck0_con {G : List (Nat × List Value)} (T : Tabs G) (l : List CO) (hl : l.length ≤ 1048576) (hs : ∀ c ∈ l, okS c.nm) : Con Go.Proofs.Tryz.prog G 44 [.agg (eST (s0 l))] [] 0 (Is (.r (.int .i64 (colsM l))) [] 0) No := by
  refine con_of_awp Go.Proofs.Tryz.func44 rfl (by kernel_rfl) (of_decide_eq_true (by kernel_rfl)) ?_; intro E hG hE; subst hG; simp only [ent]
  have cc := check1_con T (s0 l) (ok_s0 hl hs) rfl
  rw [check_s0] at cc
  simp only [eST, s0, List.map_nil] at cc
  by_cases hc : colsM l = 0
  · rw [hc] at cc ⊢
    obtain ⟨c1, c6, cg⟩ := colsM_ok hc
    have sc := show1_con T (s0 l) rfl c6 (fun c h => (cg c h).1)
    have hlen := create_len c6
    generalize createT (s0 l) = ct at sc hlen
    simp only [eST, s0, List.map_nil] at sc
    have d1 : decide ((ct.length : Int) > 100) = false := decide_eq_false (by omega)
    (repeat' (first | refine awp_seq ?_ | refine awp_block ?_ | refine awp_skip ?_ | refine awp_exit ?_ | ((first | refine rR (fun K kp hK hkp => ?_) | refine cR cc ?_ | refine cR sc ?_ | refine iG ?_); simp (implicitDefEqProofs := false) (maxSteps := 2000000) (disch := omega) only [go_sem, eST, s0, d1]; (repeat' (first | (refine hK _ ?_; clear hK hkp kp K) | (with_reducible refine And.intro ?_ ?_) | omega))) | ((first | refine aG (fun h => ?_) (fun h => ?_) | refine aD (fun h => ?_) (fun h => ?_) | refine aX (fun h => ?_) (fun h => ?_)) <;> simp only [h]) | refine awp_cond_t rfl ?_ | refine awp_cond_f rfl ?_ | ((refine awp_cond rfl (fun h => ?_) (fun h => ?_) <;> try simp only [ifs] at h) <;> (try (exfalso; omega))) | refine awp_ret ?_))
    (refine retA_is (by (simp (implicitDefEqProofs := false) (maxSteps := 2000000) (disch := omega) only [go_sem, Go.Proofs.Tryz.results44]); rfl) ?_; refine eN hE ?_; simp [oneA, ren, renL])
  · have b1 : (colsM l != 0) = true := by simpa using hc
    (repeat' (first | refine awp_seq ?_ | refine awp_block ?_ | refine awp_skip ?_ | refine awp_exit ?_ | ((first | refine rR (fun K kp hK hkp => ?_) | refine cR cc ?_ | refine iG ?_); simp (implicitDefEqProofs := false) (maxSteps := 2000000) (disch := omega) only [go_sem, eST, s0, b1]; (repeat' (first | (refine hK _ ?_; clear hK hkp kp K) | (with_reducible refine And.intro ?_ ?_) | omega))) | ((first | refine aG (fun h => ?_) (fun h => ?_) | refine aD (fun h => ?_) (fun h => ?_) | refine aX (fun h => ?_) (fun h => ?_)) <;> simp only [h]) | refine awp_cond_t rfl ?_ | refine awp_cond_f rfl ?_ | ((refine awp_cond rfl (fun h => ?_) (fun h => ?_) <;> try simp only [ifs] at h) <;> (try (exfalso; omega))) | refine awp_ret ?_))
    (refine retA_is (by (simp (implicitDefEqProofs := false) (maxSteps := 2000000) (disch := omega) only [go_sem, Go.Proofs.Tryz.results44]); rfl) ?_; refine eN hE ?_; simp [oneA, ren, renL])
set_option maxRecDepth 100000 in
set_option maxHeartbeats 8000000 in
theorem fault0_con (G : List (Nat × List Value)) (l : List CO) (hl : l.length ≤ 1048576) (hs : ∀ c ∈ l, okS c.nm) : Con Go.Proofs.Tryz.prog G 52 [.agg (eST (s0 l))] [] 0 (Is (.r (.int .i64 (colsM l))) [] 0) No := by
  refine con_of_awp Go.Proofs.Tryz.func52 rfl (by kernel_rfl) (of_decide_eq_true (by kernel_rfl)) ?_; intro E hG hE; subst hG; simp only [ent]
  have ic := in_con E.G 1 1 9
  rw [in_yes (by omega) (by omega)] at ic
  have nc := nameFault_con E.G (str [116]) (by rw [okS, str_size]; simp [Go.maxLen])
  rw [name_t] at nc
  have pc := parts1_con E.G (s0 l) rfl hl hs
  simp only [eST, s0, List.map_nil] at pc
  by_cases hc : colsM l = 0
  · rw [hc] at pc ⊢
    obtain ⟨c1, c6, cg⟩ := colsM_ok hc
    have tc := tokens1_con E.G (s0 l) rfl c6 cg (good_of_name name_t)
    have hlen := create_len c6
    generalize createT (s0 l) = ct at tc hlen
    simp only [eST, s0, List.map_nil] at tc
    have d1 : decide ((ct.length : Int) > 100) = false := decide_eq_false (by omega)
    have e0 : ((str []).toList == ByteArray.toList ⟨#[]⟩) = true := by simp [str]
    (repeat' (first | refine awp_seq ?_ | refine awp_block ?_ | refine awp_skip ?_ | refine awp_exit ?_ | ((first | refine rR (fun K kp hK hkp => ?_) | refine cR ic ?_ | refine cR nc ?_ | refine cR pc ?_ | refine cR tc ?_ | refine iG ?_); simp (implicitDefEqProofs := false) (maxSteps := 2000000) (disch := omega) only [go_sem, eST, s0, d1, e0]; (repeat' (first | (refine hK _ ?_; clear hK hkp kp K) | (with_reducible refine And.intro ?_ ?_) | omega))) | ((first | refine aG (fun h => ?_) (fun h => ?_) | refine aD (fun h => ?_) (fun h => ?_) | refine aX (fun h => ?_) (fun h => ?_)) <;> simp only [h]) | refine awp_cond_t rfl ?_ | refine awp_cond_f rfl ?_ | ((refine awp_cond rfl (fun h => ?_) (fun h => ?_) <;> try simp only [ifs] at h) <;> (try (exfalso; omega))) | refine awp_ret ?_))
    (refine retA_is (by (simp (implicitDefEqProofs := false) (maxSteps := 2000000) (disch := omega) only [go_sem, Go.Proofs.Tryz.results52]); rfl) ?_; refine eN hE ?_; simp [oneA, ren, renL])
  · have b1 : (colsM l != 0) = true := by simpa using hc
    (repeat' (first | refine awp_seq ?_ | refine awp_block ?_ | refine awp_skip ?_ | refine awp_exit ?_ | ((first | refine rR (fun K kp hK hkp => ?_) | refine cR ic ?_ | refine cR nc ?_ | refine cR pc ?_ | refine iG ?_); simp (implicitDefEqProofs := false) (maxSteps := 2000000) (disch := omega) only [go_sem, eST, s0, b1]; (repeat' (first | (refine hK _ ?_; clear hK hkp kp K) | (with_reducible refine And.intro ?_ ?_) | omega))) | ((first | refine aG (fun h => ?_) (fun h => ?_) | refine aD (fun h => ?_) (fun h => ?_) | refine aX (fun h => ?_) (fun h => ?_)) <;> simp only [h]) | refine awp_cond_t rfl ?_ | refine awp_cond_f rfl ?_ | ((refine awp_cond rfl (fun h => ?_) (fun h => ?_) <;> try simp only [ifs] at h) <;> (try (exfalso; omega))) | refine awp_ret ?_))
    (refine retA_is (by (simp (implicitDefEqProofs := false) (maxSteps := 2000000) (disch := omega) only [go_sem, Go.Proofs.Tryz.results52]); rfl) ?_; refine eN hE ?_; simp [oneA, ren, renL])
set_option maxRecDepth 100000 in
theorem exprCols_con {G : List (Nat × List Value)} (T : Tabs G) (t : Bool) (l : List CO) (hl : l.length ≤ 1048576) (hs : ∀ c ∈ l, okS c.nm) : Con Go.Proofs.Tryz.prog G 19 [.ro true 2 (l.map eC)] [] 0 (Is (.r (.int .i64 (colsM l))) [] 0) No := by
  refine con_of_awp Go.Proofs.Tryz.func19 rfl (by kernel_rfl) (of_decide_eq_true (by kernel_rfl)) ?_; intro E hG hE; subst hG; simp only [ent]
  have cc := (parseCheck0_con T l hl hs).weak (xs := [.agg [.r (.int .i64 1), .r (.string (str [116])), .ro true 2 (l.map eC), .r (.slice none 0 0), .r (.slice none 0 0), .r (.bool false), .r (.slice none 0 0), .r (.string (str [])), .r (.bool false), .r (.int .i64 (-1)), .r (.string (str [])), .r (.slice none 0 0)]]) (by simp [wkL, wk, eST, s0])
  (repeat' (first | refine awp_seq ?_ | refine awp_block ?_ | refine awp_skip ?_ | refine awp_exit ?_ | ((first | refine rR (fun K kp hK hkp => ?_) | refine cR cc ?_ | refine iG ?_); simp (implicitDefEqProofs := false) (maxSteps := 2000000) (disch := omega) only [go_sem]; (repeat' (first | (refine hK _ ?_; clear hK hkp kp K) | (with_reducible refine And.intro ?_ ?_) | omega))) | ((first | refine aG (fun h => ?_) (fun h => ?_) | refine aD (fun h => ?_) (fun h => ?_) | refine aX (fun h => ?_) (fun h => ?_)) <;> simp only [h]) | refine awp_cond_t rfl ?_ | refine awp_cond_f rfl ?_ | ((refine awp_cond rfl (fun h => ?_) (fun h => ?_) <;> try simp only [ifs] at h) <;> (try (exfalso; omega))) | refine awp_ret ?_))
  (refine retA_is (by (simp (implicitDefEqProofs := false) (maxSteps := 2000000) (disch := omega) only [go_sem, Go.Proofs.Tryz.results19]); rfl) ?_; refine eN hE ?_; simp [oneA, ren, renL])
set_option maxRecDepth 100000 in
theorem colsFault_con (G : List (Nat × List Value)) (l : List CO) (hl : l.length ≤ 1048576) (hs : ∀ c ∈ l, okS c.nm) : Con Go.Proofs.Tryz.prog G 21 [.ro true 2 (l.map eC)] [] 0 (Is (.r (.int .i64 (colsM l))) [] 0) No := by
  refine con_of_awp Go.Proofs.Tryz.func21 rfl (by kernel_rfl) (of_decide_eq_true (by kernel_rfl)) ?_; intro E hG hE; subst hG; simp only [ent]
  have cc := (fault0_con E.G l hl hs).weak (xs := [.agg [.r (.int .i64 1), .r (.string (str [116])), .ro true 2 (l.map eC), .r (.slice none 0 0), .r (.slice none 0 0), .r (.bool false), .r (.slice none 0 0), .r (.string (str [])), .r (.bool false), .r (.int .i64 (-1)), .r (.string (str [])), .r (.slice none 0 0)]]) (by simp [wkL, wk, eST, s0])
  (repeat' (first | refine awp_seq ?_ | refine awp_block ?_ | refine awp_skip ?_ | refine awp_exit ?_ | ((first | refine rR (fun K kp hK hkp => ?_) | refine cR cc ?_ | refine iG ?_); simp (implicitDefEqProofs := false) (maxSteps := 2000000) (disch := omega) only [go_sem]; (repeat' (first | (refine hK _ ?_; clear hK hkp kp K) | (with_reducible refine And.intro ?_ ?_) | omega))) | ((first | refine aG (fun h => ?_) (fun h => ?_) | refine aD (fun h => ?_) (fun h => ?_) | refine aX (fun h => ?_) (fun h => ?_)) <;> simp only [h]) | refine awp_cond_t rfl ?_ | refine awp_cond_f rfl ?_ | ((refine awp_cond rfl (fun h => ?_) (fun h => ?_) <;> try simp only [ifs] at h) <;> (try (exfalso; omega))) | refine awp_ret ?_))
  (refine retA_is (by (simp (implicitDefEqProofs := false) (maxSteps := 2000000) (disch := omega) only [go_sem, Go.Proofs.Tryz.results21]); rfl) ?_; refine eN hE ?_; simp [oneA, ren, renL])
theorem pt_eC {l : List CO} : ∀ e ∈ l.map eC, ∀ x ∈ e, PT x := by
  intro e he x hx
  obtain ⟨a, _, rfl⟩ := List.mem_map.1 he
  simp [eC] at hx; rcases hx with rfl | rfl <;> exact .r _
end Go.AM
/- Rows: expr.Row and the reference's answer; the law ExprRows. -/
namespace Go.AM
open Go Go.RowKit
open Go.Proofs.YtoecmmpjndcolaaGreatDoor (OP nameM litM exprM marksS wordsS StrsAt str SlAt letB wrdB digB bt vcheck)
attribute [local irreducible] AWP retA
theorem val_con (G : List (Nat × List Value)) (v : V) (hs : okS v.s) : Con Go.Proofs.Tryz.prog G 27 [.agg (eV v)] [] 0 (Is (.r (.int .i64 (vcheck v.k v.n v.s))) [] 0) No :=
  con_of_calls (by kernel_rfl) (fun w z vs hz hr hG => by
    obtain ⟨u, r, rfl, h1, h2⟩ := hr.head
    obtain rfl := agg_r (us := [.int .i64 v.k, .int .i64 v.n, .string v.s]) h1
    obtain rfl := h2.of_nil
    exact Go.Proofs.YtoecmmpjndcolaaGreatDoor.val_any v.k v.n v.s w hs)
theorem vfault_con (G : List (Nat × List Value)) (v : V) (hs : okS v.s) : Con Go.Proofs.Tryz.prog G 36 [.agg (eV v)] [] 0 (Is (.r (.int .i64 (vcheck v.k v.n v.s))) [] 0) No :=
  con_of_calls (by kernel_rfl) (fun w z vs hz hr hG => by
    obtain ⟨u, r, rfl, h1, h2⟩ := hr.head
    obtain rfl := agg_r (us := [.int .i64 v.k, .int .i64 v.n, .string v.s]) h1
    obtain rfl := h2.of_nil
    exact Go.Proofs.YtoecmmpjndcolaaGreatDoor.vfault_any v.k v.n v.s w hs)
def rowsF : Bool → List CO → List V → Int
  | _, _, [] => 0
  | _, [], _ :: _ => 0
  | f, c :: cs, v :: vs => if vcheck v.k v.n v.s ≠ 0 then vcheck v.k v.n v.s else if v.k ≠ c.k ∧ (f = true ∨ v.k ≠ 0) then 4 else rowsF false cs vs
def rowsM (l : List CO) (r : List V) : Int := if colsM l ≠ 0 then colsM l else if r.length ≠ l.length then 1 else rowsF true l r
theorem rowsF_step {l : List CO} {r : List V} {k : Nat} {c : CO} {v : V} (hc : l[k]? = some c) (hv : r[k]? = some v) : rowsF (decide (k = 0)) (l.drop k) (r.drop k) =
    if vcheck v.k v.n v.s ≠ 0 then vcheck v.k v.n v.s else if v.k ≠ c.k ∧ (k = 0 ∨ v.k ≠ 0) then 4 else rowsF (decide (k + 1 = 0)) (l.drop (k + 1)) (r.drop (k + 1)) := by
  rw [drop_at hc, drop_at hv, rowsF]; simp
set_option maxRecDepth 100000 in
set_option maxHeartbeats 8000000 in
theorem exprRow_con {G : List (Nat × List Value)} (T : Tabs G) (l : List CO) (r : List V) (hl : l.length ≤ 1048576) (hr : r.length ≤ 1048576) (hs : ∀ c ∈ l, okS c.nm) (hv : ∀ v ∈ r, okS v.s) : Con Go.Proofs.Tryz.prog G 13 [.ro true 2 (l.map eC), .ro true 3 (r.map eV)] [] 0 (Is (.r (.int .i64 (rowsM l r))) [] 0) No := by
  refine con_of_awp Go.Proofs.Tryz.func13 rfl (by kernel_rfl) (of_decide_eq_true (by kernel_rfl)) ?_; intro E hG hE; subst hG; simp only [ent]
  have cc := exprCols_con T true l hl hs
  by_cases h0 : colsM l = 0
  · rw [h0] at cc
    by_cases hlen : r.length = l.length
    · have d1 : ((r.length : Int) != (l.length : Int)) = false := by simp [hlen]
      have hM : rowsM l r = rowsF true l r := by rw [rowsM, if_neg (by simpa using h0), if_neg (by simpa using hlen)]
      rw [hM]
      (repeat' (first | refine awp_seq ?_ | refine awp_block ?_ | refine awp_skip ?_ | refine awp_exit ?_ | ((first | refine rR (fun K kp hK hkp => ?_) | refine rD (id := 12) mixed 17 [0,1,2,3,4,5,6,7,8,9,10,11,12,13,14,15,16] (fun K kp hK hkp => ?_) | refine cR cc ?_ | refine cD cc ?_ | refine iG ?_ | refine iD ?_); simp (implicitDefEqProofs := false) (maxSteps := 2000000) (disch := omega) only [go_sem, d1]; (repeat' (first | (refine hK _ ?_; clear hK hkp kp K) | (with_reducible refine And.intro ?_ ?_) | omega))) | ((first | refine aG (fun h => ?_) (fun h => ?_) | refine aD (fun h => ?_) (fun h => ?_) | refine aX (fun h => ?_) (fun h => ?_)) <;> simp only [h]) | refine awp_cond_t rfl ?_ | refine awp_cond_f rfl ?_ | ((refine awp_cond rfl (fun h => ?_) (fun h => ?_) <;> try simp only [ifs] at h) <;> (try (exfalso; omega))) | refine awp_ret ?_))
      refine awp_loop (fun k : Nat => ⟨[(21, .r (.int .i64 k)), (20, .r (.int .i64 r.length)), (19, .ro true 3 (r.map eV)), (0, .ro true 2 (l.map eC))], [], 0⟩) (fun k => k ≤ r.length ∧ rowsF (decide (k = 0)) (l.drop k) (r.drop k) = rowsF true l r) (fun k => r.length - k) 0 ?_ ?_ ?_
      · simp
      · (refine emb [] ?_ ?_ rfl ?_ ?_ ?_ ?_ <;> simp [okM, okO, lk, ren, renL, renNd, by_, hE] <;> (try omega))
      intro k ⟨hk, hno⟩
      by_cases hlt : k < r.length
      · obtain ⟨v, hx⟩ : ∃ x, r[k]? = some x := ⟨r[k], by simp [hlt]⟩
        obtain ⟨c, hc⟩ : ∃ x, l[k]? = some x := ⟨l[k]'(by omega), by simp⟩
        rw [rowsF_step hc hx] at hno
        have vc := val_con E.G v (hv v (List.mem_of_getElem? hx))
        simp only [eV] at vc
        by_cases hvc : vcheck v.k v.n v.s = 0
        · rw [if_neg (by simpa using hvc)] at hno
          rw [hvc] at vc
          by_cases hkk : v.k = c.k
          · have n1 : (v.k != c.k) = false := by simp [hkk]
            rw [if_neg (by simp [hkk])] at hno
            (repeat' (first | refine awp_seq ?_ | refine awp_block ?_ | refine awp_skip ?_ | refine awp_exit ?_ | ((first | refine rR (fun K kp hK hkp => ?_) | refine rD (id := 12) mixed 17 [0,1,2,3,4,5,6,7,8,9,10,11,12,13,14,15,16] (fun K kp hK hkp => ?_) | refine cR vc ?_ | refine cD vc ?_ | refine iG ?_ | refine iD ?_); simp (implicitDefEqProofs := false) (maxSteps := 2000000) (disch := omega) only [go_sem, hx, hc, eV, eC, n1]; (repeat' (first | (refine hK _ ?_; clear hK hkp kp K) | (with_reducible refine And.intro ?_ ?_) | omega))) | ((first | refine aG (fun h => ?_) (fun h => ?_) | refine aD (fun h => ?_) (fun h => ?_) | refine aX (fun h => ?_) (fun h => ?_)) <;> simp only [h]) | refine awp_cond_t rfl ?_ | refine awp_cond_f rfl ?_ | ((refine awp_cond rfl (fun h => ?_) (fun h => ?_) <;> try simp only [ifs] at h) <;> (try (exfalso; omega))) | refine awp_ret ?_))
            ((first | (refine nextB (k + 1) ?_ ?_ ?_) | (refine nextA (k + 1) ?_ ?_ ?_)); rotate_left; (· (try dsimp only); (first | omega | (simp only [List.length_drop, List.length_cons, List.length_append]; omega) | (simp; done) | (simp; omega))); (· (refine emb [] ?_ ?_ rfl ?_ ?_ ?_ ?_ <;> simp [okM, okO, lk, ren, renL, renNd, by_, hE] <;> (try omega))))
            exact ⟨by omega, hno⟩
          · have n1 : (v.k != c.k) = true := by simp [hkk]
            by_cases hk0 : k = 0
            · have n2 : ((k : Int) == 0) = true := by simp [hk0]
              rw [if_pos ⟨hkk, .inl hk0⟩] at hno
              (repeat' (first | refine awp_seq ?_ | refine awp_block ?_ | refine awp_skip ?_ | refine awp_exit ?_ | ((first | refine rR (fun K kp hK hkp => ?_) | refine rD (id := 12) mixed 17 [0,1,2,3,4,5,6,7,8,9,10,11,12,13,14,15,16] (fun K kp hK hkp => ?_) | refine cR vc ?_ | refine cD vc ?_ | refine iG ?_ | refine iD ?_); simp (implicitDefEqProofs := false) (maxSteps := 2000000) (disch := omega) only [go_sem, hx, hc, eV, eC, n1, n2]; (repeat' (first | (refine hK _ ?_; clear hK hkp kp K) | (with_reducible refine And.intro ?_ ?_) | omega))) | ((first | refine aG (fun h => ?_) (fun h => ?_) | refine aD (fun h => ?_) (fun h => ?_) | refine aX (fun h => ?_) (fun h => ?_)) <;> simp only [h]) | refine awp_cond_t rfl ?_ | refine awp_cond_f rfl ?_ | ((refine awp_cond rfl (fun h => ?_) (fun h => ?_) <;> try simp only [ifs] at h) <;> (try (exfalso; omega))) | refine awp_ret ?_))
              (refine retA_is (by (simp (implicitDefEqProofs := false) (maxSteps := 2000000) (disch := omega) only [go_sem, Go.Proofs.Tryz.results13]); rfl) ?_; refine eN hE ?_; simp [oneA, ren, renL])
              exact hno
            · have n2 : ((k : Int) == 0) = false := by simp [hk0]
              by_cases hv0 : v.k = 0
              · have n3 : (v.k != 0) = false := by simp [hv0]
                rw [if_neg (by simp [hv0, hk0])] at hno
                (repeat' (first | refine awp_seq ?_ | refine awp_block ?_ | refine awp_skip ?_ | refine awp_exit ?_ | ((first | refine rR (fun K kp hK hkp => ?_) | refine rD (id := 12) mixed 17 [0,1,2,3,4,5,6,7,8,9,10,11,12,13,14,15,16] (fun K kp hK hkp => ?_) | refine cR vc ?_ | refine cD vc ?_ | refine iG ?_ | refine iD ?_); simp (implicitDefEqProofs := false) (maxSteps := 2000000) (disch := omega) only [go_sem, hx, hc, eV, eC, n1, n2, n3]; (repeat' (first | (refine hK _ ?_; clear hK hkp kp K) | (with_reducible refine And.intro ?_ ?_) | omega))) | ((first | refine aG (fun h => ?_) (fun h => ?_) | refine aD (fun h => ?_) (fun h => ?_) | refine aX (fun h => ?_) (fun h => ?_)) <;> simp only [h]) | refine awp_cond_t rfl ?_ | refine awp_cond_f rfl ?_ | ((refine awp_cond rfl (fun h => ?_) (fun h => ?_) <;> try simp only [ifs] at h) <;> (try (exfalso; omega))) | refine awp_ret ?_))
                ((first | (refine nextB (k + 1) ?_ ?_ ?_) | (refine nextA (k + 1) ?_ ?_ ?_)); rotate_left; (· (try dsimp only); (first | omega | (simp only [List.length_drop, List.length_cons, List.length_append]; omega) | (simp; done) | (simp; omega))); (· (refine emb [] ?_ ?_ rfl ?_ ?_ ?_ ?_ <;> simp [okM, okO, lk, ren, renL, renNd, by_, hE] <;> (try omega))))
                exact ⟨by omega, hno⟩
              · have n3 : (v.k != 0) = true := by simp [hv0]
                rw [if_pos ⟨hkk, .inr hv0⟩] at hno
                (repeat' (first | refine awp_seq ?_ | refine awp_block ?_ | refine awp_skip ?_ | refine awp_exit ?_ | ((first | refine rR (fun K kp hK hkp => ?_) | refine rD (id := 12) mixed 17 [0,1,2,3,4,5,6,7,8,9,10,11,12,13,14,15,16] (fun K kp hK hkp => ?_) | refine cR vc ?_ | refine cD vc ?_ | refine iG ?_ | refine iD ?_); simp (implicitDefEqProofs := false) (maxSteps := 2000000) (disch := omega) only [go_sem, hx, hc, eV, eC, n1, n2, n3]; (repeat' (first | (refine hK _ ?_; clear hK hkp kp K) | (with_reducible refine And.intro ?_ ?_) | omega))) | ((first | refine aG (fun h => ?_) (fun h => ?_) | refine aD (fun h => ?_) (fun h => ?_) | refine aX (fun h => ?_) (fun h => ?_)) <;> simp only [h]) | refine awp_cond_t rfl ?_ | refine awp_cond_f rfl ?_ | ((refine awp_cond rfl (fun h => ?_) (fun h => ?_) <;> try simp only [ifs] at h) <;> (try (exfalso; omega))) | refine awp_ret ?_))
                (refine retA_is (by (simp (implicitDefEqProofs := false) (maxSteps := 2000000) (disch := omega) only [go_sem, Go.Proofs.Tryz.results13]); rfl) ?_; refine eN hE ?_; simp [oneA, ren, renL])
                exact hno
        · have b1 : (vcheck v.k v.n v.s != 0) = true := by simpa using hvc
          rw [if_pos hvc] at hno
          (repeat' (first | refine awp_seq ?_ | refine awp_block ?_ | refine awp_skip ?_ | refine awp_exit ?_ | ((first | refine rR (fun K kp hK hkp => ?_) | refine rD (id := 12) mixed 17 [0,1,2,3,4,5,6,7,8,9,10,11,12,13,14,15,16] (fun K kp hK hkp => ?_) | refine cR vc ?_ | refine cD vc ?_ | refine iG ?_ | refine iD ?_); simp (implicitDefEqProofs := false) (maxSteps := 2000000) (disch := omega) only [go_sem, hx, hc, eV, eC, b1]; (repeat' (first | (refine hK _ ?_; clear hK hkp kp K) | (with_reducible refine And.intro ?_ ?_) | omega))) | ((first | refine aG (fun h => ?_) (fun h => ?_) | refine aD (fun h => ?_) (fun h => ?_) | refine aX (fun h => ?_) (fun h => ?_)) <;> simp only [h]) | refine awp_cond_t rfl ?_ | refine awp_cond_f rfl ?_ | ((refine awp_cond rfl (fun h => ?_) (fun h => ?_) <;> try simp only [ifs] at h) <;> (try (exfalso; omega))) | refine awp_ret ?_))
          (refine retA_is (by (simp (implicitDefEqProofs := false) (maxSteps := 2000000) (disch := omega) only [go_sem, Go.Proofs.Tryz.results13]); rfl) ?_; refine eN hE ?_; simp [oneA, ren, renL])
          exact hno
      · (repeat' (first | refine awp_seq ?_ | refine awp_block ?_ | refine awp_skip ?_ | refine awp_exit ?_ | ((first | refine rR (fun K kp hK hkp => ?_) | refine rD (id := 12) mixed 17 [0,1,2,3,4,5,6,7,8,9,10,11,12,13,14,15,16] (fun K kp hK hkp => ?_) | refine iG ?_ | refine iD ?_); simp (implicitDefEqProofs := false) (maxSteps := 2000000) (disch := omega) only [go_sem]; (repeat' (first | (refine hK _ ?_; clear hK hkp kp K) | (with_reducible refine And.intro ?_ ?_) | omega))) | ((first | refine aG (fun h => ?_) (fun h => ?_) | refine aD (fun h => ?_) (fun h => ?_) | refine aX (fun h => ?_) (fun h => ?_)) <;> simp only [h]) | refine awp_cond_t rfl ?_ | refine awp_cond_f rfl ?_ | ((refine awp_cond rfl (fun h => ?_) (fun h => ?_) <;> try simp only [ifs] at h) <;> (try (exfalso; omega))) | refine awp_ret ?_))
        (refine retA_is (by (simp (implicitDefEqProofs := false) (maxSteps := 2000000) (disch := omega) only [go_sem, Go.Proofs.Tryz.results13]); rfl) ?_; refine eN hE ?_; simp [oneA, ren, renL])
        rw [← hno, List.drop_of_length_le (l := r) (by omega)]; cases l.drop k <;> rfl
    · have d1 : ((r.length : Int) != (l.length : Int)) = true := by simp; omega
      have hM : rowsM l r = 1 := by rw [rowsM, if_neg (by simpa using h0), if_pos hlen]
      rw [hM]
      (repeat' (first | refine awp_seq ?_ | refine awp_block ?_ | refine awp_skip ?_ | refine awp_exit ?_ | ((first | refine rR (fun K kp hK hkp => ?_) | refine rD (id := 12) mixed 17 [0,1,2,3,4,5,6,7,8,9,10,11,12,13,14,15,16] (fun K kp hK hkp => ?_) | refine cR cc ?_ | refine cD cc ?_ | refine iG ?_ | refine iD ?_); simp (implicitDefEqProofs := false) (maxSteps := 2000000) (disch := omega) only [go_sem, d1]; (repeat' (first | (refine hK _ ?_; clear hK hkp kp K) | (with_reducible refine And.intro ?_ ?_) | omega))) | ((first | refine aG (fun h => ?_) (fun h => ?_) | refine aD (fun h => ?_) (fun h => ?_) | refine aX (fun h => ?_) (fun h => ?_)) <;> simp only [h]) | refine awp_cond_t rfl ?_ | refine awp_cond_f rfl ?_ | ((refine awp_cond rfl (fun h => ?_) (fun h => ?_) <;> try simp only [ifs] at h) <;> (try (exfalso; omega))) | refine awp_ret ?_))
      (refine retA_is (by (simp (implicitDefEqProofs := false) (maxSteps := 2000000) (disch := omega) only [go_sem, Go.Proofs.Tryz.results13]); rfl) ?_; refine eN hE ?_; simp [oneA, ren, renL])
  · have b0 : (colsM l != 0) = true := by simpa using h0
    have hM : rowsM l r = colsM l := by rw [rowsM, if_pos h0]
    rw [hM]
    (repeat' (first | refine awp_seq ?_ | refine awp_block ?_ | refine awp_skip ?_ | refine awp_exit ?_ | ((first | refine rR (fun K kp hK hkp => ?_) | refine rD (id := 12) mixed 17 [0,1,2,3,4,5,6,7,8,9,10,11,12,13,14,15,16] (fun K kp hK hkp => ?_) | refine cR cc ?_ | refine cD cc ?_ | refine iG ?_ | refine iD ?_); simp (implicitDefEqProofs := false) (maxSteps := 2000000) (disch := omega) only [go_sem, b0]; (repeat' (first | (refine hK _ ?_; clear hK hkp kp K) | (with_reducible refine And.intro ?_ ?_) | omega))) | ((first | refine aG (fun h => ?_) (fun h => ?_) | refine aD (fun h => ?_) (fun h => ?_) | refine aX (fun h => ?_) (fun h => ?_)) <;> simp only [h]) | refine awp_cond_t rfl ?_ | refine awp_cond_f rfl ?_ | ((refine awp_cond rfl (fun h => ?_) (fun h => ?_) <;> try simp only [ifs] at h) <;> (try (exfalso; omega))) | refine awp_ret ?_))
    (refine retA_is (by (simp (implicitDefEqProofs := false) (maxSteps := 2000000) (disch := omega) only [go_sem, Go.Proofs.Tryz.results13]); rfl) ?_; refine eN hE ?_; simp [oneA, ren, renL])
def rfI (l : List CO) (r : List V) (q : Nat × Int) : Prop := q.1 ≤ r.length ∧ ((q.2 = 0 ∧ r.length = l.length ∧ rowsF (decide (q.1 = 0)) (l.drop q.1) (r.drop q.1) = rowsM l r) ∨ (q.2 ≠ 0 ∧ q.2 = rowsM l r))
set_option maxRecDepth 100000 in
set_option maxHeartbeats 8000000 in
theorem rowFault_con {G : List (Nat × List Value)} (l : List CO) (r : List V) (hl : l.length ≤ 1048576) (hr : r.length ≤ 1048576) (hs : ∀ c ∈ l, okS c.nm) (hv : ∀ v ∈ r, okS v.s) : Con Go.Proofs.Tryz.prog G 16 [.ro true 2 (l.map eC), .ro true 3 (r.map eV)] [] 0 (Is (.r (.int .i64 (rowsM l r))) [] 0) No := by
  refine con_of_awp Go.Proofs.Tryz.func16 rfl (by kernel_rfl) (of_decide_eq_true (by kernel_rfl)) ?_; intro E hG hE; subst hG; simp only [ent]
  have cc := colsFault_con E.G l hl hs
  by_cases h0 : colsM l = 0
  · rw [h0] at cc
    by_cases hlen : r.length = l.length
    · have d1 : ((r.length : Int) != (l.length : Int)) = false := by simp [hlen]
      have hM : rowsM l r = rowsF true l r := by rw [rowsM, if_neg (by simpa using h0), if_neg (by simpa using hlen)]
      (repeat' (first | refine awp_seq ?_ | refine awp_block ?_ | refine awp_skip ?_ | refine awp_exit ?_ | ((first | refine rR (fun K kp hK hkp => ?_) | refine rD (id := 8) mixed 28 [0,1,2,3,4,5,6,7,8,9,10,11,12,13,14,15,16,17,18,19,20,21,22,23,24,25,26,27] (fun K kp hK hkp => ?_) | refine cR cc ?_ | refine cD cc ?_ | refine iG ?_ | refine iD ?_); simp (implicitDefEqProofs := false) (maxSteps := 2000000) (disch := omega) only [go_sem, d1]; (repeat' (first | (refine hK _ ?_; clear hK hkp kp K) | (with_reducible refine And.intro ?_ ?_) | omega))) | ((first | refine aG (fun h => ?_) (fun h => ?_) | refine aD (fun h => ?_) (fun h => ?_) | refine aX (fun h => ?_) (fun h => ?_)) <;> simp only [h]) | refine awp_cond_t rfl ?_ | refine awp_cond_f rfl ?_ | ((refine awp_cond rfl (fun h => ?_) (fun h => ?_) <;> try simp only [ifs] at h) <;> (try (exfalso; omega))) | refine awp_ret ?_))
      refine awp_loop (fun q : Nat × Int => ⟨[(6, .r (.int .i64 q.1)), (5, .r (.int .i64 q.2)), (0, .ro true 2 (l.map eC)), (1, .ro true 3 (r.map eV))], [], 0⟩) (rfI l r) (fun q => r.length - q.1) (0, 0) ?_ ?_ ?_
      · exact ⟨by simp, .inl ⟨rfl, hlen, by rw [hM]; simp⟩⟩
      · (refine emb [] ?_ ?_ rfl ?_ ?_ ?_ ?_ <;> simp [okM, okO, lk, ren, renL, renNd, by_, hE] <;> (try omega))
      rintro ⟨k, e⟩ ⟨hk, he⟩
      simp only at hk he ⊢
      by_cases he0 : e = 0
      · subst he0
        obtain ⟨_, hlen, hno⟩ : (0 : Int) = 0 ∧ r.length = l.length ∧ rowsF (decide (k = 0)) (l.drop k) (r.drop k) = rowsM l r := he.resolve_right (fun h => h.1 rfl)
        by_cases hlt : k < r.length
        · have dk : decide ((k : Int) < (r.length : Int)) = true := decide_eq_true (by omega)
          obtain ⟨v, hx⟩ : ∃ x, r[k]? = some x := ⟨r[k], by simp [hlt]⟩
          obtain ⟨c, hc⟩ : ∃ x, l[k]? = some x := ⟨l[k]'(by omega), by simp⟩
          rw [rowsF_step hc hx] at hno
          have vc := vfault_con E.G v (hv v (List.mem_of_getElem? hx))
          simp only [eV] at vc
          by_cases hvc : vcheck v.k v.n v.s = 0
          · rw [if_neg (by simpa using hvc)] at hno
            rw [hvc] at vc
            by_cases hkk : v.k = c.k
            · have n1 : (v.k != c.k) = false := by simp [hkk]
              rw [if_neg (by simp [hkk])] at hno
              (repeat' (first | refine awp_seq ?_ | refine awp_block ?_ | refine awp_skip ?_ | refine awp_exit ?_ | ((first | refine rR (fun K kp hK hkp => ?_) | refine rD (id := 8) mixed 28 [0,1,2,3,4,5,6,7,8,9,10,11,12,13,14,15,16,17,18,19,20,21,22,23,24,25,26,27] (fun K kp hK hkp => ?_) | refine cR vc ?_ | refine cD vc ?_ | refine iG ?_ | refine iD ?_); simp (implicitDefEqProofs := false) (maxSteps := 2000000) (disch := omega) only [go_sem, hx, hc, eV, eC, n1, dk]; (repeat' (first | (refine hK _ ?_; clear hK hkp kp K) | (with_reducible refine And.intro ?_ ?_) | omega))) | ((first | refine aG (fun h => ?_) (fun h => ?_) | refine aD (fun h => ?_) (fun h => ?_) | refine aX (fun h => ?_) (fun h => ?_)) <;> simp only [h]) | refine awp_cond_t rfl ?_ | refine awp_cond_f rfl ?_ | ((refine awp_cond rfl (fun h => ?_) (fun h => ?_) <;> try simp only [ifs] at h) <;> (try (exfalso; omega))) | refine awp_ret ?_))
              ((first | (refine nextB ((k + 1, 0)) ?_ ?_ ?_) | (refine nextA ((k + 1, 0)) ?_ ?_ ?_)); rotate_left; (· (try dsimp only); (first | omega | (simp only [List.length_drop, List.length_cons, List.length_append]; omega) | (simp; done) | (simp; omega))); (· (refine emb [] ?_ ?_ rfl ?_ ?_ ?_ ?_ <;> simp [okM, okO, lk, ren, renL, renNd, by_, hE] <;> (try omega))))
              exact ⟨by simp only; omega, .inl ⟨rfl, hlen, hno⟩⟩
            · have n1 : (v.k != c.k) = true := by simp [hkk]
              by_cases hk0 : k = 0
              · have n2 : decide ((k : Int) > 0) = false := decide_eq_false (by omega)
                rw [if_pos ⟨hkk, .inl hk0⟩] at hno
                (repeat' (first | refine awp_seq ?_ | refine awp_block ?_ | refine awp_skip ?_ | refine awp_exit ?_ | ((first | refine rR (fun K kp hK hkp => ?_) | refine rD (id := 8) mixed 28 [0,1,2,3,4,5,6,7,8,9,10,11,12,13,14,15,16,17,18,19,20,21,22,23,24,25,26,27] (fun K kp hK hkp => ?_) | refine cR vc ?_ | refine cD vc ?_ | refine iG ?_ | refine iD ?_); simp (implicitDefEqProofs := false) (maxSteps := 2000000) (disch := omega) only [go_sem, hx, hc, eV, eC, n1, n2, dk]; (repeat' (first | (refine hK _ ?_; clear hK hkp kp K) | (with_reducible refine And.intro ?_ ?_) | omega))) | ((first | refine aG (fun h => ?_) (fun h => ?_) | refine aD (fun h => ?_) (fun h => ?_) | refine aX (fun h => ?_) (fun h => ?_)) <;> simp only [h]) | refine awp_cond_t rfl ?_ | refine awp_cond_f rfl ?_ | ((refine awp_cond rfl (fun h => ?_) (fun h => ?_) <;> try simp only [ifs] at h) <;> (try (exfalso; omega))) | refine awp_ret ?_))
                ((first | (refine nextB ((k + 1, 4)) ?_ ?_ ?_) | (refine nextA ((k + 1, 4)) ?_ ?_ ?_)); rotate_left; (· (try dsimp only); (first | omega | (simp only [List.length_drop, List.length_cons, List.length_append]; omega) | (simp; done) | (simp; omega))); (· (refine emb [] ?_ ?_ rfl ?_ ?_ ?_ ?_ <;> simp [okM, okO, lk, ren, renL, renNd, by_, hE] <;> (try omega))))
                exact ⟨by simp only; omega, .inr ⟨by simp, hno⟩⟩
              · have n2 : decide ((k : Int) > 0) = true := decide_eq_true (by omega)
                by_cases hv0 : v.k = 0
                · have n3 : (v.k == 0) = true := by simp [hv0]
                  rw [if_neg (by simp [hv0, hk0])] at hno
                  (repeat' (first | refine awp_seq ?_ | refine awp_block ?_ | refine awp_skip ?_ | refine awp_exit ?_ | ((first | refine rR (fun K kp hK hkp => ?_) | refine rD (id := 8) mixed 28 [0,1,2,3,4,5,6,7,8,9,10,11,12,13,14,15,16,17,18,19,20,21,22,23,24,25,26,27] (fun K kp hK hkp => ?_) | refine cR vc ?_ | refine cD vc ?_ | refine iG ?_ | refine iD ?_); simp (implicitDefEqProofs := false) (maxSteps := 2000000) (disch := omega) only [go_sem, hx, hc, eV, eC, n1, n2, n3, dk]; (repeat' (first | (refine hK _ ?_; clear hK hkp kp K) | (with_reducible refine And.intro ?_ ?_) | omega))) | ((first | refine aG (fun h => ?_) (fun h => ?_) | refine aD (fun h => ?_) (fun h => ?_) | refine aX (fun h => ?_) (fun h => ?_)) <;> simp only [h]) | refine awp_cond_t rfl ?_ | refine awp_cond_f rfl ?_ | ((refine awp_cond rfl (fun h => ?_) (fun h => ?_) <;> try simp only [ifs] at h) <;> (try (exfalso; omega))) | refine awp_ret ?_))
                  ((first | (refine nextB ((k + 1, 0)) ?_ ?_ ?_) | (refine nextA ((k + 1, 0)) ?_ ?_ ?_)); rotate_left; (· (try dsimp only); (first | omega | (simp only [List.length_drop, List.length_cons, List.length_append]; omega) | (simp; done) | (simp; omega))); (· (refine emb [] ?_ ?_ rfl ?_ ?_ ?_ ?_ <;> simp [okM, okO, lk, ren, renL, renNd, by_, hE] <;> (try omega))))
                  exact ⟨by simp only; omega, .inl ⟨rfl, hlen, hno⟩⟩
                · have n3 : (v.k == 0) = false := by simp [hv0]
                  rw [if_pos ⟨hkk, .inr hv0⟩] at hno
                  (repeat' (first | refine awp_seq ?_ | refine awp_block ?_ | refine awp_skip ?_ | refine awp_exit ?_ | ((first | refine rR (fun K kp hK hkp => ?_) | refine rD (id := 8) mixed 28 [0,1,2,3,4,5,6,7,8,9,10,11,12,13,14,15,16,17,18,19,20,21,22,23,24,25,26,27] (fun K kp hK hkp => ?_) | refine cR vc ?_ | refine cD vc ?_ | refine iG ?_ | refine iD ?_); simp (implicitDefEqProofs := false) (maxSteps := 2000000) (disch := omega) only [go_sem, hx, hc, eV, eC, n1, n2, n3, dk]; (repeat' (first | (refine hK _ ?_; clear hK hkp kp K) | (with_reducible refine And.intro ?_ ?_) | omega))) | ((first | refine aG (fun h => ?_) (fun h => ?_) | refine aD (fun h => ?_) (fun h => ?_) | refine aX (fun h => ?_) (fun h => ?_)) <;> simp only [h]) | refine awp_cond_t rfl ?_ | refine awp_cond_f rfl ?_ | ((refine awp_cond rfl (fun h => ?_) (fun h => ?_) <;> try simp only [ifs] at h) <;> (try (exfalso; omega))) | refine awp_ret ?_))
                  ((first | (refine nextB ((k + 1, 4)) ?_ ?_ ?_) | (refine nextA ((k + 1, 4)) ?_ ?_ ?_)); rotate_left; (· (try dsimp only); (first | omega | (simp only [List.length_drop, List.length_cons, List.length_append]; omega) | (simp; done) | (simp; omega))); (· (refine emb [] ?_ ?_ rfl ?_ ?_ ?_ ?_ <;> simp [okM, okO, lk, ren, renL, renNd, by_, hE] <;> (try omega))))
                  exact ⟨by simp only; omega, .inr ⟨by simp, hno⟩⟩
          · have b1 : (vcheck v.k v.n v.s == 0) = false := by simpa using hvc
            rw [if_pos hvc] at hno
            (repeat' (first | refine awp_seq ?_ | refine awp_block ?_ | refine awp_skip ?_ | refine awp_exit ?_ | ((first | refine rR (fun K kp hK hkp => ?_) | refine rD (id := 8) mixed 28 [0,1,2,3,4,5,6,7,8,9,10,11,12,13,14,15,16,17,18,19,20,21,22,23,24,25,26,27] (fun K kp hK hkp => ?_) | refine cR vc ?_ | refine cD vc ?_ | refine iG ?_ | refine iD ?_); simp (implicitDefEqProofs := false) (maxSteps := 2000000) (disch := omega) only [go_sem, hx, hc, eV, eC, b1, dk]; (repeat' (first | (refine hK _ ?_; clear hK hkp kp K) | (with_reducible refine And.intro ?_ ?_) | omega))) | ((first | refine aG (fun h => ?_) (fun h => ?_) | refine aD (fun h => ?_) (fun h => ?_) | refine aX (fun h => ?_) (fun h => ?_)) <;> simp only [h]) | refine awp_cond_t rfl ?_ | refine awp_cond_f rfl ?_ | ((refine awp_cond rfl (fun h => ?_) (fun h => ?_) <;> try simp only [ifs] at h) <;> (try (exfalso; omega))) | refine awp_ret ?_))
            ((first | (refine nextB ((k + 1, vcheck v.k v.n v.s)) ?_ ?_ ?_) | (refine nextA ((k + 1, vcheck v.k v.n v.s)) ?_ ?_ ?_)); rotate_left; (· (try dsimp only); (first | omega | (simp only [List.length_drop, List.length_cons, List.length_append]; omega) | (simp; done) | (simp; omega))); (· (refine emb [] ?_ ?_ rfl ?_ ?_ ?_ ?_ <;> simp [okM, okO, lk, ren, renL, renNd, by_, hE] <;> (try omega))))
            exact ⟨by simp only; omega, .inr ⟨hvc, hno⟩⟩
        · have dk : decide ((k : Int) < (r.length : Int)) = false := decide_eq_false (by omega)
          (repeat' (first | refine awp_seq ?_ | refine awp_block ?_ | refine awp_skip ?_ | refine awp_exit ?_ | ((first | refine rR (fun K kp hK hkp => ?_) | refine rD (id := 8) mixed 28 [0,1,2,3,4,5,6,7,8,9,10,11,12,13,14,15,16,17,18,19,20,21,22,23,24,25,26,27] (fun K kp hK hkp => ?_) | refine iG ?_ | refine iD ?_); simp (implicitDefEqProofs := false) (maxSteps := 2000000) (disch := omega) only [go_sem, dk]; (repeat' (first | (refine hK _ ?_; clear hK hkp kp K) | (with_reducible refine And.intro ?_ ?_) | omega))) | ((first | refine aG (fun h => ?_) (fun h => ?_) | refine aD (fun h => ?_) (fun h => ?_) | refine aX (fun h => ?_) (fun h => ?_)) <;> simp only [h]) | refine awp_cond_t rfl ?_ | refine awp_cond_f rfl ?_ | ((refine awp_cond rfl (fun h => ?_) (fun h => ?_) <;> try simp only [ifs] at h) <;> (try (exfalso; omega))) | refine awp_ret ?_))
          (refine retA_is (by (simp (implicitDefEqProofs := false) (maxSteps := 2000000) (disch := omega) only [go_sem, Go.Proofs.Tryz.results16]); rfl) ?_; refine eN hE ?_; simp [oneA, ren, renL])
          rw [← hno, List.drop_of_length_le (l := r) (by omega)]; cases l.drop k <;> rfl
      · have hno : e = rowsM l r := (he.resolve_left (fun h => he0 h.1)).2
        have b1 : (e == 0) = false := by simpa using he0
        by_cases hlt : k < r.length
        · have dk : decide ((k : Int) < (r.length : Int)) = true := decide_eq_true (by omega)
          (repeat' (first | refine awp_seq ?_ | refine awp_block ?_ | refine awp_skip ?_ | refine awp_exit ?_ | ((first | refine rR (fun K kp hK hkp => ?_) | refine rD (id := 8) mixed 28 [0,1,2,3,4,5,6,7,8,9,10,11,12,13,14,15,16,17,18,19,20,21,22,23,24,25,26,27] (fun K kp hK hkp => ?_) | refine iG ?_ | refine iD ?_); simp (implicitDefEqProofs := false) (maxSteps := 2000000) (disch := omega) only [go_sem, dk, b1]; (repeat' (first | (refine hK _ ?_; clear hK hkp kp K) | (with_reducible refine And.intro ?_ ?_) | omega))) | ((first | refine aG (fun h => ?_) (fun h => ?_) | refine aD (fun h => ?_) (fun h => ?_) | refine aX (fun h => ?_) (fun h => ?_)) <;> simp only [h]) | refine awp_cond_t rfl ?_ | refine awp_cond_f rfl ?_ | ((refine awp_cond rfl (fun h => ?_) (fun h => ?_) <;> try simp only [ifs] at h) <;> (try (exfalso; omega))) | refine awp_ret ?_))
          (refine retA_is (by (simp (implicitDefEqProofs := false) (maxSteps := 2000000) (disch := omega) only [go_sem, Go.Proofs.Tryz.results16]); rfl) ?_; refine eN hE ?_; simp [oneA, ren, renL])
          exact hno
        · have dk : decide ((k : Int) < (r.length : Int)) = false := decide_eq_false (by omega)
          (repeat' (first | refine awp_seq ?_ | refine awp_block ?_ | refine awp_skip ?_ | refine awp_exit ?_ | ((first | refine rR (fun K kp hK hkp => ?_) | refine rD (id := 8) mixed 28 [0,1,2,3,4,5,6,7,8,9,10,11,12,13,14,15,16,17,18,19,20,21,22,23,24,25,26,27] (fun K kp hK hkp => ?_) | refine iG ?_ | refine iD ?_); simp (implicitDefEqProofs := false) (maxSteps := 2000000) (disch := omega) only [go_sem, dk]; (repeat' (first | (refine hK _ ?_; clear hK hkp kp K) | (with_reducible refine And.intro ?_ ?_) | omega))) | ((first | refine aG (fun h => ?_) (fun h => ?_) | refine aD (fun h => ?_) (fun h => ?_) | refine aX (fun h => ?_) (fun h => ?_)) <;> simp only [h]) | refine awp_cond_t rfl ?_ | refine awp_cond_f rfl ?_ | ((refine awp_cond rfl (fun h => ?_) (fun h => ?_) <;> try simp only [ifs] at h) <;> (try (exfalso; omega))) | refine awp_ret ?_))
          (refine retA_is (by (simp (implicitDefEqProofs := false) (maxSteps := 2000000) (disch := omega) only [go_sem, Go.Proofs.Tryz.results16]); rfl) ?_; refine eN hE ?_; simp [oneA, ren, renL])
          exact hno
    · have d1 : ((r.length : Int) != (l.length : Int)) = true := by simp; omega
      have hM : rowsM l r = 1 := by rw [rowsM, if_neg (by simpa using h0), if_pos hlen]
      (repeat' (first | refine awp_seq ?_ | refine awp_block ?_ | refine awp_skip ?_ | refine awp_exit ?_ | ((first | refine rR (fun K kp hK hkp => ?_) | refine rD (id := 8) mixed 28 [0,1,2,3,4,5,6,7,8,9,10,11,12,13,14,15,16,17,18,19,20,21,22,23,24,25,26,27] (fun K kp hK hkp => ?_) | refine cR cc ?_ | refine cD cc ?_ | refine iG ?_ | refine iD ?_); simp (implicitDefEqProofs := false) (maxSteps := 2000000) (disch := omega) only [go_sem, d1]; (repeat' (first | (refine hK _ ?_; clear hK hkp kp K) | (with_reducible refine And.intro ?_ ?_) | omega))) | ((first | refine aG (fun h => ?_) (fun h => ?_) | refine aD (fun h => ?_) (fun h => ?_) | refine aX (fun h => ?_) (fun h => ?_)) <;> simp only [h]) | refine awp_cond_t rfl ?_ | refine awp_cond_f rfl ?_ | ((refine awp_cond rfl (fun h => ?_) (fun h => ?_) <;> try simp only [ifs] at h) <;> (try (exfalso; omega))) | refine awp_ret ?_))
      refine awp_loop (fun q : Nat × Int => ⟨[(6, .r (.int .i64 q.1)), (5, .r (.int .i64 q.2)), (0, .ro true 2 (l.map eC)), (1, .ro true 3 (r.map eV))], [], 0⟩) (rfI l r) (fun q => r.length - q.1) (0, 1) ?_ ?_ ?_
      · exact ⟨by simp, .inr ⟨by decide, hM.symm⟩⟩
      · (refine emb [] ?_ ?_ rfl ?_ ?_ ?_ ?_ <;> simp [okM, okO, lk, ren, renL, renNd, by_, hE] <;> (try omega))
      rintro ⟨k, e⟩ ⟨hk, he⟩
      simp only at hk he ⊢
      by_cases he0 : e = 0
      · subst he0
        exact (hlen (he.resolve_right (fun h => h.1 rfl)).2.1).elim
      · have hno : e = rowsM l r := (he.resolve_left (fun h => he0 h.1)).2
        have b1 : (e == 0) = false := by simpa using he0
        by_cases hlt : k < r.length
        · have dk : decide ((k : Int) < (r.length : Int)) = true := decide_eq_true (by omega)
          (repeat' (first | refine awp_seq ?_ | refine awp_block ?_ | refine awp_skip ?_ | refine awp_exit ?_ | ((first | refine rR (fun K kp hK hkp => ?_) | refine rD (id := 8) mixed 28 [0,1,2,3,4,5,6,7,8,9,10,11,12,13,14,15,16,17,18,19,20,21,22,23,24,25,26,27] (fun K kp hK hkp => ?_) | refine iG ?_ | refine iD ?_); simp (implicitDefEqProofs := false) (maxSteps := 2000000) (disch := omega) only [go_sem, dk, b1]; (repeat' (first | (refine hK _ ?_; clear hK hkp kp K) | (with_reducible refine And.intro ?_ ?_) | omega))) | ((first | refine aG (fun h => ?_) (fun h => ?_) | refine aD (fun h => ?_) (fun h => ?_) | refine aX (fun h => ?_) (fun h => ?_)) <;> simp only [h]) | refine awp_cond_t rfl ?_ | refine awp_cond_f rfl ?_ | ((refine awp_cond rfl (fun h => ?_) (fun h => ?_) <;> try simp only [ifs] at h) <;> (try (exfalso; omega))) | refine awp_ret ?_))
          (refine retA_is (by (simp (implicitDefEqProofs := false) (maxSteps := 2000000) (disch := omega) only [go_sem, Go.Proofs.Tryz.results16]); rfl) ?_; refine eN hE ?_; simp [oneA, ren, renL])
          exact hno
        · have dk : decide ((k : Int) < (r.length : Int)) = false := decide_eq_false (by omega)
          (repeat' (first | refine awp_seq ?_ | refine awp_block ?_ | refine awp_skip ?_ | refine awp_exit ?_ | ((first | refine rR (fun K kp hK hkp => ?_) | refine rD (id := 8) mixed 28 [0,1,2,3,4,5,6,7,8,9,10,11,12,13,14,15,16,17,18,19,20,21,22,23,24,25,26,27] (fun K kp hK hkp => ?_) | refine iG ?_ | refine iD ?_); simp (implicitDefEqProofs := false) (maxSteps := 2000000) (disch := omega) only [go_sem, dk]; (repeat' (first | (refine hK _ ?_; clear hK hkp kp K) | (with_reducible refine And.intro ?_ ?_) | omega))) | ((first | refine aG (fun h => ?_) (fun h => ?_) | refine aD (fun h => ?_) (fun h => ?_) | refine aX (fun h => ?_) (fun h => ?_)) <;> simp only [h]) | refine awp_cond_t rfl ?_ | refine awp_cond_f rfl ?_ | ((refine awp_cond rfl (fun h => ?_) (fun h => ?_) <;> try simp only [ifs] at h) <;> (try (exfalso; omega))) | refine awp_ret ?_))
          (refine retA_is (by (simp (implicitDefEqProofs := false) (maxSteps := 2000000) (disch := omega) only [go_sem, Go.Proofs.Tryz.results16]); rfl) ?_; refine eN hE ?_; simp [oneA, ren, renL])
          exact hno
  · have b0 : (colsM l == 0) = false := by simpa using h0
    have hM : rowsM l r = colsM l := by rw [rowsM, if_pos h0]
    (repeat' (first | refine awp_seq ?_ | refine awp_block ?_ | refine awp_skip ?_ | refine awp_exit ?_ | ((first | refine rR (fun K kp hK hkp => ?_) | refine rD (id := 8) mixed 28 [0,1,2,3,4,5,6,7,8,9,10,11,12,13,14,15,16,17,18,19,20,21,22,23,24,25,26,27] (fun K kp hK hkp => ?_) | refine cR cc ?_ | refine cD cc ?_ | refine iG ?_ | refine iD ?_); simp (implicitDefEqProofs := false) (maxSteps := 2000000) (disch := omega) only [go_sem, b0]; (repeat' (first | (refine hK _ ?_; clear hK hkp kp K) | (with_reducible refine And.intro ?_ ?_) | omega))) | ((first | refine aG (fun h => ?_) (fun h => ?_) | refine aD (fun h => ?_) (fun h => ?_) | refine aX (fun h => ?_) (fun h => ?_)) <;> simp only [h]) | refine awp_cond_t rfl ?_ | refine awp_cond_f rfl ?_ | ((refine awp_cond rfl (fun h => ?_) (fun h => ?_) <;> try simp only [ifs] at h) <;> (try (exfalso; omega))) | refine awp_ret ?_))
    refine awp_loop (fun q : Nat × Int => ⟨[(6, .r (.int .i64 q.1)), (5, .r (.int .i64 q.2)), (0, .ro true 2 (l.map eC)), (1, .ro true 3 (r.map eV))], [], 0⟩) (rfI l r) (fun q => r.length - q.1) (0, colsM l) ?_ ?_ ?_
    · exact ⟨by simp, .inr ⟨h0, hM.symm⟩⟩
    · (refine emb [] ?_ ?_ rfl ?_ ?_ ?_ ?_ <;> simp [okM, okO, lk, ren, renL, renNd, by_, hE] <;> (try omega))
    rintro ⟨k, e⟩ ⟨hk, he⟩
    simp only at hk he ⊢
    by_cases he0 : e = 0
    · subst he0
      obtain ⟨_, hlen, hno⟩ : (0 : Int) = 0 ∧ r.length = l.length ∧ rowsF (decide (k = 0)) (l.drop k) (r.drop k) = rowsM l r := he.resolve_right (fun h => h.1 rfl)
      by_cases hlt : k < r.length
      · have dk : decide ((k : Int) < (r.length : Int)) = true := decide_eq_true (by omega)
        obtain ⟨v, hx⟩ : ∃ x, r[k]? = some x := ⟨r[k], by simp [hlt]⟩
        obtain ⟨c, hc⟩ : ∃ x, l[k]? = some x := ⟨l[k]'(by omega), by simp⟩
        rw [rowsF_step hc hx] at hno
        have vc := vfault_con E.G v (hv v (List.mem_of_getElem? hx))
        simp only [eV] at vc
        by_cases hvc : vcheck v.k v.n v.s = 0
        · rw [if_neg (by simpa using hvc)] at hno
          rw [hvc] at vc
          by_cases hkk : v.k = c.k
          · have n1 : (v.k != c.k) = false := by simp [hkk]
            rw [if_neg (by simp [hkk])] at hno
            (repeat' (first | refine awp_seq ?_ | refine awp_block ?_ | refine awp_skip ?_ | refine awp_exit ?_ | ((first | refine rR (fun K kp hK hkp => ?_) | refine rD (id := 8) mixed 28 [0,1,2,3,4,5,6,7,8,9,10,11,12,13,14,15,16,17,18,19,20,21,22,23,24,25,26,27] (fun K kp hK hkp => ?_) | refine cR vc ?_ | refine cD vc ?_ | refine iG ?_ | refine iD ?_); simp (implicitDefEqProofs := false) (maxSteps := 2000000) (disch := omega) only [go_sem, hx, hc, eV, eC, n1, dk]; (repeat' (first | (refine hK _ ?_; clear hK hkp kp K) | (with_reducible refine And.intro ?_ ?_) | omega))) | ((first | refine aG (fun h => ?_) (fun h => ?_) | refine aD (fun h => ?_) (fun h => ?_) | refine aX (fun h => ?_) (fun h => ?_)) <;> simp only [h]) | refine awp_cond_t rfl ?_ | refine awp_cond_f rfl ?_ | ((refine awp_cond rfl (fun h => ?_) (fun h => ?_) <;> try simp only [ifs] at h) <;> (try (exfalso; omega))) | refine awp_ret ?_))
            ((first | (refine nextB ((k + 1, 0)) ?_ ?_ ?_) | (refine nextA ((k + 1, 0)) ?_ ?_ ?_)); rotate_left; (· (try dsimp only); (first | omega | (simp only [List.length_drop, List.length_cons, List.length_append]; omega) | (simp; done) | (simp; omega))); (· (refine emb [] ?_ ?_ rfl ?_ ?_ ?_ ?_ <;> simp [okM, okO, lk, ren, renL, renNd, by_, hE] <;> (try omega))))
            exact ⟨by simp only; omega, .inl ⟨rfl, hlen, hno⟩⟩
          · have n1 : (v.k != c.k) = true := by simp [hkk]
            by_cases hk0 : k = 0
            · have n2 : decide ((k : Int) > 0) = false := decide_eq_false (by omega)
              rw [if_pos ⟨hkk, .inl hk0⟩] at hno
              (repeat' (first | refine awp_seq ?_ | refine awp_block ?_ | refine awp_skip ?_ | refine awp_exit ?_ | ((first | refine rR (fun K kp hK hkp => ?_) | refine rD (id := 8) mixed 28 [0,1,2,3,4,5,6,7,8,9,10,11,12,13,14,15,16,17,18,19,20,21,22,23,24,25,26,27] (fun K kp hK hkp => ?_) | refine cR vc ?_ | refine cD vc ?_ | refine iG ?_ | refine iD ?_); simp (implicitDefEqProofs := false) (maxSteps := 2000000) (disch := omega) only [go_sem, hx, hc, eV, eC, n1, n2, dk]; (repeat' (first | (refine hK _ ?_; clear hK hkp kp K) | (with_reducible refine And.intro ?_ ?_) | omega))) | ((first | refine aG (fun h => ?_) (fun h => ?_) | refine aD (fun h => ?_) (fun h => ?_) | refine aX (fun h => ?_) (fun h => ?_)) <;> simp only [h]) | refine awp_cond_t rfl ?_ | refine awp_cond_f rfl ?_ | ((refine awp_cond rfl (fun h => ?_) (fun h => ?_) <;> try simp only [ifs] at h) <;> (try (exfalso; omega))) | refine awp_ret ?_))
              ((first | (refine nextB ((k + 1, 4)) ?_ ?_ ?_) | (refine nextA ((k + 1, 4)) ?_ ?_ ?_)); rotate_left; (· (try dsimp only); (first | omega | (simp only [List.length_drop, List.length_cons, List.length_append]; omega) | (simp; done) | (simp; omega))); (· (refine emb [] ?_ ?_ rfl ?_ ?_ ?_ ?_ <;> simp [okM, okO, lk, ren, renL, renNd, by_, hE] <;> (try omega))))
              exact ⟨by simp only; omega, .inr ⟨by simp, hno⟩⟩
            · have n2 : decide ((k : Int) > 0) = true := decide_eq_true (by omega)
              by_cases hv0 : v.k = 0
              · have n3 : (v.k == 0) = true := by simp [hv0]
                rw [if_neg (by simp [hv0, hk0])] at hno
                (repeat' (first | refine awp_seq ?_ | refine awp_block ?_ | refine awp_skip ?_ | refine awp_exit ?_ | ((first | refine rR (fun K kp hK hkp => ?_) | refine rD (id := 8) mixed 28 [0,1,2,3,4,5,6,7,8,9,10,11,12,13,14,15,16,17,18,19,20,21,22,23,24,25,26,27] (fun K kp hK hkp => ?_) | refine cR vc ?_ | refine cD vc ?_ | refine iG ?_ | refine iD ?_); simp (implicitDefEqProofs := false) (maxSteps := 2000000) (disch := omega) only [go_sem, hx, hc, eV, eC, n1, n2, n3, dk]; (repeat' (first | (refine hK _ ?_; clear hK hkp kp K) | (with_reducible refine And.intro ?_ ?_) | omega))) | ((first | refine aG (fun h => ?_) (fun h => ?_) | refine aD (fun h => ?_) (fun h => ?_) | refine aX (fun h => ?_) (fun h => ?_)) <;> simp only [h]) | refine awp_cond_t rfl ?_ | refine awp_cond_f rfl ?_ | ((refine awp_cond rfl (fun h => ?_) (fun h => ?_) <;> try simp only [ifs] at h) <;> (try (exfalso; omega))) | refine awp_ret ?_))
                ((first | (refine nextB ((k + 1, 0)) ?_ ?_ ?_) | (refine nextA ((k + 1, 0)) ?_ ?_ ?_)); rotate_left; (· (try dsimp only); (first | omega | (simp only [List.length_drop, List.length_cons, List.length_append]; omega) | (simp; done) | (simp; omega))); (· (refine emb [] ?_ ?_ rfl ?_ ?_ ?_ ?_ <;> simp [okM, okO, lk, ren, renL, renNd, by_, hE] <;> (try omega))))
                exact ⟨by simp only; omega, .inl ⟨rfl, hlen, hno⟩⟩
              · have n3 : (v.k == 0) = false := by simp [hv0]
                rw [if_pos ⟨hkk, .inr hv0⟩] at hno
                (repeat' (first | refine awp_seq ?_ | refine awp_block ?_ | refine awp_skip ?_ | refine awp_exit ?_ | ((first | refine rR (fun K kp hK hkp => ?_) | refine rD (id := 8) mixed 28 [0,1,2,3,4,5,6,7,8,9,10,11,12,13,14,15,16,17,18,19,20,21,22,23,24,25,26,27] (fun K kp hK hkp => ?_) | refine cR vc ?_ | refine cD vc ?_ | refine iG ?_ | refine iD ?_); simp (implicitDefEqProofs := false) (maxSteps := 2000000) (disch := omega) only [go_sem, hx, hc, eV, eC, n1, n2, n3, dk]; (repeat' (first | (refine hK _ ?_; clear hK hkp kp K) | (with_reducible refine And.intro ?_ ?_) | omega))) | ((first | refine aG (fun h => ?_) (fun h => ?_) | refine aD (fun h => ?_) (fun h => ?_) | refine aX (fun h => ?_) (fun h => ?_)) <;> simp only [h]) | refine awp_cond_t rfl ?_ | refine awp_cond_f rfl ?_ | ((refine awp_cond rfl (fun h => ?_) (fun h => ?_) <;> try simp only [ifs] at h) <;> (try (exfalso; omega))) | refine awp_ret ?_))
                ((first | (refine nextB ((k + 1, 4)) ?_ ?_ ?_) | (refine nextA ((k + 1, 4)) ?_ ?_ ?_)); rotate_left; (· (try dsimp only); (first | omega | (simp only [List.length_drop, List.length_cons, List.length_append]; omega) | (simp; done) | (simp; omega))); (· (refine emb [] ?_ ?_ rfl ?_ ?_ ?_ ?_ <;> simp [okM, okO, lk, ren, renL, renNd, by_, hE] <;> (try omega))))
                exact ⟨by simp only; omega, .inr ⟨by simp, hno⟩⟩
        · have b1 : (vcheck v.k v.n v.s == 0) = false := by simpa using hvc
          rw [if_pos hvc] at hno
          (repeat' (first | refine awp_seq ?_ | refine awp_block ?_ | refine awp_skip ?_ | refine awp_exit ?_ | ((first | refine rR (fun K kp hK hkp => ?_) | refine rD (id := 8) mixed 28 [0,1,2,3,4,5,6,7,8,9,10,11,12,13,14,15,16,17,18,19,20,21,22,23,24,25,26,27] (fun K kp hK hkp => ?_) | refine cR vc ?_ | refine cD vc ?_ | refine iG ?_ | refine iD ?_); simp (implicitDefEqProofs := false) (maxSteps := 2000000) (disch := omega) only [go_sem, hx, hc, eV, eC, b1, dk]; (repeat' (first | (refine hK _ ?_; clear hK hkp kp K) | (with_reducible refine And.intro ?_ ?_) | omega))) | ((first | refine aG (fun h => ?_) (fun h => ?_) | refine aD (fun h => ?_) (fun h => ?_) | refine aX (fun h => ?_) (fun h => ?_)) <;> simp only [h]) | refine awp_cond_t rfl ?_ | refine awp_cond_f rfl ?_ | ((refine awp_cond rfl (fun h => ?_) (fun h => ?_) <;> try simp only [ifs] at h) <;> (try (exfalso; omega))) | refine awp_ret ?_))
          ((first | (refine nextB ((k + 1, vcheck v.k v.n v.s)) ?_ ?_ ?_) | (refine nextA ((k + 1, vcheck v.k v.n v.s)) ?_ ?_ ?_)); rotate_left; (· (try dsimp only); (first | omega | (simp only [List.length_drop, List.length_cons, List.length_append]; omega) | (simp; done) | (simp; omega))); (· (refine emb [] ?_ ?_ rfl ?_ ?_ ?_ ?_ <;> simp [okM, okO, lk, ren, renL, renNd, by_, hE] <;> (try omega))))
          exact ⟨by simp only; omega, .inr ⟨hvc, hno⟩⟩
      · have dk : decide ((k : Int) < (r.length : Int)) = false := decide_eq_false (by omega)
        (repeat' (first | refine awp_seq ?_ | refine awp_block ?_ | refine awp_skip ?_ | refine awp_exit ?_ | ((first | refine rR (fun K kp hK hkp => ?_) | refine rD (id := 8) mixed 28 [0,1,2,3,4,5,6,7,8,9,10,11,12,13,14,15,16,17,18,19,20,21,22,23,24,25,26,27] (fun K kp hK hkp => ?_) | refine iG ?_ | refine iD ?_); simp (implicitDefEqProofs := false) (maxSteps := 2000000) (disch := omega) only [go_sem, dk]; (repeat' (first | (refine hK _ ?_; clear hK hkp kp K) | (with_reducible refine And.intro ?_ ?_) | omega))) | ((first | refine aG (fun h => ?_) (fun h => ?_) | refine aD (fun h => ?_) (fun h => ?_) | refine aX (fun h => ?_) (fun h => ?_)) <;> simp only [h]) | refine awp_cond_t rfl ?_ | refine awp_cond_f rfl ?_ | ((refine awp_cond rfl (fun h => ?_) (fun h => ?_) <;> try simp only [ifs] at h) <;> (try (exfalso; omega))) | refine awp_ret ?_))
        (refine retA_is (by (simp (implicitDefEqProofs := false) (maxSteps := 2000000) (disch := omega) only [go_sem, Go.Proofs.Tryz.results16]); rfl) ?_; refine eN hE ?_; simp [oneA, ren, renL])
        rw [← hno, List.drop_of_length_le (l := r) (by omega)]; cases l.drop k <;> rfl
    · have hno : e = rowsM l r := (he.resolve_left (fun h => he0 h.1)).2
      have b1 : (e == 0) = false := by simpa using he0
      by_cases hlt : k < r.length
      · have dk : decide ((k : Int) < (r.length : Int)) = true := decide_eq_true (by omega)
        (repeat' (first | refine awp_seq ?_ | refine awp_block ?_ | refine awp_skip ?_ | refine awp_exit ?_ | ((first | refine rR (fun K kp hK hkp => ?_) | refine rD (id := 8) mixed 28 [0,1,2,3,4,5,6,7,8,9,10,11,12,13,14,15,16,17,18,19,20,21,22,23,24,25,26,27] (fun K kp hK hkp => ?_) | refine iG ?_ | refine iD ?_); simp (implicitDefEqProofs := false) (maxSteps := 2000000) (disch := omega) only [go_sem, dk, b1]; (repeat' (first | (refine hK _ ?_; clear hK hkp kp K) | (with_reducible refine And.intro ?_ ?_) | omega))) | ((first | refine aG (fun h => ?_) (fun h => ?_) | refine aD (fun h => ?_) (fun h => ?_) | refine aX (fun h => ?_) (fun h => ?_)) <;> simp only [h]) | refine awp_cond_t rfl ?_ | refine awp_cond_f rfl ?_ | ((refine awp_cond rfl (fun h => ?_) (fun h => ?_) <;> try simp only [ifs] at h) <;> (try (exfalso; omega))) | refine awp_ret ?_))
        (refine retA_is (by (simp (implicitDefEqProofs := false) (maxSteps := 2000000) (disch := omega) only [go_sem, Go.Proofs.Tryz.results16]); rfl) ?_; refine eN hE ?_; simp [oneA, ren, renL])
        exact hno
      · have dk : decide ((k : Int) < (r.length : Int)) = false := decide_eq_false (by omega)
        (repeat' (first | refine awp_seq ?_ | refine awp_block ?_ | refine awp_skip ?_ | refine awp_exit ?_ | ((first | refine rR (fun K kp hK hkp => ?_) | refine rD (id := 8) mixed 28 [0,1,2,3,4,5,6,7,8,9,10,11,12,13,14,15,16,17,18,19,20,21,22,23,24,25,26,27] (fun K kp hK hkp => ?_) | refine iG ?_ | refine iD ?_); simp (implicitDefEqProofs := false) (maxSteps := 2000000) (disch := omega) only [go_sem, dk]; (repeat' (first | (refine hK _ ?_; clear hK hkp kp K) | (with_reducible refine And.intro ?_ ?_) | omega))) | ((first | refine aG (fun h => ?_) (fun h => ?_) | refine aD (fun h => ?_) (fun h => ?_) | refine aX (fun h => ?_) (fun h => ?_)) <;> simp only [h]) | refine awp_cond_t rfl ?_ | refine awp_cond_f rfl ?_ | ((refine awp_cond rfl (fun h => ?_) (fun h => ?_) <;> try simp only [ifs] at h) <;> (try (exfalso; omega))) | refine awp_ret ?_))
        (refine retA_is (by (simp (implicitDefEqProofs := false) (maxSteps := 2000000) (disch := omega) only [go_sem, Go.Proofs.Tryz.results16]); rfl) ?_; refine eN hE ?_; simp [oneA, ren, renL])
        exact hno
end Go.AM
/- Values: what an op makes of one value. -/
namespace Go.AM
open Go Go.RowKit
open Go.Proofs.YtoecmmpjndcolaaGreatDoor (vcheck oneM vboth)
attribute [local irreducible] AWP retA
def bV (b : Bool) : V := ⟨1, if b then 1 else 0, ⟨#[]⟩⟩
def pairA (x : (Int × Int × ByteArray) × Int) : AV := .tup [.agg (eV ⟨x.1.1, x.1.2.1, x.1.2.2⟩), .r (.int .i64 x.2)]
theorem truth_con (G : List (Nat × List Value)) (b : Bool) : Con Go.Proofs.Tryz.prog G 58 [.r (.bool b)] [] 0 (Is (.agg (eV (bV b))) [] 0) No := by
  refine con_of_awp Go.Proofs.Tryz.func58 rfl (by kernel_rfl) (of_decide_eq_true (by kernel_rfl)) ?_; intro E hG hE; subst hG; simp only [ent]
  cases b
  all_goals
    (repeat' (first | refine awp_seq ?_ | refine awp_block ?_ | refine awp_skip ?_ | refine awp_exit ?_ | ((first | refine rR (fun K kp hK hkp => ?_) | refine iG ?_); simp (implicitDefEqProofs := false) (maxSteps := 2000000) (disch := omega) only [go_sem]; (repeat' (first | (refine hK _ ?_; clear hK hkp kp K) | (with_reducible refine And.intro ?_ ?_) | omega))) | ((first | refine aG (fun h => ?_) (fun h => ?_) | refine aD (fun h => ?_) (fun h => ?_) | refine aX (fun h => ?_) (fun h => ?_)) <;> simp only [h]) | refine awp_cond_t rfl ?_ | refine awp_cond_f rfl ?_ | ((refine awp_cond rfl (fun h => ?_) (fun h => ?_) <;> try simp only [ifs] at h) <;> (try (exfalso; omega))) | refine awp_ret ?_))
    (refine retA_is (by (simp (implicitDefEqProofs := false) (maxSteps := 2000000) (disch := omega) only [go_sem, Go.Proofs.Tryz.results58, eV, bV]); rfl) ?_; refine eN hE ?_; simp [oneA, ren, renL, eV, bV])
theorem yes_con (G : List (Nat × List Value)) (b : Bool) : Con Go.Proofs.Tryz.prog G 68 [.r (.bool b)] [] 0 (Is (.agg (eV (bV b))) [] 0) No := by
  refine con_of_awp Go.Proofs.Tryz.func68 rfl (by kernel_rfl) (of_decide_eq_true (by kernel_rfl)) ?_; intro E hG hE; subst hG; simp only [ent]
  cases b
  all_goals
    (repeat' (first | refine awp_seq ?_ | refine awp_block ?_ | refine awp_skip ?_ | refine awp_exit ?_ | ((first | refine rR (fun K kp hK hkp => ?_) | refine iG ?_); simp (implicitDefEqProofs := false) (maxSteps := 2000000) (disch := omega) only [go_sem]; (repeat' (first | (refine hK _ ?_; clear hK hkp kp K) | (with_reducible refine And.intro ?_ ?_) | omega))) | ((first | refine aG (fun h => ?_) (fun h => ?_) | refine aD (fun h => ?_) (fun h => ?_) | refine aX (fun h => ?_) (fun h => ?_)) <;> simp only [h]) | refine awp_cond_t rfl ?_ | refine awp_cond_f rfl ?_ | ((refine awp_cond rfl (fun h => ?_) (fun h => ?_) <;> try simp only [ifs] at h) <;> (try (exfalso; omega))) | refine awp_ret ?_))
    (refine retA_is (by (simp (implicitDefEqProofs := false) (maxSteps := 2000000) (disch := omega) only [go_sem, Go.Proofs.Tryz.results68, eV, bV]); rfl) ?_; refine eN hE ?_; simp [oneA, ren, renL, eV, bV])
theorem null_con (G : List (Nat × List Value)) (a b : V) : Con Go.Proofs.Tryz.prog G 61 [.agg (eV a), .agg (eV b)] [] 0 (Is (.r (.bool (a.k == 0 || b.k == 0))) [] 0) No := by
  refine con_of_awp Go.Proofs.Tryz.func61 rfl (by kernel_rfl) (of_decide_eq_true (by kernel_rfl)) ?_; intro E hG hE; subst hG; simp only [ent]
  cases h : a.k == 0
  all_goals
    (repeat' (first | refine awp_seq ?_ | refine awp_block ?_ | refine awp_skip ?_ | refine awp_exit ?_ | ((first | refine rR (fun K kp hK hkp => ?_) | refine iG ?_); simp (implicitDefEqProofs := false) (maxSteps := 2000000) (disch := omega) only [go_sem, eV, h]; (repeat' (first | (refine hK _ ?_; clear hK hkp kp K) | (with_reducible refine And.intro ?_ ?_) | omega))) | ((first | refine aG (fun h => ?_) (fun h => ?_) | refine aD (fun h => ?_) (fun h => ?_) | refine aX (fun h => ?_) (fun h => ?_)) <;> simp only [h]) | refine awp_cond_t rfl ?_ | refine awp_cond_f rfl ?_ | ((refine awp_cond rfl (fun h => ?_) (fun h => ?_) <;> try simp only [ifs] at h) <;> (try (exfalso; omega))) | refine awp_ret ?_))
    (refine retA_is (by (simp (implicitDefEqProofs := false) (maxSteps := 2000000) (disch := omega) only [go_sem, Go.Proofs.Tryz.results61, h]); rfl) ?_; refine eN hE ?_; simp [oneA, ren, renL, h])
theorem both_con (G : List (Nat × List Value)) (a b : V) (ha : okS a.s) (hb : okS b.s) : Con Go.Proofs.Tryz.prog G 59 [.agg (eV a), .agg (eV b)] [] 0 (Is (.r (.int .i64 (vboth a.k a.n a.s b.k b.n b.s))) [] 0) No := by
  refine con_of_awp Go.Proofs.Tryz.func59 rfl (by kernel_rfl) (of_decide_eq_true (by kernel_rfl)) ?_; intro E hG hE; subst hG; simp only [ent]
  have ca := val_con E.G a ha
  have cb := val_con E.G b hb
  simp only [eV] at ca cb
  by_cases h : vcheck a.k a.n a.s = 0
  · rw [h] at ca
    (repeat' (first | refine awp_seq ?_ | refine awp_block ?_ | refine awp_skip ?_ | refine awp_exit ?_ | ((first | refine rR (fun K kp hK hkp => ?_) | refine cR ca ?_ | refine cR cb ?_ | refine iG ?_); simp (implicitDefEqProofs := false) (maxSteps := 2000000) (disch := omega) only [go_sem, eV]; (repeat' (first | (refine hK _ ?_; clear hK hkp kp K) | (with_reducible refine And.intro ?_ ?_) | omega))) | ((first | refine aG (fun h => ?_) (fun h => ?_) | refine aD (fun h => ?_) (fun h => ?_) | refine aX (fun h => ?_) (fun h => ?_)) <;> simp only [h]) | refine awp_cond_t rfl ?_ | refine awp_cond_f rfl ?_ | ((refine awp_cond rfl (fun h => ?_) (fun h => ?_) <;> try simp only [ifs] at h) <;> (try (exfalso; omega))) | refine awp_ret ?_))
    (refine retA_is (by (simp (implicitDefEqProofs := false) (maxSteps := 2000000) (disch := omega) only [go_sem, Go.Proofs.Tryz.results59, vboth, h]); rfl) ?_; refine eN hE ?_; simp [oneA, ren, renL, vboth, h])
  · have hb : (vcheck a.k a.n a.s != 0) = true := by simpa using h
    (repeat' (first | refine awp_seq ?_ | refine awp_block ?_ | refine awp_skip ?_ | refine awp_exit ?_ | ((first | refine rR (fun K kp hK hkp => ?_) | refine cR ca ?_ | refine iG ?_); simp (implicitDefEqProofs := false) (maxSteps := 2000000) (disch := omega) only [go_sem, eV, hb]; (repeat' (first | (refine hK _ ?_; clear hK hkp kp K) | (with_reducible refine And.intro ?_ ?_) | omega))) | ((first | refine aG (fun h => ?_) (fun h => ?_) | refine aD (fun h => ?_) (fun h => ?_) | refine aX (fun h => ?_) (fun h => ?_)) <;> simp only [h]) | refine awp_cond_t rfl ?_ | refine awp_cond_f rfl ?_ | ((refine awp_cond rfl (fun h => ?_) (fun h => ?_) <;> try simp only [ifs] at h) <;> (try (exfalso; omega))) | refine awp_ret ?_))
    (refine retA_is (by (simp (implicitDefEqProofs := false) (maxSteps := 2000000) (disch := omega) only [go_sem, Go.Proofs.Tryz.results59, vboth, h]); rfl) ?_; refine eN hE ?_; simp [oneA, ren, renL, vboth, h])
theorem bothFault_con (G : List (Nat × List Value)) (a b : V) (ha : okS a.s) (hb : okS b.s) : Con Go.Proofs.Tryz.prog G 69 [.agg (eV a), .agg (eV b)] [] 0 (Is (.r (.int .i64 (vboth a.k a.n a.s b.k b.n b.s))) [] 0) No := by
  refine con_of_awp Go.Proofs.Tryz.func69 rfl (by kernel_rfl) (of_decide_eq_true (by kernel_rfl)) ?_; intro E hG hE; subst hG; simp only [ent]
  have ca := vfault_con E.G a ha
  have cb := vfault_con E.G b hb
  simp only [eV] at ca cb
  by_cases h : vcheck a.k a.n a.s = 0
  · rw [h] at ca
    (repeat' (first | refine awp_seq ?_ | refine awp_block ?_ | refine awp_skip ?_ | refine awp_exit ?_ | ((first | refine rR (fun K kp hK hkp => ?_) | refine cR ca ?_ | refine cR cb ?_ | refine iG ?_); simp (implicitDefEqProofs := false) (maxSteps := 2000000) (disch := omega) only [go_sem, eV]; (repeat' (first | (refine hK _ ?_; clear hK hkp kp K) | (with_reducible refine And.intro ?_ ?_) | omega))) | ((first | refine aG (fun h => ?_) (fun h => ?_) | refine aD (fun h => ?_) (fun h => ?_) | refine aX (fun h => ?_) (fun h => ?_)) <;> simp only [h]) | refine awp_cond_t rfl ?_ | refine awp_cond_f rfl ?_ | ((refine awp_cond rfl (fun h => ?_) (fun h => ?_) <;> try simp only [ifs] at h) <;> (try (exfalso; omega))) | refine awp_ret ?_))
    (refine retA_is (by (simp (implicitDefEqProofs := false) (maxSteps := 2000000) (disch := omega) only [go_sem, Go.Proofs.Tryz.results69, vboth, h]); rfl) ?_; refine eN hE ?_; simp [oneA, ren, renL, vboth, h])
  · have hb : (vcheck a.k a.n a.s == 0) = false := by simpa using h
    (repeat' (first | refine awp_seq ?_ | refine awp_block ?_ | refine awp_skip ?_ | refine awp_exit ?_ | ((first | refine rR (fun K kp hK hkp => ?_) | refine cR ca ?_ | refine iG ?_); simp (implicitDefEqProofs := false) (maxSteps := 2000000) (disch := omega) only [go_sem, eV, hb]; (repeat' (first | (refine hK _ ?_; clear hK hkp kp K) | (with_reducible refine And.intro ?_ ?_) | omega))) | ((first | refine aG (fun h => ?_) (fun h => ?_) | refine aD (fun h => ?_) (fun h => ?_) | refine aX (fun h => ?_) (fun h => ?_)) <;> simp only [h]) | refine awp_cond_t rfl ?_ | refine awp_cond_f rfl ?_ | ((refine awp_cond rfl (fun h => ?_) (fun h => ?_) <;> try simp only [ifs] at h) <;> (try (exfalso; omega))) | refine awp_ret ?_))
    (refine retA_is (by (simp (implicitDefEqProofs := false) (maxSteps := 2000000) (disch := omega) only [go_sem, Go.Proofs.Tryz.results69, vboth, h]); rfl) ?_; refine eN hE ?_; simp [oneA, ren, renL, vboth, h])
set_option maxRecDepth 100000 in
set_option maxHeartbeats 4000000 in
theorem one_con (G : List (Nat × List Value)) (kind : Int) (a : V) (ha : okS a.s) : Con Go.Proofs.Tryz.prog G 33 [.r (.int .i64 kind), .agg (eV a)] [] 0 (Is (pairA (oneM kind a.k a.n a.s)) [] 0) No := by
  refine con_of_awp Go.Proofs.Tryz.func33 rfl (by kernel_rfl) (of_decide_eq_true (by kernel_rfl)) ?_; intro E hG hE; subst hG; simp only [ent]
  have ca := val_con E.G a ha
  have t1 := truth_con E.G (a.k == 0)
  have t2 := truth_con E.G (a.n == 0)
  simp only [eV, bV] at ca t1 t2
  by_cases h : vcheck a.k a.n a.s = 0
  · rw [h] at ca
    (repeat' (first | refine awp_seq ?_ | refine awp_block ?_ | refine awp_skip ?_ | refine awp_exit ?_ | ((first | refine rR (fun K kp hK hkp => ?_) | refine cR ca ?_ | refine cR t1 ?_ | refine cR t2 ?_ | refine iG ?_); simp (implicitDefEqProofs := false) (maxSteps := 2000000) (disch := omega) only [go_sem, eV]; (repeat' (first | (refine hK _ ?_; clear hK hkp kp K) | (with_reducible refine And.intro ?_ ?_) | omega))) | ((first | refine aG (fun h => ?_) (fun h => ?_) | refine aD (fun h => ?_) (fun h => ?_) | refine aX (fun h => ?_) (fun h => ?_)) <;> simp only [h]) | refine awp_cond_t rfl ?_ | refine awp_cond_f rfl ?_ | ((refine awp_cond rfl (fun h => ?_) (fun h => ?_) <;> try simp only [ifs] at h) <;> (try (exfalso; omega))) | refine awp_ret ?_))
    all_goals (refine retA_is (by (simp (implicitDefEqProofs := false) (maxSteps := 2000000) (disch := omega) only [go_sem, Go.Proofs.Tryz.results33]); rfl) ?_; refine (embV_nil hE (by simp) ?_).s; clear hE ca t1 t2; simp_all [oneA, ren, renL, oneM, pairA, eV])
  · have hb : (vcheck a.k a.n a.s != 0) = true := by simpa using h
    (repeat' (first | refine awp_seq ?_ | refine awp_block ?_ | refine awp_skip ?_ | refine awp_exit ?_ | ((first | refine rR (fun K kp hK hkp => ?_) | refine cR ca ?_ | refine iG ?_); simp (implicitDefEqProofs := false) (maxSteps := 2000000) (disch := omega) only [go_sem, eV, hb]; (repeat' (first | (refine hK _ ?_; clear hK hkp kp K) | (with_reducible refine And.intro ?_ ?_) | omega))) | ((first | refine aG (fun h => ?_) (fun h => ?_) | refine aD (fun h => ?_) (fun h => ?_) | refine aX (fun h => ?_) (fun h => ?_)) <;> simp only [h]) | refine awp_cond_t rfl ?_ | refine awp_cond_f rfl ?_ | ((refine awp_cond rfl (fun h => ?_) (fun h => ?_) <;> try simp only [ifs] at h) <;> (try (exfalso; omega))) | refine awp_ret ?_))
    (refine retA_is (by (simp (implicitDefEqProofs := false) (maxSteps := 2000000) (disch := omega) only [go_sem, Go.Proofs.Tryz.results33, oneM, pairA, eV, h]); rfl) ?_; refine eN hE ?_; simp [oneA, ren, renL, oneM, pairA, eV, h])
set_option maxRecDepth 100000 in
set_option maxHeartbeats 4000000 in
theorem oneOf_con (G : List (Nat × List Value)) (kind : Int) (a : V) (ha : okS a.s) : Con Go.Proofs.Tryz.prog G 41 [.r (.int .i64 kind), .agg (eV a)] [] 0 (Is (pairA (oneM kind a.k a.n a.s)) [] 0) No := by
  refine con_of_awp Go.Proofs.Tryz.func41 rfl (by kernel_rfl) (of_decide_eq_true (by kernel_rfl)) ?_; intro E hG hE; subst hG; simp only [ent]
  have ca := vfault_con E.G a ha
  have t1 := yes_con E.G (a.k == 0)
  have t2 := yes_con E.G (a.n == 0)
  simp only [eV, bV] at ca t1 t2
  by_cases h : vcheck a.k a.n a.s = 0
  · rw [h] at ca
    (repeat' (first | refine awp_seq ?_ | refine awp_block ?_ | refine awp_skip ?_ | refine awp_exit ?_ | ((first | refine rR (fun K kp hK hkp => ?_) | refine cR ca ?_ | refine cR t1 ?_ | refine cR t2 ?_ | refine iG ?_); simp (implicitDefEqProofs := false) (maxSteps := 2000000) (disch := omega) only [go_sem, eV]; (repeat' (first | (refine hK _ ?_; clear hK hkp kp K) | (with_reducible refine And.intro ?_ ?_) | omega))) | ((first | refine aG (fun h => ?_) (fun h => ?_) | refine aD (fun h => ?_) (fun h => ?_) | refine aX (fun h => ?_) (fun h => ?_)) <;> simp only [h]) | refine awp_cond_t rfl ?_ | refine awp_cond_f rfl ?_ | ((refine awp_cond rfl (fun h => ?_) (fun h => ?_) <;> try simp only [ifs] at h) <;> (try (exfalso; omega))) | refine awp_ret ?_))
    all_goals (refine retA_is (by (simp (implicitDefEqProofs := false) (maxSteps := 2000000) (disch := omega) only [go_sem, Go.Proofs.Tryz.results41]); rfl) ?_; refine (embV_nil hE (by simp) ?_).s; clear hE ca t1 t2; simp_all [oneA, ren, renL, oneM, pairA, eV])
  · have hb : (vcheck a.k a.n a.s != 0) = true := by simpa using h
    (repeat' (first | refine awp_seq ?_ | refine awp_block ?_ | refine awp_skip ?_ | refine awp_exit ?_ | ((first | refine rR (fun K kp hK hkp => ?_) | refine cR ca ?_ | refine iG ?_); simp (implicitDefEqProofs := false) (maxSteps := 2000000) (disch := omega) only [go_sem, eV, hb]; (repeat' (first | (refine hK _ ?_; clear hK hkp kp K) | (with_reducible refine And.intro ?_ ?_) | omega))) | ((first | refine aG (fun h => ?_) (fun h => ?_) | refine aD (fun h => ?_) (fun h => ?_) | refine aX (fun h => ?_) (fun h => ?_)) <;> simp only [h]) | refine awp_cond_t rfl ?_ | refine awp_cond_f rfl ?_ | ((refine awp_cond rfl (fun h => ?_) (fun h => ?_) <;> try simp only [ifs] at h) <;> (try (exfalso; omega))) | refine awp_ret ?_))
    (refine retA_is (by (simp (implicitDefEqProofs := false) (maxSteps := 2000000) (disch := omega) only [go_sem, Go.Proofs.Tryz.results41, oneM, pairA, eV, h]); rfl) ?_; refine eN hE ?_; simp [oneA, ren, renL, oneM, pairA, eV, h])
end Go.AM
/- Values: what comes first. -/
namespace Go.Proofs.YtoecmmpjndcolaaGreatDoor
open Go.RowKit
theorem run_cmpstring (a b : ByteArray) (w : World) : (callFunc 133 #[.string a, .string b]).run Tryz.prog w = .ok (.value (.int .i64 (Lib.compareBytes a.data.toList b.data.toList))) w := by
  have hf : Tryz.prog.funcs[133]? = some Tryz.f133 := by kernel_rfl
  rw [run_callFunc_extern hf (by kernel_rfl) (by kernel_rfl) (by kernel_rfl) (e := Extern.BytealgCompare.compare) (by kernel_rfl), Lib.run_compareString]
  rfl
theorem scmp_any (a b : ByteArray) (w : World) : Calls Tryz.prog 85 #[.string a, .string b] w fun e w' => e = .returned (.int .i64 (Lib.compareBytes a.data.toList b.data.toList)) ∧ Below w.heap.size w w' := by
  have h40 := run_cmpstring
  go_enter Tryz.func85, Tryz.ntmps85
  go_wp2
  go_ret
  exact ⟨rfl, Below.refl _ _⟩
end Go.Proofs.YtoecmmpjndcolaaGreatDoor
namespace Go.AM
open Go Go.RowKit
open Go.Proofs.YtoecmmpjndcolaaGreatDoor (vcheck vboth cmpI or3 vcmp vahead)
attribute [local irreducible] AWP retA
theorem scmp_con (G : List (Nat × List Value)) (a b : ByteArray) : Con Go.Proofs.Tryz.prog G 85 [.r (.string a), .r (.string b)] [] 0 (Is (.r (.int .i64 (Lib.compareBytes a.data.toList b.data.toList))) [] 0) No :=
  con_of_calls (by kernel_rfl) (fun w z vs hz hr hG => by
    obtain ⟨v, r, rfl, h1, h2⟩ := hr.head
    obtain ⟨v2, r2, rfl, h3, h4⟩ := h2.head
    obtain rfl := h1.r_inv
    obtain rfl := h3.r_inv
    obtain rfl := h4.of_nil
    exact Go.Proofs.YtoecmmpjndcolaaGreatDoor.scmp_any a b w)
theorem nan_con (G : List (Nat × List Value)) (a : Int) : Con Go.Proofs.Tryz.prog G 111 [.r (.int .i64 a)] [] 0 (Is (.r (.bool false)) [] 0) No := by
  refine con_of_awp Go.Proofs.Tryz.func111 rfl (by kernel_rfl) (of_decide_eq_true (by kernel_rfl)) ?_; intro E hG hE; subst hG; simp only [ent]
  (repeat' (first | refine awp_seq ?_ | refine awp_block ?_ | refine awp_skip ?_ | refine awp_exit ?_ | ((first | refine rR (fun K kp hK hkp => ?_) | refine iG ?_); simp (implicitDefEqProofs := false) (maxSteps := 2000000) (disch := omega) only [go_sem, bne_self_eq_false]; (repeat' (first | (refine hK _ ?_; clear hK hkp kp K) | (with_reducible refine And.intro ?_ ?_) | omega))) | ((first | refine aG (fun h => ?_) (fun h => ?_) | refine aD (fun h => ?_) (fun h => ?_) | refine aX (fun h => ?_) (fun h => ?_)) <;> simp only [h]) | refine awp_cond_t rfl ?_ | refine awp_cond_f rfl ?_ | ((refine awp_cond rfl (fun h => ?_) (fun h => ?_) <;> try simp only [ifs] at h) <;> (try (exfalso; omega))) | refine awp_ret ?_))
  (refine retA_is (by (simp (implicitDefEqProofs := false) (maxSteps := 2000000) (disch := omega) only [go_sem, Go.Proofs.Tryz.results111]); rfl) ?_; refine eN hE ?_; simp [oneA, ren, renL])
theorem ccmp_con (G : List (Nat × List Value)) (a b : Int) : Con Go.Proofs.Tryz.prog G 84 [.r (.int .i64 a), .r (.int .i64 b)] [] 0 (Is (.r (.int .i64 (cmpI a b))) [] 0) No := by
  refine con_of_awp Go.Proofs.Tryz.func84 rfl (by kernel_rfl) (of_decide_eq_true (by kernel_rfl)) ?_; intro E hG hE; subst hG; simp only [ent]
  have n1 := nan_con E.G a
  have n2 := nan_con E.G b
  by_cases h : a < b
  · (repeat' (first | refine awp_seq ?_ | refine awp_block ?_ | refine awp_skip ?_ | refine awp_exit ?_ | ((first | refine rR (fun K kp hK hkp => ?_) | refine cR n1 ?_ | refine cR n2 ?_ | refine iG ?_); simp (implicitDefEqProofs := false) (maxSteps := 2000000) (disch := omega) only [go_sem, h, decide_true]; (repeat' (first | (refine hK _ ?_; clear hK hkp kp K) | (with_reducible refine And.intro ?_ ?_) | omega))) | ((first | refine aG (fun h => ?_) (fun h => ?_) | refine aD (fun h => ?_) (fun h => ?_) | refine aX (fun h => ?_) (fun h => ?_)) <;> simp only [h]) | refine awp_cond_t rfl ?_ | refine awp_cond_f rfl ?_ | ((refine awp_cond rfl (fun h => ?_) (fun h => ?_) <;> try simp only [ifs] at h) <;> (try (exfalso; omega))) | refine awp_ret ?_))
    (refine retA_is (by (simp (implicitDefEqProofs := false) (maxSteps := 2000000) (disch := omega) only [go_sem, Go.Proofs.Tryz.results84, cmpI, h]); rfl) ?_; refine eN hE ?_; simp [oneA, ren, renL, cmpI, h])
  · by_cases h2 : b < a
    · (repeat' (first | refine awp_seq ?_ | refine awp_block ?_ | refine awp_skip ?_ | refine awp_exit ?_ | ((first | refine rR (fun K kp hK hkp => ?_) | refine cR n1 ?_ | refine cR n2 ?_ | refine iG ?_); simp (implicitDefEqProofs := false) (maxSteps := 2000000) (disch := omega) only [go_sem, h, h2, decide_true, decide_false]; (repeat' (first | (refine hK _ ?_; clear hK hkp kp K) | (with_reducible refine And.intro ?_ ?_) | omega))) | ((first | refine aG (fun h => ?_) (fun h => ?_) | refine aD (fun h => ?_) (fun h => ?_) | refine aX (fun h => ?_) (fun h => ?_)) <;> simp only [h]) | refine awp_cond_t rfl ?_ | refine awp_cond_f rfl ?_ | ((refine awp_cond rfl (fun h => ?_) (fun h => ?_) <;> try simp only [ifs] at h) <;> (try (exfalso; omega))) | refine awp_ret ?_))
      (refine retA_is (by (simp (implicitDefEqProofs := false) (maxSteps := 2000000) (disch := omega) only [go_sem, Go.Proofs.Tryz.results84, cmpI, h, h2]); rfl) ?_; refine eN hE ?_; simp [oneA, ren, renL, cmpI, h, h2])
    · (repeat' (first | refine awp_seq ?_ | refine awp_block ?_ | refine awp_skip ?_ | refine awp_exit ?_ | ((first | refine rR (fun K kp hK hkp => ?_) | refine cR n1 ?_ | refine cR n2 ?_ | refine iG ?_); simp (implicitDefEqProofs := false) (maxSteps := 2000000) (disch := omega) only [go_sem, h, h2, decide_true, decide_false]; (repeat' (first | (refine hK _ ?_; clear hK hkp kp K) | (with_reducible refine And.intro ?_ ?_) | omega))) | ((first | refine aG (fun h => ?_) (fun h => ?_) | refine aD (fun h => ?_) (fun h => ?_) | refine aX (fun h => ?_) (fun h => ?_)) <;> simp only [h]) | refine awp_cond_t rfl ?_ | refine awp_cond_f rfl ?_ | ((refine awp_cond rfl (fun h => ?_) (fun h => ?_) <;> try simp only [ifs] at h) <;> (try (exfalso; omega))) | refine awp_ret ?_))
      (refine retA_is (by (simp (implicitDefEqProofs := false) (maxSteps := 2000000) (disch := omega) only [go_sem, Go.Proofs.Tryz.results84, cmpI, h, h2]); rfl) ?_; refine eN hE ?_; simp [oneA, ren, renL, cmpI, h, h2])
end Go.AM
/- Values: what comes first, of two values. -/
namespace Go.AM
open Go Go.RowKit
open Go.Proofs.YtoecmmpjndcolaaGreatDoor (vcheck vboth cmpI or3 vcmp vahead)
attribute [local irreducible] AWP retA
def orL : List Int → Int
  | [] => 0
  | x :: r => if x = 0 then orL r else x
theorem orL3 (x y z : Int) : orL [x, y, z] = or3 x y z := by
  simp only [orL, or3]
  by_cases h : z = 0 <;> simp [h]
set_option maxRecDepth 100000 in
theorem or_con (G : List (Nat × List Value)) (t : Bool) (l : List Int) (hl : l.length ≤ 1048576) : Con Go.Proofs.Tryz.prog G 83 [.ro t 1 (l.map eI)] [] 0 (Is (.r (.int .i64 (orL l))) [] 0) No := by
  refine con_of_awp Go.Proofs.Tryz.func83 rfl (by kernel_rfl) (of_decide_eq_true (by kernel_rfl)) ?_; intro E hG hE; subst hG; simp only [ent]
  (repeat' (first | refine awp_seq ?_ | refine awp_block ?_ | refine awp_skip ?_ | refine awp_exit ?_ | ((first | refine rR (fun K kp hK hkp => ?_) | refine iG ?_); simp (implicitDefEqProofs := false) (maxSteps := 2000000) (disch := omega) only [go_sem]; (repeat' (first | (refine hK _ ?_; clear hK hkp kp K) | (with_reducible refine And.intro ?_ ?_) | omega))) | ((first | refine aG (fun h => ?_) (fun h => ?_) | refine aD (fun h => ?_) (fun h => ?_) | refine aX (fun h => ?_) (fun h => ?_)) <;> simp only [h]) | refine awp_cond_t rfl ?_ | refine awp_cond_f rfl ?_ | ((refine awp_cond rfl (fun h => ?_) (fun h => ?_) <;> try simp only [ifs] at h) <;> (try (exfalso; omega))) | refine awp_ret ?_))
  refine awp_loop (fun k : Nat => ⟨[(8, .r (.int .i64 k)), (7, .r (.int .i64 l.length)), (6, .ro t 1 (l.map eI)), (3, .r (.int .i64 0))], [], 0⟩) (fun k => k ≤ l.length ∧ orL (l.drop k) = orL l) (fun k => l.length - k) 0 ?_ ?_ ?_
  · simp
  · (refine emb [] ?_ ?_ rfl ?_ ?_ ?_ ?_ <;> simp [okM, okO, lk, ren, renL, renNd, by_, hE] <;> (try omega))
  intro k hk
  obtain ⟨hk, ho⟩ := hk
  by_cases hlt : k < l.length
  · obtain ⟨x, hx⟩ : ∃ x, l[k]? = some x := ⟨l[k], by simp [hlt]⟩
    have d1 : decide ((k : Int) < (l.length : Int)) = true := decide_eq_true (by omega)
    rw [drop_at hx, orL] at ho
    by_cases h0 : x = 0
    · subst h0
      (repeat' (first | refine awp_seq ?_ | refine awp_block ?_ | refine awp_skip ?_ | refine awp_exit ?_ | ((first | refine rR (fun K kp hK hkp => ?_) | refine iG ?_); simp (implicitDefEqProofs := false) (maxSteps := 2000000) (disch := omega) only [go_sem, hx, eI, d1, bne_self_eq_false]; (repeat' (first | (refine hK _ ?_; clear hK hkp kp K) | (with_reducible refine And.intro ?_ ?_) | omega))) | ((first | refine aG (fun h => ?_) (fun h => ?_) | refine aD (fun h => ?_) (fun h => ?_) | refine aX (fun h => ?_) (fun h => ?_)) <;> simp only [h]) | refine awp_cond_t rfl ?_ | refine awp_cond_f rfl ?_ | ((refine awp_cond rfl (fun h => ?_) (fun h => ?_) <;> try simp only [ifs] at h) <;> (try (exfalso; omega))) | refine awp_ret ?_))
      ((first | (refine nextB (k + 1) ?_ ?_ ?_) | (refine nextA (k + 1) ?_ ?_ ?_)); rotate_left; (· (try dsimp only); (first | omega | (simp only [List.length_drop, List.length_cons, List.length_append]; omega) | (simp; done) | (simp; omega))); (· (refine emb [] ?_ ?_ rfl ?_ ?_ ?_ ?_ <;> simp [okM, okO, lk, ren, renL, renNd, by_, hE] <;> (try omega))))
      exact ⟨by omega, by simpa using ho⟩
    · have b0 : (x != 0) = true := by simpa using h0
      rw [if_neg h0] at ho
      (repeat' (first | refine awp_seq ?_ | refine awp_block ?_ | refine awp_skip ?_ | refine awp_exit ?_ | ((first | refine rR (fun K kp hK hkp => ?_) | refine iG ?_); simp (implicitDefEqProofs := false) (maxSteps := 2000000) (disch := omega) only [go_sem, hx, eI, d1, b0]; (repeat' (first | (refine hK _ ?_; clear hK hkp kp K) | (with_reducible refine And.intro ?_ ?_) | omega))) | ((first | refine aG (fun h => ?_) (fun h => ?_) | refine aD (fun h => ?_) (fun h => ?_) | refine aX (fun h => ?_) (fun h => ?_)) <;> simp only [h]) | refine awp_cond_t rfl ?_ | refine awp_cond_f rfl ?_ | ((refine awp_cond rfl (fun h => ?_) (fun h => ?_) <;> try simp only [ifs] at h) <;> (try (exfalso; omega))) | refine awp_ret ?_))
      rw [← ho]
      (refine retA_is (by (simp (implicitDefEqProofs := false) (maxSteps := 2000000) (disch := omega) only [go_sem, Go.Proofs.Tryz.results83]); rfl) ?_; refine eN hE ?_; simp [oneA, ren, renL])
  · have d1 : decide ((k : Int) < (l.length : Int)) = false := decide_eq_false (by omega)
    rw [List.drop_of_length_le (by omega), orL] at ho
    (repeat' (first | refine awp_seq ?_ | refine awp_block ?_ | refine awp_skip ?_ | refine awp_exit ?_ | ((first | refine rR (fun K kp hK hkp => ?_) | refine iG ?_); simp (implicitDefEqProofs := false) (maxSteps := 2000000) (disch := omega) only [go_sem, d1]; (repeat' (first | (refine hK _ ?_; clear hK hkp kp K) | (with_reducible refine And.intro ?_ ?_) | omega))) | ((first | refine aG (fun h => ?_) (fun h => ?_) | refine aD (fun h => ?_) (fun h => ?_) | refine aX (fun h => ?_) (fun h => ?_)) <;> simp only [h]) | refine awp_cond_t rfl ?_ | refine awp_cond_f rfl ?_ | ((refine awp_cond rfl (fun h => ?_) (fun h => ?_) <;> try simp only [ifs] at h) <;> (try (exfalso; omega))) | refine awp_ret ?_))
    rw [← ho]
    (refine retA_is (by (simp (implicitDefEqProofs := false) (maxSteps := 2000000) (disch := omega) only [go_sem, Go.Proofs.Tryz.results83]); rfl) ?_; refine eN hE ?_; simp [oneA, ren, renL])
set_option maxRecDepth 100000 in
set_option maxHeartbeats 4000000 in
theorem compare_con (G : List (Nat × List Value)) (a b : V) : Con Go.Proofs.Tryz.prog G 62 [.agg (eV a), .agg (eV b)] [] 0 (Is (.r (.int .i64 (vcmp a.k a.n a.s b.k b.n b.s))) [] 0) No := by
  refine con_of_awp Go.Proofs.Tryz.func62 rfl (by kernel_rfl) (of_decide_eq_true (by kernel_rfl)) ?_; intro E hG hE; subst hG; simp only [ent]
  have c1 := ccmp_con E.G a.k b.k
  have c2 := ccmp_con E.G a.n b.n
  have c3 := scmp_con E.G a.s b.s
  have c4 := or_con E.G false [cmpI a.k b.k, cmpI a.n b.n, Lib.compareBytes a.s.data.toList b.s.data.toList] (by simp)
  simp only [List.map_cons, List.map_nil, eI, orL3] at c4
  (repeat' (first | refine awp_seq ?_ | refine awp_block ?_ | refine awp_skip ?_ | refine awp_exit ?_ | ((first | refine rR (fun K kp hK hkp => ?_) | refine rD (id := 1) mixed 18 [0,1,2,3,5,6,7,8,10,11,12,13,4,9,14,15,16,17] (fun K kp hK hkp => ?_) | refine cR c1 ?_ | refine cD c1 ?_ | refine cR c2 ?_ | refine cD c2 ?_ | refine cR c3 ?_ | refine cD c3 ?_ | refine cR c4 ?_ | refine cD c4 ?_ | refine iG ?_ | refine iD ?_); simp (implicitDefEqProofs := false) (maxSteps := 2000000) (disch := omega) only [go_sem, eV]; (repeat' (first | (refine hK _ ?_; clear hK hkp kp K) | (with_reducible refine And.intro ?_ ?_) | omega))) | ((first | refine aG (fun h => ?_) (fun h => ?_) | refine aD (fun h => ?_) (fun h => ?_) | refine aX (fun h => ?_) (fun h => ?_)) <;> simp only [h]) | refine awp_cond_t rfl ?_ | refine awp_cond_f rfl ?_ | ((refine awp_cond rfl (fun h => ?_) (fun h => ?_) <;> try simp only [ifs] at h) <;> (try (exfalso; omega))) | refine awp_ret ?_))
  (refine retA_is (by (simp (implicitDefEqProofs := false) (maxSteps := 2000000) (disch := omega) only [go_sem, Go.Proofs.Tryz.results62, vcmp]); rfl) ?_; refine eN hE ?_; simp [oneA, ren, renL, vcmp])
set_option maxRecDepth 100000 in
set_option maxHeartbeats 4000000 in
theorem ahead_con (G : List (Nat × List Value)) (a b : V) : Con Go.Proofs.Tryz.prog G 70 [.agg (eV a), .agg (eV b)] [] 0 (Is (.r (.bool (vahead a.k a.n a.s b.k b.n b.s))) [] 0) No := by
  refine con_of_awp Go.Proofs.Tryz.func70 rfl (by kernel_rfl) (of_decide_eq_true (by kernel_rfl)) ?_; intro E hG hE; subst hG; simp only [ent]
  (repeat' (first | refine awp_seq ?_ | refine awp_block ?_ | refine awp_skip ?_ | refine awp_exit ?_ | ((first | refine rR (fun K kp hK hkp => ?_) | refine iG ?_); simp (implicitDefEqProofs := false) (maxSteps := 2000000) (disch := omega) only [go_sem, eV]; (repeat' (first | (refine hK _ ?_; clear hK hkp kp K) | (with_reducible refine And.intro ?_ ?_) | omega))) | ((first | refine aG (fun h => ?_) (fun h => ?_) | refine aD (fun h => ?_) (fun h => ?_) | refine aX (fun h => ?_) (fun h => ?_)) <;> simp only [h]) | refine awp_cond_t rfl ?_ | refine awp_cond_f rfl ?_ | ((refine awp_cond rfl (fun h => ?_) (fun h => ?_) <;> try simp only [ifs] at h) <;> (try (exfalso; omega))) | refine awp_ret ?_))
  all_goals (refine retA_is (by (simp (implicitDefEqProofs := false) (maxSteps := 2000000) (disch := omega) only [go_sem, Go.Proofs.Tryz.results70]); rfl) ?_; refine (embV_nil hE (by simp) ?_).s; clear hE ; simp_all [oneA, ren, renL, vahead, eV])
end Go.AM
/- Values: and, or. -/
namespace Go.AM
open Go Go.RowKit
open Go.Proofs.YtoecmmpjndcolaaGreatDoor (vcheck vboth logicM)
attribute [local irreducible] AWP retA
set_option maxRecDepth 100000 in
set_option maxHeartbeats 8000000 in
theorem logic_con (G : List (Nat × List Value)) (a b : V) (d : Int) : Con Go.Proofs.Tryz.prog G 60 [.agg (eV a), .agg (eV b), .r (.int .i64 d)] [] 0 (Is (pairA (logicM a.k a.n a.s b.k b.n b.s d)) [] 0) No := by
  refine con_of_awp Go.Proofs.Tryz.func60 rfl (by kernel_rfl) (of_decide_eq_true (by kernel_rfl)) ?_; intro E hG hE; subst hG; simp only [ent]
  have nc := null_con E.G a b
  simp only [eV] at nc
  (repeat' (first | refine awp_seq ?_ | refine awp_block ?_ | refine awp_skip ?_ | refine awp_exit ?_ | ((first | refine rR (fun K kp hK hkp => ?_) | refine cR nc ?_ | refine iG ?_); simp (implicitDefEqProofs := false) (maxSteps := 2000000) (disch := omega) only [go_sem, eV]; (repeat' (first | (refine hK _ ?_; clear hK hkp kp K) | (with_reducible refine And.intro ?_ ?_) | omega))) | ((first | refine aG (fun h => ?_) (fun h => ?_) | refine aD (fun h => ?_) (fun h => ?_) | refine aX (fun h => ?_) (fun h => ?_)) <;> simp only [h]) | refine awp_cond_t rfl ?_ | refine awp_cond_f rfl ?_ | ((refine awp_cond rfl (fun h => ?_) (fun h => ?_) <;> try simp only [ifs] at h) <;> (try (exfalso; omega))) | refine awp_ret ?_))
  refine awp_loop (fun k : Nat => ⟨[(15, .r (.int .i64 k)), (14, .agg [.r (.int .i64 a.k), .r (.int .i64 a.n), .r (.string a.s), .r (.int .i64 b.k), .r (.int .i64 b.n), .r (.string b.s)]), (6, .p 2 0 0), (4, .p 1 0 0), (3, .p 0 0 0), (2, .r (.int .i64 d))], [(2, .box 26 [.r (.int .i64 0), .r (.int .i64 0), .r (.string ⟨#[]⟩)]), (1, .box 26 (eV b)), (0, .box 26 (eV a))], 3⟩)
    (fun k => k ≤ 2 ∧ (0 < k → (a.k = 1 ∨ a.k = 0)) ∧ (1 < k → (b.k = 1 ∨ b.k = 0))) (fun k => 2 - k) 0 ?_ ?_ ?_
  · simp
  · (refine emb [0, 1, 2] ?_ ?_ rfl ?_ ?_ ?_ ?_ <;> simp [okM, okO, lk, ren, renL, renNd, by_, hE, eV] <;> (try omega))
  rintro k ⟨hk, h1, h2⟩
  obtain rfl | rfl | rfl : k = 0 ∨ k = 1 ∨ k = 2 := by omega
  · by_cases g : a.k = 1 ∨ a.k = 0
    · obtain g | g := g
      all_goals
        (repeat' (first | refine awp_seq ?_ | refine awp_block ?_ | refine awp_skip ?_ | refine awp_exit ?_ | ((first | refine rR (fun K kp hK hkp => ?_) | refine iG ?_); simp (implicitDefEqProofs := false) (maxSteps := 2000000) (disch := omega) only [go_sem, eV, g]; (repeat' (first | (refine hK _ ?_; clear hK hkp kp K) | (with_reducible refine And.intro ?_ ?_) | omega))) | ((first | refine aG (fun h => ?_) (fun h => ?_) | refine aD (fun h => ?_) (fun h => ?_) | refine aX (fun h => ?_) (fun h => ?_)) <;> simp only [h]) | refine awp_cond_t rfl ?_ | refine awp_cond_f rfl ?_ | ((refine awp_cond rfl (fun h => ?_) (fun h => ?_) <;> try simp only [ifs] at h) <;> (try (exfalso; omega))) | refine awp_ret ?_))
        ((first | (refine nextB (1) ?_ ?_ ?_) | (refine nextA (1) ?_ ?_ ?_)); rotate_left; (· (try dsimp only); (first | omega | (simp only [List.length_drop, List.length_cons, List.length_append]; omega) | (simp; done) | (simp; omega))); (· (refine emb [0, 1, 2] ?_ ?_ rfl ?_ ?_ ?_ ?_ <;> simp [okM, okO, lk, ren, renL, renNd, by_, hE, eV] <;> (try omega))))
        simp [g]
    · have g1 : (a.k != 1) = true := by simp; omega
      have g2 : (a.k != 0) = true := by simp; omega
      have hL : logicM a.k a.n a.s b.k b.n b.s d = ((0, 0, ⟨#[]⟩), 4) := by rw [logicM, if_pos (.inl (by omega))]
      rw [hL]
      (repeat' (first | refine awp_seq ?_ | refine awp_block ?_ | refine awp_skip ?_ | refine awp_exit ?_ | ((first | refine rR (fun K kp hK hkp => ?_) | refine iG ?_); simp (implicitDefEqProofs := false) (maxSteps := 2000000) (disch := omega) only [go_sem, eV, g1, g2]; (repeat' (first | (refine hK _ ?_; clear hK hkp kp K) | (with_reducible refine And.intro ?_ ?_) | omega))) | ((first | refine aG (fun h => ?_) (fun h => ?_) | refine aD (fun h => ?_) (fun h => ?_) | refine aX (fun h => ?_) (fun h => ?_)) <;> simp only [h]) | refine awp_cond_t rfl ?_ | refine awp_cond_f rfl ?_ | ((refine awp_cond rfl (fun h => ?_) (fun h => ?_) <;> try simp only [ifs] at h) <;> (try (exfalso; omega))) | refine awp_ret ?_))
      (refine retA_is (by (simp (implicitDefEqProofs := false) (maxSteps := 2000000) (disch := omega) only [go_sem, Go.Proofs.Tryz.results60, pairA, eV]); rfl) ?_; refine eN hE ?_; simp [oneA, ren, renL, pairA, eV])
  · by_cases g : b.k = 1 ∨ b.k = 0
    · have h1' := h1 (by omega)
      obtain g | g := g
      all_goals
        (repeat' (first | refine awp_seq ?_ | refine awp_block ?_ | refine awp_skip ?_ | refine awp_exit ?_ | ((first | refine rR (fun K kp hK hkp => ?_) | refine iG ?_); simp (implicitDefEqProofs := false) (maxSteps := 2000000) (disch := omega) only [go_sem, eV, g]; (repeat' (first | (refine hK _ ?_; clear hK hkp kp K) | (with_reducible refine And.intro ?_ ?_) | omega))) | ((first | refine aG (fun h => ?_) (fun h => ?_) | refine aD (fun h => ?_) (fun h => ?_) | refine aX (fun h => ?_) (fun h => ?_)) <;> simp only [h]) | refine awp_cond_t rfl ?_ | refine awp_cond_f rfl ?_ | ((refine awp_cond rfl (fun h => ?_) (fun h => ?_) <;> try simp only [ifs] at h) <;> (try (exfalso; omega))) | refine awp_ret ?_))
        ((first | (refine nextB (2) ?_ ?_ ?_) | (refine nextA (2) ?_ ?_ ?_)); rotate_left; (· (try dsimp only); (first | omega | (simp only [List.length_drop, List.length_cons, List.length_append]; omega) | (simp; done) | (simp; omega))); (· (refine emb [0, 1, 2] ?_ ?_ rfl ?_ ?_ ?_ ?_ <;> simp [okM, okO, lk, ren, renL, renNd, by_, hE, eV] <;> (try omega))))
        simp [g, h1']
    · have g1 : (b.k != 1) = true := by simp; omega
      have g2 : (b.k != 0) = true := by simp; omega
      have hL : logicM a.k a.n a.s b.k b.n b.s d = ((0, 0, ⟨#[]⟩), 4) := by rw [logicM, if_pos (.inr (by omega))]
      rw [hL]
      (repeat' (first | refine awp_seq ?_ | refine awp_block ?_ | refine awp_skip ?_ | refine awp_exit ?_ | ((first | refine rR (fun K kp hK hkp => ?_) | refine iG ?_); simp (implicitDefEqProofs := false) (maxSteps := 2000000) (disch := omega) only [go_sem, eV, g1, g2]; (repeat' (first | (refine hK _ ?_; clear hK hkp kp K) | (with_reducible refine And.intro ?_ ?_) | omega))) | ((first | refine aG (fun h => ?_) (fun h => ?_) | refine aD (fun h => ?_) (fun h => ?_) | refine aX (fun h => ?_) (fun h => ?_)) <;> simp only [h]) | refine awp_cond_t rfl ?_ | refine awp_cond_f rfl ?_ | ((refine awp_cond rfl (fun h => ?_) (fun h => ?_) <;> try simp only [ifs] at h) <;> (try (exfalso; omega))) | refine awp_ret ?_))
      (refine retA_is (by (simp (implicitDefEqProofs := false) (maxSteps := 2000000) (disch := omega) only [go_sem, Go.Proofs.Tryz.results60, pairA, eV]); rfl) ?_; refine eN hE ?_; simp [oneA, ren, renL, pairA, eV])
  have ga := h1 (by omega)
  have gb := h2 (by omega)
  (repeat' (first | refine awp_seq ?_ | refine awp_block ?_ | refine awp_skip ?_ | refine awp_exit ?_ | ((first | refine rR (fun K kp hK hkp => ?_) | refine iG ?_); simp (implicitDefEqProofs := false) (maxSteps := 2000000) (disch := omega) only [go_sem, eV]; (repeat' (first | (refine hK _ ?_; clear hK hkp kp K) | (with_reducible refine And.intro ?_ ?_) | omega))) | ((first | refine aG (fun h => ?_) (fun h => ?_) | refine aD (fun h => ?_) (fun h => ?_) | refine aX (fun h => ?_) (fun h => ?_)) <;> simp only [h]) | refine awp_cond_t rfl ?_ | refine awp_cond_f rfl ?_ | ((refine awp_cond rfl (fun h => ?_) (fun h => ?_) <;> try simp only [ifs] at h) <;> (try (exfalso; omega))) | refine awp_ret ?_))
  refine awp_loop (fun k : Nat => ⟨[(31, .r (.int .i64 k)), (30, .agg [.r (.int .i64 a.k), .r (.int .i64 a.n), .r (.string a.s), .r (.int .i64 b.k), .r (.int .i64 b.n), .r (.string b.s)]), (6, .p 2 0 0), (4, .p 1 0 0), (3, .p 0 0 0), (2, .r (.int .i64 d))], [(2, .box 26 [.r (.int .i64 0), .r (.int .i64 0), .r (.string ⟨#[]⟩)]), (1, .box 26 (eV b)), (0, .box 26 (eV a))], 3⟩)
    (fun k => k ≤ 2 ∧ (0 < k → ¬ (a.k = 1 ∧ a.n = d)) ∧ (1 < k → ¬ (b.k = 1 ∧ b.n = d))) (fun k => 2 - k) 0 ?_ ?_ ?_
  · simp
  · (refine emb [0, 1, 2] ?_ ?_ rfl ?_ ?_ ?_ ?_ <;> simp [okM, okO, lk, ren, renL, renNd, by_, hE, eV] <;> (try omega))
  clear hk h1 h2
  rintro k ⟨hk, h1, h2⟩
  have n4 : ¬ ((a.k ≠ 1 ∧ a.k ≠ 0) ∨ (b.k ≠ 1 ∧ b.k ≠ 0)) := by omega
  obtain rfl | rfl | rfl : k = 0 ∨ k = 1 ∨ k = 2 := by omega
  · by_cases g : a.k = 1 ∧ a.n = d
    · have hL : logicM a.k a.n a.s b.k b.n b.s d = ((a.k, a.n, a.s), 0) := by rw [logicM, if_neg n4, if_pos g]
      rw [hL]
      obtain ⟨g1, g2⟩ := g
      (repeat' (first | refine awp_seq ?_ | refine awp_block ?_ | refine awp_skip ?_ | refine awp_exit ?_ | ((first | refine rR (fun K kp hK hkp => ?_) | refine iG ?_); simp (implicitDefEqProofs := false) (maxSteps := 2000000) (disch := omega) only [go_sem, eV, g1, g2, beq_self_eq_true]; (repeat' (first | (refine hK _ ?_; clear hK hkp kp K) | (with_reducible refine And.intro ?_ ?_) | omega))) | ((first | refine aG (fun h => ?_) (fun h => ?_) | refine aD (fun h => ?_) (fun h => ?_) | refine aX (fun h => ?_) (fun h => ?_)) <;> simp only [h]) | refine awp_cond_t rfl ?_ | refine awp_cond_f rfl ?_ | ((refine awp_cond rfl (fun h => ?_) (fun h => ?_) <;> try simp only [ifs] at h) <;> (try (exfalso; omega))) | refine awp_ret ?_))
      (refine retA_is (by (simp (implicitDefEqProofs := false) (maxSteps := 2000000) (disch := omega) only [go_sem, Go.Proofs.Tryz.results60, pairA, eV, g1, g2]); rfl) ?_; refine eN hE ?_; simp [oneA, ren, renL, pairA, eV, g1, g2])
    · by_cases g1 : a.k = 1
      · have g2 : (a.n == d) = false := by simp; exact fun h => g ⟨g1, h⟩
        (repeat' (first | refine awp_seq ?_ | refine awp_block ?_ | refine awp_skip ?_ | refine awp_exit ?_ | ((first | refine rR (fun K kp hK hkp => ?_) | refine iG ?_); simp (implicitDefEqProofs := false) (maxSteps := 2000000) (disch := omega) only [go_sem, eV, g1, g2]; (repeat' (first | (refine hK _ ?_; clear hK hkp kp K) | (with_reducible refine And.intro ?_ ?_) | omega))) | ((first | refine aG (fun h => ?_) (fun h => ?_) | refine aD (fun h => ?_) (fun h => ?_) | refine aX (fun h => ?_) (fun h => ?_)) <;> simp only [h]) | refine awp_cond_t rfl ?_ | refine awp_cond_f rfl ?_ | ((refine awp_cond rfl (fun h => ?_) (fun h => ?_) <;> try simp only [ifs] at h) <;> (try (exfalso; omega))) | refine awp_ret ?_))
        ((first | (refine nextB (1) ?_ ?_ ?_) | (refine nextA (1) ?_ ?_ ?_)); rotate_left; (· (try dsimp only); (first | omega | (simp only [List.length_drop, List.length_cons, List.length_append]; omega) | (simp; done) | (simp; omega))); (· (refine emb [0, 1, 2] ?_ ?_ rfl ?_ ?_ ?_ ?_ <;> simp [okM, okO, lk, ren, renL, renNd, by_, hE, eV, g1] <;> (try omega))))
        exact ⟨by omega, fun _ => g, fun h => by omega⟩
      · have g2 : (a.k == 1) = false := by simpa using g1
        (repeat' (first | refine awp_seq ?_ | refine awp_block ?_ | refine awp_skip ?_ | refine awp_exit ?_ | ((first | refine rR (fun K kp hK hkp => ?_) | refine iG ?_); simp (implicitDefEqProofs := false) (maxSteps := 2000000) (disch := omega) only [go_sem, eV, g2]; (repeat' (first | (refine hK _ ?_; clear hK hkp kp K) | (with_reducible refine And.intro ?_ ?_) | omega))) | ((first | refine aG (fun h => ?_) (fun h => ?_) | refine aD (fun h => ?_) (fun h => ?_) | refine aX (fun h => ?_) (fun h => ?_)) <;> simp only [h]) | refine awp_cond_t rfl ?_ | refine awp_cond_f rfl ?_ | ((refine awp_cond rfl (fun h => ?_) (fun h => ?_) <;> try simp only [ifs] at h) <;> (try (exfalso; omega))) | refine awp_ret ?_))
        ((first | (refine nextB (1) ?_ ?_ ?_) | (refine nextA (1) ?_ ?_ ?_)); rotate_left; (· (try dsimp only); (first | omega | (simp only [List.length_drop, List.length_cons, List.length_append]; omega) | (simp; done) | (simp; omega))); (· (refine emb [0, 1, 2] ?_ ?_ rfl ?_ ?_ ?_ ?_ <;> simp [okM, okO, lk, ren, renL, renNd, by_, hE, eV] <;> (try omega))))
        exact ⟨by omega, fun _ => g, fun h => by omega⟩
  · have gA := h1 (by omega)
    by_cases g : b.k = 1 ∧ b.n = d
    · have hL : logicM a.k a.n a.s b.k b.n b.s d = ((b.k, b.n, b.s), 0) := by rw [logicM, if_neg n4, if_neg gA, if_pos g]
      rw [hL]
      obtain ⟨g1, g2⟩ := g
      (repeat' (first | refine awp_seq ?_ | refine awp_block ?_ | refine awp_skip ?_ | refine awp_exit ?_ | ((first | refine rR (fun K kp hK hkp => ?_) | refine iG ?_); simp (implicitDefEqProofs := false) (maxSteps := 2000000) (disch := omega) only [go_sem, eV, g1, g2, beq_self_eq_true]; (repeat' (first | (refine hK _ ?_; clear hK hkp kp K) | (with_reducible refine And.intro ?_ ?_) | omega))) | ((first | refine aG (fun h => ?_) (fun h => ?_) | refine aD (fun h => ?_) (fun h => ?_) | refine aX (fun h => ?_) (fun h => ?_)) <;> simp only [h]) | refine awp_cond_t rfl ?_ | refine awp_cond_f rfl ?_ | ((refine awp_cond rfl (fun h => ?_) (fun h => ?_) <;> try simp only [ifs] at h) <;> (try (exfalso; omega))) | refine awp_ret ?_))
      (refine retA_is (by (simp (implicitDefEqProofs := false) (maxSteps := 2000000) (disch := omega) only [go_sem, Go.Proofs.Tryz.results60, pairA, eV, g1, g2]); rfl) ?_; refine eN hE ?_; simp [oneA, ren, renL, pairA, eV, g1, g2])
    · by_cases g1 : b.k = 1
      · have g2 : (b.n == d) = false := by simp; exact fun h => g ⟨g1, h⟩
        (repeat' (first | refine awp_seq ?_ | refine awp_block ?_ | refine awp_skip ?_ | refine awp_exit ?_ | ((first | refine rR (fun K kp hK hkp => ?_) | refine iG ?_); simp (implicitDefEqProofs := false) (maxSteps := 2000000) (disch := omega) only [go_sem, eV, g1, g2]; (repeat' (first | (refine hK _ ?_; clear hK hkp kp K) | (with_reducible refine And.intro ?_ ?_) | omega))) | ((first | refine aG (fun h => ?_) (fun h => ?_) | refine aD (fun h => ?_) (fun h => ?_) | refine aX (fun h => ?_) (fun h => ?_)) <;> simp only [h]) | refine awp_cond_t rfl ?_ | refine awp_cond_f rfl ?_ | ((refine awp_cond rfl (fun h => ?_) (fun h => ?_) <;> try simp only [ifs] at h) <;> (try (exfalso; omega))) | refine awp_ret ?_))
        ((first | (refine nextB (2) ?_ ?_ ?_) | (refine nextA (2) ?_ ?_ ?_)); rotate_left; (· (try dsimp only); (first | omega | (simp only [List.length_drop, List.length_cons, List.length_append]; omega) | (simp; done) | (simp; omega))); (· (refine emb [0, 1, 2] ?_ ?_ rfl ?_ ?_ ?_ ?_ <;> simp [okM, okO, lk, ren, renL, renNd, by_, hE, eV, g1] <;> (try omega))))
        exact ⟨by omega, fun _ => gA, fun _ => g⟩
      · have g2 : (b.k == 1) = false := by simpa using g1
        (repeat' (first | refine awp_seq ?_ | refine awp_block ?_ | refine awp_skip ?_ | refine awp_exit ?_ | ((first | refine rR (fun K kp hK hkp => ?_) | refine iG ?_); simp (implicitDefEqProofs := false) (maxSteps := 2000000) (disch := omega) only [go_sem, eV, g2]; (repeat' (first | (refine hK _ ?_; clear hK hkp kp K) | (with_reducible refine And.intro ?_ ?_) | omega))) | ((first | refine aG (fun h => ?_) (fun h => ?_) | refine aD (fun h => ?_) (fun h => ?_) | refine aX (fun h => ?_) (fun h => ?_)) <;> simp only [h]) | refine awp_cond_t rfl ?_ | refine awp_cond_f rfl ?_ | ((refine awp_cond rfl (fun h => ?_) (fun h => ?_) <;> try simp only [ifs] at h) <;> (try (exfalso; omega))) | refine awp_ret ?_))
        ((first | (refine nextB (2) ?_ ?_ ?_) | (refine nextA (2) ?_ ?_ ?_)); rotate_left; (· (try dsimp only); (first | omega | (simp only [List.length_drop, List.length_cons, List.length_append]; omega) | (simp; done) | (simp; omega))); (· (refine emb [0, 1, 2] ?_ ?_ rfl ?_ ?_ ?_ ?_ <;> simp [okM, okO, lk, ren, renL, renNd, by_, hE, eV] <;> (try omega))))
        exact ⟨by omega, fun _ => gA, fun _ => g⟩
  have gA := h1 (by omega)
  have gB := h2 (by omega)
  by_cases g : a.k = 0 ∨ b.k = 0
  · have hL : logicM a.k a.n a.s b.k b.n b.s d = ((0, 0, ⟨#[]⟩), 0) := by rw [logicM, if_neg n4, if_neg gA, if_neg gB, if_pos g]
    have g1 : (a.k == 0 || b.k == 0) = true := by simpa using g
    rw [hL]
    rw [g1] at nc
    (repeat' (first | refine awp_seq ?_ | refine awp_block ?_ | refine awp_skip ?_ | refine awp_exit ?_ | ((first | refine rR (fun K kp hK hkp => ?_) | refine cR nc ?_ | refine iG ?_); simp (implicitDefEqProofs := false) (maxSteps := 2000000) (disch := omega) only [go_sem, eV]; (repeat' (first | (refine hK _ ?_; clear hK hkp kp K) | (with_reducible refine And.intro ?_ ?_) | omega))) | ((first | refine aG (fun h => ?_) (fun h => ?_) | refine aD (fun h => ?_) (fun h => ?_) | refine aX (fun h => ?_) (fun h => ?_)) <;> simp only [h]) | refine awp_cond_t rfl ?_ | refine awp_cond_f rfl ?_ | ((refine awp_cond rfl (fun h => ?_) (fun h => ?_) <;> try simp only [ifs] at h) <;> (try (exfalso; omega))) | refine awp_ret ?_))
    (refine retA_is (by (simp (implicitDefEqProofs := false) (maxSteps := 2000000) (disch := omega) only [go_sem, Go.Proofs.Tryz.results60, pairA, eV]); rfl) ?_; refine eN hE ?_; simp [oneA, ren, renL, pairA, eV])
  · have hL : logicM a.k a.n a.s b.k b.n b.s d = ((a.k, a.n, a.s), 0) := by rw [logicM, if_neg n4, if_neg gA, if_neg gB, if_neg g]
    have g1 : (a.k == 0 || b.k == 0) = false := by simpa using g
    rw [hL]
    rw [g1] at nc
    (repeat' (first | refine awp_seq ?_ | refine awp_block ?_ | refine awp_skip ?_ | refine awp_exit ?_ | ((first | refine rR (fun K kp hK hkp => ?_) | refine cR nc ?_ | refine iG ?_); simp (implicitDefEqProofs := false) (maxSteps := 2000000) (disch := omega) only [go_sem, eV]; (repeat' (first | (refine hK _ ?_; clear hK hkp kp K) | (with_reducible refine And.intro ?_ ?_) | omega))) | ((first | refine aG (fun h => ?_) (fun h => ?_) | refine aD (fun h => ?_) (fun h => ?_) | refine aX (fun h => ?_) (fun h => ?_)) <;> simp only [h]) | refine awp_cond_t rfl ?_ | refine awp_cond_f rfl ?_ | ((refine awp_cond rfl (fun h => ?_) (fun h => ?_) <;> try simp only [ifs] at h) <;> (try (exfalso; omega))) | refine awp_ret ?_))
    (refine retA_is (by (simp (implicitDefEqProofs := false) (maxSteps := 2000000) (disch := omega) only [go_sem, Go.Proofs.Tryz.results60, pairA, eV]); rfl) ?_; refine eN hE ?_; simp [oneA, ren, renL, pairA, eV])
end Go.AM
/- Values: what fits, and what is reckoned. -/
namespace Go.Proofs.YtoecmmpjndcolaaGreatDoor
open Go.RowKit
theorem leaves_any (kind a b : Int) (w : World) (ha : -9223372036854775808 ≤ a) (ha' : a ≤ 9223372036854775807) (hb : -9223372036854775808 ≤ b) (hb' : b ≤ 9223372036854775807) :
    Calls Tryz.prog 71 #[.int .i64 kind, .int .i64 a, .int .i64 b] w fun e w' => e = .returned (.bool (!fitsI (opV kind a b))) ∧ w = w' := by
  by_cases h9 : kind = 9
  · subst h9
    go_enter Tryz.func71, Tryz.ntmps71
    go_wp2
    all_goals
      go_ret
      go_light
      refine ⟨congrArg (fun x => Ending.returned (.bool x)) (bool_of_iff ?_), rfl⟩
      simp [opV, ← Bool.not_eq_true, fitsI_iff]
      try omega
  by_cases h8 : kind = 8
  · subst h8
    go_enter Tryz.func71, Tryz.ntmps71
    go_wp2
    all_goals
      go_ret
      go_light
      refine ⟨congrArg (fun x => Ending.returned (.bool x)) (bool_of_iff ?_), rfl⟩
      simp [opV, ← Bool.not_eq_true, fitsI_iff]
      try omega
  have e : opV kind a b = a * b := by simp [opV, h8, h9]
  by_cases h0 : a = 0
  · subst h0
    go_enter Tryz.func71, Tryz.ntmps71
    go_wp2
    all_goals
      go_ret
      go_light
      refine ⟨?_, rfl⟩
      simp [fitsI, e]
  by_cases h1 : b = 0
  · subst h1
    go_enter Tryz.func71, Tryz.ntmps71
    go_wp2
    all_goals
      go_ret
      go_light
      refine ⟨?_, rfl⟩
      simp [fitsI, e]
  have e8 : (kind == 8) = false := by simp [h8]
  have e9 : (kind == 9) = false := by simp [h9]
  have f0 : (a == 0) = false := by simp [h0]
  have f1 : (b == 0) = false := by simp [h1]
  have H := Lib.hid e; clear e
  go_enter Tryz.func71, Tryz.ntmps71
  go_wp2
  all_goals
      go_ret
      go_light
      refine ⟨congrArg (fun x => Ending.returned (.bool x)) ?_, rfl⟩
      rw [H.out]
      clear H
      simp only [decide_eq_true_eq, beq_iff_eq, beq_eq_false_iff_ne, decide_eq_decide, ne_eq] at *
      first
        | (subst_vars; exact q_one _ (by omega) (by omega))
        | (subst_vars; exact q_one' _ (by omega) (by omega))
        | exact q_pos a b (by omega) (by omega)
        | exact q_neg a b (by omega) (by omega)
        | exact q_mix a b (by omega) (by omega)
        | exact q_mix' a b (by omega) (by omega)
theorem arith_any (kind a b : Int) (w : World) (ha : -9223372036854775808 ≤ a) (ha' : a ≤ 9223372036854775807) (hb : -9223372036854775808 ≤ b) (hb' : b ≤ 9223372036854775807) :
    Calls Tryz.prog 63 #[.int .i64 kind, .int .i64 a, .int .i64 b] w fun e w' => e = .returned (.tuple #[.int .i64 (wrap64 (opV kind a b)), .bool (fitsI (opV kind a b))]) ∧ w = w' := by
  by_cases h8 : kind = 8
  · subst h8
    go_enter Tryz.func63, Tryz.ntmps63
    go_wp2
    all_goals
      go_ret2
      go_light
      refine ⟨congrArg (fun x => Ending.returned (.tuple #[.int .i64 (wrap64 (a + b)), .bool x])) (bool_of_iff ?_), rfl⟩
      simp [opV, fitsI_iff]
      unfold wrap64
      omega
  by_cases h9 : kind = 9
  · subst h9
    go_enter Tryz.func63, Tryz.ntmps63
    go_wp2
    all_goals
      go_ret2
      go_light
      refine ⟨congrArg (fun x => Ending.returned (.tuple #[.int .i64 (wrap64 (a - b)), .bool x])) (bool_of_iff ?_), rfl⟩
      simp [opV, fitsI_iff]
      unfold wrap64
      omega
  have e : opV kind a b = a * b := by simp [opV, h8, h9]
  have e8 : (kind == 8) = false := by simp [h8]
  have e9 : (kind == 9) = false := by simp [h9]
  have H := Lib.hid e; clear e
  by_cases h0 : a = 0
  · subst h0
    go_enter Tryz.func63, Tryz.ntmps63
    go_wp2
    all_goals
      go_ret2
      go_light
      refine ⟨?_, rfl⟩
      simp [fitsI, H.out, IntWalk.wrap64_in]
  have M := mul_ok a b h0 ha ha' hb hb'
  have M' := Lib.hid M; clear M
  by_cases hm : a = -1
  · subst hm
    have e1 : -1 * b = -b := by omega
    go_enter Tryz.func63, Tryz.ntmps63
    go_wp2
    all_goals
      go_ret2
      go_light
      refine ⟨?_, rfl⟩
      rw [H.out]
      have M := M'.out
      rw [e1] at M ⊢
      refine congrArg (fun x => Ending.returned (.tuple #[.int .i64 (wrap64 (-b)), .bool x])) (bool_of_iff ?_)
      rw [← M]
      simp_all
  · go_enter Tryz.func63, Tryz.ntmps63
    go_wp2
    all_goals
      go_ret2
      go_light
      refine ⟨?_, rfl⟩
      rw [H.out]
      refine congrArg (fun x => Ending.returned (.tuple #[.int .i64 (wrap64 (a * b)), .bool x])) (bool_of_iff ?_)
      rw [← M'.out]
      simp_all
end Go.Proofs.YtoecmmpjndcolaaGreatDoor
/- Values: what is reckoned, as contracts. -/
namespace Go.AM
open Go Go.RowKit
open Go.Proofs.YtoecmmpjndcolaaGreatDoor (vcheck vboth fitsI opV)
/-- A contract of the old form: what is given back holds no address. -/
theorem con_of_callsR {P : Program} {f : Nat} {G : List (Nat × List Value)} {xs : List AV} {v : Value} {x : AV} (hok : okFn P f = true) (hx : ∀ (w : World) (z : Zone), Rep w z [] x v)
    (h : ∀ (w : World) (z : Zone) (vs : List Value), (∀ t b, z t b → b < w.heap.size) → Reps w z [] xs vs → Globs G w → Calls P f vs.toArray w (fun e w' => e = .returned v ∧ Go.RowKit.Below w.heap.size w w')) : Con P G f xs [] 0 (Is x [] 0) No := by
  refine ⟨hok, fun w th z own vs ho hm hr => ?_⟩
  have hth : th = [] := List.length_eq_zero_iff.1 hm.len
  subst hth
  refine (h w z vs hm.zlt hr (fun g cs hg => ⟨hm.zlt _ _ (hm.globs g cs hg).1, (hm.globs g cs hg).2⟩)).mono ?_
  rintro e w' ⟨rfl, hb⟩
  refine ⟨v, x, [], 0, [], z, .inl ⟨rfl, rfl, rfl, rfl⟩, ?_, hx _ _⟩
  refine ⟨rfl, fun i nd hi => by simp [lk] at hi, fun i j x y L M hi => by simp [lk] at hi, fun t b hz => Nat.lt_of_lt_of_le (hm.zlt t b hz) hb.size, hb.size, fun b hlt _ => hb.block b hlt, fun t b h => h, fun b h => .inl h, fun b h => h, ?_, fun i L hi => by simp at hi, ⟨hb.os, hb.tape, hb.output⟩⟩
  intro g cs hg
  obtain ⟨h1, h2⟩ := hm.globs g cs hg
  exact ⟨h1, fun j u hu => (cell_heap (hb.block g (hm.zlt _ _ h1)) j).trans (h2 j u hu)⟩
attribute [local irreducible] AWP retA
theorem three_inv {w : World} {z : Zone} {a b c : Value} {vs : List Value} (hr : Reps w z [] [.r a, .r b, .r c] vs) : vs = [a, b, c] := by
  obtain ⟨v1, r1, rfl, h1, h2⟩ := hr.head
  obtain ⟨v2, r2, rfl, h3, h4⟩ := h2.head
  obtain ⟨v3, r3, rfl, h5, h6⟩ := h4.head
  obtain rfl := h1.r_inv
  obtain rfl := h3.r_inv
  obtain rfl := h5.r_inv
  obtain rfl := h6.of_nil
  rfl
theorem leaves_con (G : List (Nat × List Value)) (kind a b : Int) (ha : inI a) (hb : inI b) : Con Go.Proofs.Tryz.prog G 71 [.r (.int .i64 kind), .r (.int .i64 a), .r (.int .i64 b)] [] 0 (Is (.r (.bool (!fitsI (opV kind a b)))) [] 0) No :=
  con_of_calls (by kernel_rfl) (fun w z vs hz hr hG => by
    rw [three_inv hr]
    refine (Go.Proofs.YtoecmmpjndcolaaGreatDoor.leaves_any kind a b w ha.1 ha.2 hb.1 hb.2).mono ?_
    rintro e w' ⟨rfl, rfl⟩
    exact ⟨rfl, Below.refl _ _⟩)
theorem arith_con (G : List (Nat × List Value)) (kind a b : Int) (ha : inI a) (hb : inI b) : Con Go.Proofs.Tryz.prog G 63 [.r (.int .i64 kind), .r (.int .i64 a), .r (.int .i64 b)] [] 0 (Is (.tup [.r (.int .i64 (wrap64 (opV kind a b))), .r (.bool (fitsI (opV kind a b)))]) [] 0) No :=
  con_of_callsR (v := .tuple #[.int .i64 (wrap64 (opV kind a b)), .bool (fitsI (opV kind a b))]) (by kernel_rfl) (fun w z => Rep.tup (w := w) (z := z) [] _ [.int .i64 (wrap64 (opV kind a b)), .bool (fitsI (opV kind a b))] rfl (fun i x y h1 h2 => by
    match i with
    | 0 => simp at h1 h2; subst h1 h2; exact .r _ _
    | 1 => simp at h1 h2; subst h1 h2; exact .r _ _
    | n + 2 => simp at h1)) (fun w z vs hz hr hG => by
    rw [three_inv hr]
    refine (Go.Proofs.YtoecmmpjndcolaaGreatDoor.arith_any kind a b w ha.1 ha.2 hb.1 hb.2).mono ?_
    rintro e w' ⟨rfl, rfl⟩
    exact ⟨rfl, Below.refl _ _⟩)
end Go.AM
/- Values: value.Two, all but numbers. -/
namespace Go.AM
open Go Go.RowKit
open Go.Proofs.YtoecmmpjndcolaaGreatDoor (vcheck vboth fitsI opV twoM logicM eqlM ariM nov)
attribute [local irreducible] AWP retA
set_option maxRecDepth 100000 in
set_option maxHeartbeats 4000000 in
theorem two_bad (G : List (Nat × List Value)) (kind : Int) (a b : V) (ha : okS a.s) (hb : okS b.s) (hv : vboth a.k a.n a.s b.k b.n b.s ≠ 0) : Con Go.Proofs.Tryz.prog G 34 [.r (.int .i64 kind), .agg (eV a), .agg (eV b)] [] 0 (Is (pairA (twoM kind a.k a.n a.s b.k b.n b.s)) [] 0) No := by
  refine con_of_awp Go.Proofs.Tryz.func34 rfl (by kernel_rfl) (of_decide_eq_true (by kernel_rfl)) ?_; intro E hG hE; subst hG; simp only [ent]
  have bc := both_con E.G a b ha hb
  simp only [eV] at bc
  have b0 : (vboth a.k a.n a.s b.k b.n b.s != 0) = true := by simpa using hv
  (repeat' (first | refine awp_seq ?_ | refine awp_block ?_ | refine awp_skip ?_ | refine awp_exit ?_ | ((first | refine rR (fun K kp hK hkp => ?_) | refine cR bc ?_ | refine iG ?_); simp (implicitDefEqProofs := false) (maxSteps := 2000000) (disch := omega) only [go_sem, eV, b0]; (repeat' (first | (refine hK _ ?_; clear hK hkp kp K) | (with_reducible refine And.intro ?_ ?_) | omega))) | ((first | refine aG (fun h => ?_) (fun h => ?_) | refine aD (fun h => ?_) (fun h => ?_) | refine aX (fun h => ?_) (fun h => ?_)) <;> simp only [h]) | refine awp_cond_t rfl ?_ | refine awp_cond_f rfl ?_ | ((refine awp_cond rfl (fun h => ?_) (fun h => ?_) <;> try simp only [ifs] at h) <;> (try (exfalso; omega))) | refine awp_ret ?_))
  (refine retA_is (by (simp (implicitDefEqProofs := false) (maxSteps := 2000000) (disch := omega) only [go_sem, Go.Proofs.Tryz.results34, twoM, pairA, eV, nov, hv]); rfl) ?_; refine eN hE ?_; simp [oneA, ren, renL, twoM, pairA, eV, nov, hv])
set_option maxRecDepth 100000 in
set_option maxHeartbeats 4000000 in
theorem two_log (G : List (Nat × List Value)) (kind : Int) (a b : V) (ha : okS a.s) (hb : okS b.s) (hv : vboth a.k a.n a.s b.k b.n b.s = 0) (hk : kind = 3 ∨ kind = 4) : Con Go.Proofs.Tryz.prog G 34 [.r (.int .i64 kind), .agg (eV a), .agg (eV b)] [] 0 (Is (pairA (twoM kind a.k a.n a.s b.k b.n b.s)) [] 0) No := by
  refine con_of_awp Go.Proofs.Tryz.func34 rfl (by kernel_rfl) (of_decide_eq_true (by kernel_rfl)) ?_; intro E hG hE; subst hG; simp only [ent]
  have bc := both_con E.G a b ha hb
  rw [hv] at bc
  obtain rfl | rfl := hk
  · have lc := logic_con E.G a b 0
    simp only [eV, pairA] at bc lc
    (repeat' (first | refine awp_seq ?_ | refine awp_block ?_ | refine awp_skip ?_ | refine awp_exit ?_ | ((first | refine rR (fun K kp hK hkp => ?_) | refine cR bc ?_ | refine cR lc ?_ | refine iG ?_); simp (implicitDefEqProofs := false) (maxSteps := 2000000) (disch := omega) only [go_sem, eV]; (repeat' (first | (refine hK _ ?_; clear hK hkp kp K) | (with_reducible refine And.intro ?_ ?_) | omega))) | ((first | refine aG (fun h => ?_) (fun h => ?_) | refine aD (fun h => ?_) (fun h => ?_) | refine aX (fun h => ?_) (fun h => ?_)) <;> simp only [h]) | refine awp_cond_t rfl ?_ | refine awp_cond_f rfl ?_ | ((refine awp_cond rfl (fun h => ?_) (fun h => ?_) <;> try simp only [ifs] at h) <;> (try (exfalso; omega))) | refine awp_ret ?_))
    (refine retA_is (by (simp (implicitDefEqProofs := false) (maxSteps := 2000000) (disch := omega) only [go_sem, Go.Proofs.Tryz.results34, twoM, pairA, eV, hv]); rfl) ?_; refine eN hE ?_; simp [oneA, ren, renL, twoM, pairA, eV, hv])
  · have lc := logic_con E.G a b 1
    simp only [eV, pairA] at bc lc
    (repeat' (first | refine awp_seq ?_ | refine awp_block ?_ | refine awp_skip ?_ | refine awp_exit ?_ | ((first | refine rR (fun K kp hK hkp => ?_) | refine cR bc ?_ | refine cR lc ?_ | refine iG ?_); simp (implicitDefEqProofs := false) (maxSteps := 2000000) (disch := omega) only [go_sem, eV]; (repeat' (first | (refine hK _ ?_; clear hK hkp kp K) | (with_reducible refine And.intro ?_ ?_) | omega))) | ((first | refine aG (fun h => ?_) (fun h => ?_) | refine aD (fun h => ?_) (fun h => ?_) | refine aX (fun h => ?_) (fun h => ?_)) <;> simp only [h]) | refine awp_cond_t rfl ?_ | refine awp_cond_f rfl ?_ | ((refine awp_cond rfl (fun h => ?_) (fun h => ?_) <;> try simp only [ifs] at h) <;> (try (exfalso; omega))) | refine awp_ret ?_))
    (refine retA_is (by (simp (implicitDefEqProofs := false) (maxSteps := 2000000) (disch := omega) only [go_sem, Go.Proofs.Tryz.results34, twoM, pairA, eV, hv]); rfl) ?_; refine eN hE ?_; simp [oneA, ren, renL, twoM, pairA, eV, hv])
set_option maxRecDepth 100000 in
set_option maxHeartbeats 4000000 in
theorem two_other (G : List (Nat × List Value)) (kind : Int) (a b : V) (ha : okS a.s) (hb : okS b.s) (hv : vboth a.k a.n a.s b.k b.n b.s = 0) (h3 : kind ≠ 3) (h4 : kind ≠ 4) (h6 : kind ≠ 6) (h7 : kind ≠ 7) (h8 : kind ≠ 8) (h9 : kind ≠ 9) (h10 : kind ≠ 10) : Con Go.Proofs.Tryz.prog G 34 [.r (.int .i64 kind), .agg (eV a), .agg (eV b)] [] 0 (Is (pairA (twoM kind a.k a.n a.s b.k b.n b.s)) [] 0) No := by
  refine con_of_awp Go.Proofs.Tryz.func34 rfl (by kernel_rfl) (of_decide_eq_true (by kernel_rfl)) ?_; intro E hG hE; subst hG; simp only [ent]
  have bc := both_con E.G a b ha hb
  rw [hv] at bc
  simp only [eV] at bc
  have e3 : (kind == 3) = false := by simpa using h3
  have e4 : (kind == 4) = false := by simpa using h4
  have e6 : (kind == 6) = false := by simpa using h6
  have e7 : (kind == 7) = false := by simpa using h7
  have e8 : (kind == 8) = false := by simpa using h8
  have e9 : (kind == 9) = false := by simpa using h9
  have e10 : (kind == 10) = false := by simpa using h10
  (repeat' (first | refine awp_seq ?_ | refine awp_block ?_ | refine awp_skip ?_ | refine awp_exit ?_ | ((first | refine rR (fun K kp hK hkp => ?_) | refine cR bc ?_ | refine iG ?_); simp (implicitDefEqProofs := false) (maxSteps := 2000000) (disch := omega) only [go_sem, eV, e3, e4, e6, e7, e8, e9, e10]; (repeat' (first | (refine hK _ ?_; clear hK hkp kp K) | (with_reducible refine And.intro ?_ ?_) | omega))) | ((first | refine aG (fun h => ?_) (fun h => ?_) | refine aD (fun h => ?_) (fun h => ?_) | refine aX (fun h => ?_) (fun h => ?_)) <;> simp only [h]) | refine awp_cond_t rfl ?_ | refine awp_cond_f rfl ?_ | ((refine awp_cond rfl (fun h => ?_) (fun h => ?_) <;> try simp only [ifs] at h) <;> (try (exfalso; omega))) | refine awp_ret ?_))
  (refine retA_is (by (simp (implicitDefEqProofs := false) (maxSteps := 2000000) (disch := omega) only [go_sem, Go.Proofs.Tryz.results34, twoM, pairA, eV, nov, hv, h3, h4, h6, h7, h8, h9, h10]); rfl) ?_; refine eN hE ?_; simp [oneA, ren, renL, twoM, pairA, eV, nov, hv, h3, h4, h6, h7, h8, h9, h10])
end Go.AM
/- Values: value.Two, equal and less. -/
namespace Go.AM
open Go Go.RowKit
open Go.Proofs.YtoecmmpjndcolaaGreatDoor (vcheck vboth fitsI opV twoM logicM eqlM ariM nov vcmp)
attribute [local irreducible] AWP retA
set_option maxRecDepth 100000 in
set_option maxHeartbeats 8000000 in
theorem two_eql (G : List (Nat × List Value)) (kind : Int) (a b : V) (ha : okS a.s) (hb : okS b.s) (hv : vboth a.k a.n a.s b.k b.n b.s = 0) (hk : kind = 6 ∨ kind = 7) : Con Go.Proofs.Tryz.prog G 34 [.r (.int .i64 kind), .agg (eV a), .agg (eV b)] [] 0 (Is (pairA (twoM kind a.k a.n a.s b.k b.n b.s)) [] 0) No := by
  refine con_of_awp Go.Proofs.Tryz.func34 rfl (by kernel_rfl) (of_decide_eq_true (by kernel_rfl)) ?_; intro E hG hE; subst hG; simp only [ent]
  have bc := both_con E.G a b ha hb
  have nc := null_con E.G a b
  have cc := compare_con E.G a b
  have hT : twoM kind a.k a.n a.s b.k b.n b.s = eqlM kind a.k a.n a.s b.k b.n b.s := by
    rw [twoM, if_pos hv, if_neg (by omega), if_neg (by omega), if_pos hk]
  rw [hT]
  rw [hv] at bc
  by_cases g : a.k = 0 ∨ b.k = 0
  · have g1 : (a.k == 0 || b.k == 0) = true := by simpa using g
    have hL : eqlM kind a.k a.n a.s b.k b.n b.s = (nov, 0) := by rw [eqlM, if_pos g]
    rw [hL]
    rw [g1] at nc
    simp only [eV] at bc nc
    obtain rfl | rfl := hk
    all_goals
      (repeat' (first | refine awp_seq ?_ | refine awp_block ?_ | refine awp_skip ?_ | refine awp_exit ?_ | ((first | refine rR (fun K kp hK hkp => ?_) | refine cR bc ?_ | refine cR nc ?_ | refine iG ?_); simp (implicitDefEqProofs := false) (maxSteps := 2000000) (disch := omega) only [go_sem, eV]; (repeat' (first | (refine hK _ ?_; clear hK hkp kp K) | (with_reducible refine And.intro ?_ ?_) | omega))) | ((first | refine aG (fun h => ?_) (fun h => ?_) | refine aD (fun h => ?_) (fun h => ?_) | refine aX (fun h => ?_) (fun h => ?_)) <;> simp only [h]) | refine awp_cond_t rfl ?_ | refine awp_cond_f rfl ?_ | ((refine awp_cond rfl (fun h => ?_) (fun h => ?_) <;> try simp only [ifs] at h) <;> (try (exfalso; omega))) | refine awp_ret ?_))
      (refine retA_is (by (simp (implicitDefEqProofs := false) (maxSteps := 2000000) (disch := omega) only [go_sem, Go.Proofs.Tryz.results34, pairA, eV, nov]); rfl) ?_; refine eN hE ?_; simp [oneA, ren, renL, pairA, eV, nov])
  · have g1 : (a.k == 0 || b.k == 0) = false := by simpa using g
    rw [g1] at nc
    by_cases e : a.k = b.k
    · have e1 : (a.k != b.k) = false := by simpa using e
      have hL : eqlM kind a.k a.n a.s b.k b.n b.s = ((1, if (vcmp a.k a.n a.s b.k b.n b.s = 0 ∧ kind = 6) ∨ (vcmp a.k a.n a.s b.k b.n b.s < 0 ∧ kind = 7) then 1 else 0, ⟨#[]⟩), 0) := by rw [eqlM, if_neg g, if_pos e]
      rw [hL]
      generalize vcmp a.k a.n a.s b.k b.n b.s = c at cc ⊢
      have tt := truth_con E.G true
      have tf := truth_con E.G false
      simp only [eV, bV, if_true, if_false, Bool.false_eq_true] at bc nc cc tt tf
      obtain rfl | rfl := hk
      · by_cases z : c = 0
        · subst z
          (repeat' (first | refine awp_seq ?_ | refine awp_block ?_ | refine awp_skip ?_ | refine awp_exit ?_ | ((first | refine rR (fun K kp hK hkp => ?_) | refine cR bc ?_ | refine cR nc ?_ | refine cR cc ?_ | refine cR tt ?_ | refine cR tf ?_ | refine iG ?_); simp (implicitDefEqProofs := false) (maxSteps := 2000000) (disch := omega) only [go_sem, eV, e1]; (repeat' (first | (refine hK _ ?_; clear hK hkp kp K) | (with_reducible refine And.intro ?_ ?_) | omega))) | ((first | refine aG (fun h => ?_) (fun h => ?_) | refine aD (fun h => ?_) (fun h => ?_) | refine aX (fun h => ?_) (fun h => ?_)) <;> simp only [h]) | refine awp_cond_t rfl ?_ | refine awp_cond_f rfl ?_ | ((refine awp_cond rfl (fun h => ?_) (fun h => ?_) <;> try simp only [ifs] at h) <;> (try (exfalso; omega))) | refine awp_ret ?_))
          (refine retA_is (by (simp (implicitDefEqProofs := false) (maxSteps := 2000000) (disch := omega) only [go_sem, Go.Proofs.Tryz.results34, pairA, eV]); rfl) ?_; refine eN hE ?_; simp [oneA, ren, renL, pairA, eV])
        · have z1 : (c == 0) = false := by simpa using z
          (repeat' (first | refine awp_seq ?_ | refine awp_block ?_ | refine awp_skip ?_ | refine awp_exit ?_ | ((first | refine rR (fun K kp hK hkp => ?_) | refine cR bc ?_ | refine cR nc ?_ | refine cR cc ?_ | refine cR tt ?_ | refine cR tf ?_ | refine iG ?_); simp (implicitDefEqProofs := false) (maxSteps := 2000000) (disch := omega) only [go_sem, eV, e1, z1, Bool.and_false]; (repeat' (first | (refine hK _ ?_; clear hK hkp kp K) | (with_reducible refine And.intro ?_ ?_) | omega))) | ((first | refine aG (fun h => ?_) (fun h => ?_) | refine aD (fun h => ?_) (fun h => ?_) | refine aX (fun h => ?_) (fun h => ?_)) <;> simp only [h]) | refine awp_cond_t rfl ?_ | refine awp_cond_f rfl ?_ | ((refine awp_cond rfl (fun h => ?_) (fun h => ?_) <;> try simp only [ifs] at h) <;> (try (exfalso; omega))) | refine awp_ret ?_))
          all_goals (refine retA_is (by (simp (implicitDefEqProofs := false) (maxSteps := 2000000) (disch := omega) only [go_sem, Go.Proofs.Tryz.results34]); rfl) ?_; refine (embV_nil hE (by simp) ?_).s; clear hE bc nc cc tt tf; simp_all [oneA, ren, renL, pairA, eV])
      · by_cases z : c < 0
        · have z1 : (c == 0) = false := by simp; omega
          have z2 : decide (c < 0) = true := decide_eq_true z
          (repeat' (first | refine awp_seq ?_ | refine awp_block ?_ | refine awp_skip ?_ | refine awp_exit ?_ | ((first | refine rR (fun K kp hK hkp => ?_) | refine cR bc ?_ | refine cR nc ?_ | refine cR cc ?_ | refine cR tt ?_ | refine cR tf ?_ | refine iG ?_); simp (implicitDefEqProofs := false) (maxSteps := 2000000) (disch := omega) only [go_sem, eV, e1, z1, z2]; (repeat' (first | (refine hK _ ?_; clear hK hkp kp K) | (with_reducible refine And.intro ?_ ?_) | omega))) | ((first | refine aG (fun h => ?_) (fun h => ?_) | refine aD (fun h => ?_) (fun h => ?_) | refine aX (fun h => ?_) (fun h => ?_)) <;> simp only [h]) | refine awp_cond_t rfl ?_ | refine awp_cond_f rfl ?_ | ((refine awp_cond rfl (fun h => ?_) (fun h => ?_) <;> try simp only [ifs] at h) <;> (try (exfalso; omega))) | refine awp_ret ?_))
          all_goals (refine retA_is (by (simp (implicitDefEqProofs := false) (maxSteps := 2000000) (disch := omega) only [go_sem, Go.Proofs.Tryz.results34]); rfl) ?_; refine (embV_nil hE (by simp) ?_).s; clear hE bc nc cc tt tf; simp_all [oneA, ren, renL, pairA, eV])
        · have z2 : decide (c < 0) = false := decide_eq_false z
          cases z1 : (c == 0)
          all_goals
            (repeat' (first | refine awp_seq ?_ | refine awp_block ?_ | refine awp_skip ?_ | refine awp_exit ?_ | ((first | refine rR (fun K kp hK hkp => ?_) | refine cR bc ?_ | refine cR nc ?_ | refine cR cc ?_ | refine cR tt ?_ | refine cR tf ?_ | refine iG ?_); simp (implicitDefEqProofs := false) (maxSteps := 2000000) (disch := omega) only [go_sem, eV, e1, z1, z2]; (repeat' (first | (refine hK _ ?_; clear hK hkp kp K) | (with_reducible refine And.intro ?_ ?_) | omega))) | ((first | refine aG (fun h => ?_) (fun h => ?_) | refine aD (fun h => ?_) (fun h => ?_) | refine aX (fun h => ?_) (fun h => ?_)) <;> simp only [h]) | refine awp_cond_t rfl ?_ | refine awp_cond_f rfl ?_ | ((refine awp_cond rfl (fun h => ?_) (fun h => ?_) <;> try simp only [ifs] at h) <;> (try (exfalso; omega))) | refine awp_ret ?_))
            all_goals (refine retA_is (by (simp (implicitDefEqProofs := false) (maxSteps := 2000000) (disch := omega) only [go_sem, Go.Proofs.Tryz.results34]); rfl) ?_; refine (embV_nil hE (by simp) ?_).s; clear hE bc nc cc tt tf; simp_all [oneA, ren, renL, pairA, eV])
    · have e1 : (a.k != b.k) = true := by simpa using e
      have hL : eqlM kind a.k a.n a.s b.k b.n b.s = (nov, 4) := by rw [eqlM, if_neg g, if_neg e]
      rw [hL]
      simp only [eV] at bc nc
      obtain rfl | rfl := hk
      all_goals
        (repeat' (first | refine awp_seq ?_ | refine awp_block ?_ | refine awp_skip ?_ | refine awp_exit ?_ | ((first | refine rR (fun K kp hK hkp => ?_) | refine cR bc ?_ | refine cR nc ?_ | refine iG ?_); simp (implicitDefEqProofs := false) (maxSteps := 2000000) (disch := omega) only [go_sem, eV, e1]; (repeat' (first | (refine hK _ ?_; clear hK hkp kp K) | (with_reducible refine And.intro ?_ ?_) | omega))) | ((first | refine aG (fun h => ?_) (fun h => ?_) | refine aD (fun h => ?_) (fun h => ?_) | refine aX (fun h => ?_) (fun h => ?_)) <;> simp only [h]) | refine awp_cond_t rfl ?_ | refine awp_cond_f rfl ?_ | ((refine awp_cond rfl (fun h => ?_) (fun h => ?_) <;> try simp only [ifs] at h) <;> (try (exfalso; omega))) | refine awp_ret ?_))
        (refine retA_is (by (simp (implicitDefEqProofs := false) (maxSteps := 2000000) (disch := omega) only [go_sem, Go.Proofs.Tryz.results34, pairA, eV, nov]); rfl) ?_; refine eN hE ?_; simp [oneA, ren, renL, pairA, eV, nov])
end Go.AM
/- Values: value.Two, numbers. -/
namespace Go.AM
open Go Go.RowKit
open Go.Proofs.YtoecmmpjndcolaaGreatDoor (vcheck vboth fitsI opV twoM logicM eqlM ariM nov vcmp)
attribute [local irreducible] AWP retA
set_option maxRecDepth 100000 in
set_option maxHeartbeats 8000000 in
theorem two_ari (G : List (Nat × List Value)) (kind : Int) (a b : V) (ha : okS a.s) (hb : okS b.s) (na : inI a.n) (nb : inI b.n) (hv : vboth a.k a.n a.s b.k b.n b.s = 0) (hk : kind = 8 ∨ kind = 9 ∨ kind = 10) : Con Go.Proofs.Tryz.prog G 34 [.r (.int .i64 kind), .agg (eV a), .agg (eV b)] [] 0 (Is (pairA (twoM kind a.k a.n a.s b.k b.n b.s)) [] 0) No := by
  refine con_of_awp Go.Proofs.Tryz.func34 rfl (by kernel_rfl) (of_decide_eq_true (by kernel_rfl)) ?_; intro E hG hE; subst hG; simp only [ent]
  have bc := both_con E.G a b ha hb
  have nc := null_con E.G a b
  have ac := arith_con E.G kind a.n b.n na nb
  have hT : twoM kind a.k a.n a.s b.k b.n b.s = ariM kind a.k a.n b.k b.n := by
    rw [twoM, if_pos hv, if_neg (by omega), if_neg (by omega), if_neg (by omega), if_pos hk]
  rw [hT]
  rw [hv] at bc
  simp only [eV] at bc nc
  obtain rfl | rfl | rfl := hk
  · (repeat' (first | refine awp_seq ?_ | refine awp_block ?_ | refine awp_skip ?_ | refine awp_exit ?_ | ((first | refine rR (fun K kp hK hkp => ?_) | refine cR bc ?_ | refine iG ?_); simp (implicitDefEqProofs := false) (maxSteps := 2000000) (disch := omega) only [go_sem, eV]; (repeat' (first | (refine hK _ ?_; clear hK hkp kp K) | (with_reducible refine And.intro ?_ ?_) | omega))) | ((first | refine aG (fun h => ?_) (fun h => ?_) | refine aD (fun h => ?_) (fun h => ?_) | refine aX (fun h => ?_) (fun h => ?_)) <;> simp only [h]) | refine awp_cond_t rfl ?_ | refine awp_cond_f rfl ?_ | ((refine awp_cond rfl (fun h => ?_) (fun h => ?_) <;> try simp only [ifs] at h) <;> (try (exfalso; omega))) | refine awp_ret ?_))
    refine awp_loop (fun k : Nat => ⟨[(74, .r (.int .i64 k)), (73, .agg [.r (.int .i64 a.k), .r (.int .i64 a.n), .r (.string a.s), .r (.int .i64 b.k), .r (.int .i64 b.n), .r (.string b.s)]), (6, .p 2 0 0), (5, .p 1 0 0), (4, .p 0 0 0), (0, .r (.int .i64 8))], [(2, .box 26 [.r (.int .i64 0), .r (.int .i64 0), .r (.string ⟨#[]⟩)]), (1, .box 26 (eV b)), (0, .box 26 (eV a))], 3⟩)
      (fun k => k ≤ 2 ∧ (0 < k → (a.k = 2 ∨ a.k = 0)) ∧ (1 < k → (b.k = 2 ∨ b.k = 0))) (fun k => 2 - k) 0 ?_ ?_ ?_
    · simp
    · (refine emb [0, 1, 2] ?_ ?_ rfl ?_ ?_ ?_ ?_ <;> simp [okM, okO, lk, ren, renL, renNd, by_, hE, eV] <;> (try omega))
    rintro k ⟨hk, h1, h2⟩
    obtain rfl | rfl | rfl : k = 0 ∨ k = 1 ∨ k = 2 := by omega
    · by_cases g : a.k = 2 ∨ a.k = 0
      · obtain g | g := g
        all_goals
          (repeat' (first | refine awp_seq ?_ | refine awp_block ?_ | refine awp_skip ?_ | refine awp_exit ?_ | ((first | refine rR (fun K kp hK hkp => ?_) | refine iG ?_); simp (implicitDefEqProofs := false) (maxSteps := 2000000) (disch := omega) only [go_sem, eV, g]; (repeat' (first | (refine hK _ ?_; clear hK hkp kp K) | (with_reducible refine And.intro ?_ ?_) | omega))) | ((first | refine aG (fun h => ?_) (fun h => ?_) | refine aD (fun h => ?_) (fun h => ?_) | refine aX (fun h => ?_) (fun h => ?_)) <;> simp only [h]) | refine awp_cond_t rfl ?_ | refine awp_cond_f rfl ?_ | ((refine awp_cond rfl (fun h => ?_) (fun h => ?_) <;> try simp only [ifs] at h) <;> (try (exfalso; omega))) | refine awp_ret ?_))
          ((first | (refine nextB (1) ?_ ?_ ?_) | (refine nextA (1) ?_ ?_ ?_)); rotate_left; (· (try dsimp only); (first | omega | (simp only [List.length_drop, List.length_cons, List.length_append]; omega) | (simp; done) | (simp; omega))); (· (refine emb [0, 1, 2] ?_ ?_ rfl ?_ ?_ ?_ ?_ <;> simp [okM, okO, lk, ren, renL, renNd, by_, hE, eV] <;> (try omega))))
          simp [g]
      · have g1 : (a.k != 2) = true := by simp; omega
        have g2 : (a.k != 0) = true := by simp; omega
        have hL : ariM 8 a.k a.n b.k b.n = (nov, 4) := by rw [ariM, if_pos (.inl (by omega))]
        rw [hL]
        (repeat' (first | refine awp_seq ?_ | refine awp_block ?_ | refine awp_skip ?_ | refine awp_exit ?_ | ((first | refine rR (fun K kp hK hkp => ?_) | refine iG ?_); simp (implicitDefEqProofs := false) (maxSteps := 2000000) (disch := omega) only [go_sem, eV, g1, g2]; (repeat' (first | (refine hK _ ?_; clear hK hkp kp K) | (with_reducible refine And.intro ?_ ?_) | omega))) | ((first | refine aG (fun h => ?_) (fun h => ?_) | refine aD (fun h => ?_) (fun h => ?_) | refine aX (fun h => ?_) (fun h => ?_)) <;> simp only [h]) | refine awp_cond_t rfl ?_ | refine awp_cond_f rfl ?_ | ((refine awp_cond rfl (fun h => ?_) (fun h => ?_) <;> try simp only [ifs] at h) <;> (try (exfalso; omega))) | refine awp_ret ?_))
        (refine retA_is (by (simp (implicitDefEqProofs := false) (maxSteps := 2000000) (disch := omega) only [go_sem, Go.Proofs.Tryz.results34, pairA, eV, nov]); rfl) ?_; refine eN hE ?_; simp [oneA, ren, renL, pairA, eV, nov])
    · by_cases g : b.k = 2 ∨ b.k = 0
      · have h1' := h1 (by omega)
        obtain g | g := g
        all_goals
          (repeat' (first | refine awp_seq ?_ | refine awp_block ?_ | refine awp_skip ?_ | refine awp_exit ?_ | ((first | refine rR (fun K kp hK hkp => ?_) | refine iG ?_); simp (implicitDefEqProofs := false) (maxSteps := 2000000) (disch := omega) only [go_sem, eV, g]; (repeat' (first | (refine hK _ ?_; clear hK hkp kp K) | (with_reducible refine And.intro ?_ ?_) | omega))) | ((first | refine aG (fun h => ?_) (fun h => ?_) | refine aD (fun h => ?_) (fun h => ?_) | refine aX (fun h => ?_) (fun h => ?_)) <;> simp only [h]) | refine awp_cond_t rfl ?_ | refine awp_cond_f rfl ?_ | ((refine awp_cond rfl (fun h => ?_) (fun h => ?_) <;> try simp only [ifs] at h) <;> (try (exfalso; omega))) | refine awp_ret ?_))
          ((first | (refine nextB (2) ?_ ?_ ?_) | (refine nextA (2) ?_ ?_ ?_)); rotate_left; (· (try dsimp only); (first | omega | (simp only [List.length_drop, List.length_cons, List.length_append]; omega) | (simp; done) | (simp; omega))); (· (refine emb [0, 1, 2] ?_ ?_ rfl ?_ ?_ ?_ ?_ <;> simp [okM, okO, lk, ren, renL, renNd, by_, hE, eV] <;> (try omega))))
          simp [g, h1']
      · have g1 : (b.k != 2) = true := by simp; omega
        have g2 : (b.k != 0) = true := by simp; omega
        have hL : ariM 8 a.k a.n b.k b.n = (nov, 4) := by rw [ariM, if_pos (.inr (by omega))]
        rw [hL]
        (repeat' (first | refine awp_seq ?_ | refine awp_block ?_ | refine awp_skip ?_ | refine awp_exit ?_ | ((first | refine rR (fun K kp hK hkp => ?_) | refine iG ?_); simp (implicitDefEqProofs := false) (maxSteps := 2000000) (disch := omega) only [go_sem, eV, g1, g2]; (repeat' (first | (refine hK _ ?_; clear hK hkp kp K) | (with_reducible refine And.intro ?_ ?_) | omega))) | ((first | refine aG (fun h => ?_) (fun h => ?_) | refine aD (fun h => ?_) (fun h => ?_) | refine aX (fun h => ?_) (fun h => ?_)) <;> simp only [h]) | refine awp_cond_t rfl ?_ | refine awp_cond_f rfl ?_ | ((refine awp_cond rfl (fun h => ?_) (fun h => ?_) <;> try simp only [ifs] at h) <;> (try (exfalso; omega))) | refine awp_ret ?_))
        (refine retA_is (by (simp (implicitDefEqProofs := false) (maxSteps := 2000000) (disch := omega) only [go_sem, Go.Proofs.Tryz.results34, pairA, eV, nov]); rfl) ?_; refine eN hE ?_; simp [oneA, ren, renL, pairA, eV, nov])
    have ga := h1 (by omega)
    have gb := h2 (by omega)
    have n4 : ¬ ((a.k ≠ 2 ∧ a.k ≠ 0) ∨ (b.k ≠ 2 ∧ b.k ≠ 0)) := by omega
    by_cases g : a.k = 0 ∨ b.k = 0
    · have hL : ariM 8 a.k a.n b.k b.n = (nov, 0) := by rw [ariM, if_neg n4, if_pos g]
      have g1 : (a.k == 0 || b.k == 0) = true := by simpa using g
      rw [hL]
      rw [g1] at nc
      (repeat' (first | refine awp_seq ?_ | refine awp_block ?_ | refine awp_skip ?_ | refine awp_exit ?_ | ((first | refine rR (fun K kp hK hkp => ?_) | refine cR nc ?_ | refine iG ?_); simp (implicitDefEqProofs := false) (maxSteps := 2000000) (disch := omega) only [go_sem, eV]; (repeat' (first | (refine hK _ ?_; clear hK hkp kp K) | (with_reducible refine And.intro ?_ ?_) | omega))) | ((first | refine aG (fun h => ?_) (fun h => ?_) | refine aD (fun h => ?_) (fun h => ?_) | refine aX (fun h => ?_) (fun h => ?_)) <;> simp only [h]) | refine awp_cond_t rfl ?_ | refine awp_cond_f rfl ?_ | ((refine awp_cond rfl (fun h => ?_) (fun h => ?_) <;> try simp only [ifs] at h) <;> (try (exfalso; omega))) | refine awp_ret ?_))
      (refine retA_is (by (simp (implicitDefEqProofs := false) (maxSteps := 2000000) (disch := omega) only [go_sem, Go.Proofs.Tryz.results34, pairA, eV, nov]); rfl) ?_; refine eN hE ?_; simp [oneA, ren, renL, pairA, eV, nov])
    · have g1 : (a.k == 0 || b.k == 0) = false := by simpa using g
      rw [g1] at nc
      cases f : fitsI (opV 8 a.n b.n)
      · have hL : ariM 8 a.k a.n b.k b.n = (nov, 5) := by rw [ariM, if_neg n4, if_neg g, if_neg (by simp [f])]
        rw [hL]
        rw [f] at ac
        (repeat' (first | refine awp_seq ?_ | refine awp_block ?_ | refine awp_skip ?_ | refine awp_exit ?_ | ((first | refine rR (fun K kp hK hkp => ?_) | refine cR nc ?_ | refine cR ac ?_ | refine iG ?_); simp (implicitDefEqProofs := false) (maxSteps := 2000000) (disch := omega) only [go_sem, eV]; (repeat' (first | (refine hK _ ?_; clear hK hkp kp K) | (with_reducible refine And.intro ?_ ?_) | omega))) | ((first | refine aG (fun h => ?_) (fun h => ?_) | refine aD (fun h => ?_) (fun h => ?_) | refine aX (fun h => ?_) (fun h => ?_)) <;> simp only [h]) | refine awp_cond_t rfl ?_ | refine awp_cond_f rfl ?_ | ((refine awp_cond rfl (fun h => ?_) (fun h => ?_) <;> try simp only [ifs] at h) <;> (try (exfalso; omega))) | refine awp_ret ?_))
        (refine retA_is (by (simp (implicitDefEqProofs := false) (maxSteps := 2000000) (disch := omega) only [go_sem, Go.Proofs.Tryz.results34, pairA, eV, nov]); rfl) ?_; refine eN hE ?_; simp [oneA, ren, renL, pairA, eV, nov])
      · have hL : ariM 8 a.k a.n b.k b.n = ((2, wrap64 (opV 8 a.n b.n), ⟨#[]⟩), 0) := by rw [ariM, if_neg n4, if_neg g, if_pos f]
        rw [hL]
        rw [f] at ac
        (repeat' (first | refine awp_seq ?_ | refine awp_block ?_ | refine awp_skip ?_ | refine awp_exit ?_ | ((first | refine rR (fun K kp hK hkp => ?_) | refine cR nc ?_ | refine cR ac ?_ | refine iG ?_); simp (implicitDefEqProofs := false) (maxSteps := 2000000) (disch := omega) only [go_sem, eV]; (repeat' (first | (refine hK _ ?_; clear hK hkp kp K) | (with_reducible refine And.intro ?_ ?_) | omega))) | ((first | refine aG (fun h => ?_) (fun h => ?_) | refine aD (fun h => ?_) (fun h => ?_) | refine aX (fun h => ?_) (fun h => ?_)) <;> simp only [h]) | refine awp_cond_t rfl ?_ | refine awp_cond_f rfl ?_ | ((refine awp_cond rfl (fun h => ?_) (fun h => ?_) <;> try simp only [ifs] at h) <;> (try (exfalso; omega))) | refine awp_ret ?_))
        (refine retA_is (by (simp (implicitDefEqProofs := false) (maxSteps := 2000000) (disch := omega) only [go_sem, Go.Proofs.Tryz.results34, pairA, eV]); rfl) ?_; refine eN hE ?_; simp [oneA, ren, renL, pairA, eV])
  · (repeat' (first | refine awp_seq ?_ | refine awp_block ?_ | refine awp_skip ?_ | refine awp_exit ?_ | ((first | refine rR (fun K kp hK hkp => ?_) | refine cR bc ?_ | refine iG ?_); simp (implicitDefEqProofs := false) (maxSteps := 2000000) (disch := omega) only [go_sem, eV]; (repeat' (first | (refine hK _ ?_; clear hK hkp kp K) | (with_reducible refine And.intro ?_ ?_) | omega))) | ((first | refine aG (fun h => ?_) (fun h => ?_) | refine aD (fun h => ?_) (fun h => ?_) | refine aX (fun h => ?_) (fun h => ?_)) <;> simp only [h]) | refine awp_cond_t rfl ?_ | refine awp_cond_f rfl ?_ | ((refine awp_cond rfl (fun h => ?_) (fun h => ?_) <;> try simp only [ifs] at h) <;> (try (exfalso; omega))) | refine awp_ret ?_))
    refine awp_loop (fun k : Nat => ⟨[(74, .r (.int .i64 k)), (73, .agg [.r (.int .i64 a.k), .r (.int .i64 a.n), .r (.string a.s), .r (.int .i64 b.k), .r (.int .i64 b.n), .r (.string b.s)]), (6, .p 2 0 0), (5, .p 1 0 0), (4, .p 0 0 0), (0, .r (.int .i64 9))], [(2, .box 26 [.r (.int .i64 0), .r (.int .i64 0), .r (.string ⟨#[]⟩)]), (1, .box 26 (eV b)), (0, .box 26 (eV a))], 3⟩)
      (fun k => k ≤ 2 ∧ (0 < k → (a.k = 2 ∨ a.k = 0)) ∧ (1 < k → (b.k = 2 ∨ b.k = 0))) (fun k => 2 - k) 0 ?_ ?_ ?_
    · simp
    · (refine emb [0, 1, 2] ?_ ?_ rfl ?_ ?_ ?_ ?_ <;> simp [okM, okO, lk, ren, renL, renNd, by_, hE, eV] <;> (try omega))
    rintro k ⟨hk, h1, h2⟩
    obtain rfl | rfl | rfl : k = 0 ∨ k = 1 ∨ k = 2 := by omega
    · by_cases g : a.k = 2 ∨ a.k = 0
      · obtain g | g := g
        all_goals
          (repeat' (first | refine awp_seq ?_ | refine awp_block ?_ | refine awp_skip ?_ | refine awp_exit ?_ | ((first | refine rR (fun K kp hK hkp => ?_) | refine iG ?_); simp (implicitDefEqProofs := false) (maxSteps := 2000000) (disch := omega) only [go_sem, eV, g]; (repeat' (first | (refine hK _ ?_; clear hK hkp kp K) | (with_reducible refine And.intro ?_ ?_) | omega))) | ((first | refine aG (fun h => ?_) (fun h => ?_) | refine aD (fun h => ?_) (fun h => ?_) | refine aX (fun h => ?_) (fun h => ?_)) <;> simp only [h]) | refine awp_cond_t rfl ?_ | refine awp_cond_f rfl ?_ | ((refine awp_cond rfl (fun h => ?_) (fun h => ?_) <;> try simp only [ifs] at h) <;> (try (exfalso; omega))) | refine awp_ret ?_))
          ((first | (refine nextB (1) ?_ ?_ ?_) | (refine nextA (1) ?_ ?_ ?_)); rotate_left; (· (try dsimp only); (first | omega | (simp only [List.length_drop, List.length_cons, List.length_append]; omega) | (simp; done) | (simp; omega))); (· (refine emb [0, 1, 2] ?_ ?_ rfl ?_ ?_ ?_ ?_ <;> simp [okM, okO, lk, ren, renL, renNd, by_, hE, eV] <;> (try omega))))
          simp [g]
      · have g1 : (a.k != 2) = true := by simp; omega
        have g2 : (a.k != 0) = true := by simp; omega
        have hL : ariM 9 a.k a.n b.k b.n = (nov, 4) := by rw [ariM, if_pos (.inl (by omega))]
        rw [hL]
        (repeat' (first | refine awp_seq ?_ | refine awp_block ?_ | refine awp_skip ?_ | refine awp_exit ?_ | ((first | refine rR (fun K kp hK hkp => ?_) | refine iG ?_); simp (implicitDefEqProofs := false) (maxSteps := 2000000) (disch := omega) only [go_sem, eV, g1, g2]; (repeat' (first | (refine hK _ ?_; clear hK hkp kp K) | (with_reducible refine And.intro ?_ ?_) | omega))) | ((first | refine aG (fun h => ?_) (fun h => ?_) | refine aD (fun h => ?_) (fun h => ?_) | refine aX (fun h => ?_) (fun h => ?_)) <;> simp only [h]) | refine awp_cond_t rfl ?_ | refine awp_cond_f rfl ?_ | ((refine awp_cond rfl (fun h => ?_) (fun h => ?_) <;> try simp only [ifs] at h) <;> (try (exfalso; omega))) | refine awp_ret ?_))
        (refine retA_is (by (simp (implicitDefEqProofs := false) (maxSteps := 2000000) (disch := omega) only [go_sem, Go.Proofs.Tryz.results34, pairA, eV, nov]); rfl) ?_; refine eN hE ?_; simp [oneA, ren, renL, pairA, eV, nov])
    · by_cases g : b.k = 2 ∨ b.k = 0
      · have h1' := h1 (by omega)
        obtain g | g := g
        all_goals
          (repeat' (first | refine awp_seq ?_ | refine awp_block ?_ | refine awp_skip ?_ | refine awp_exit ?_ | ((first | refine rR (fun K kp hK hkp => ?_) | refine iG ?_); simp (implicitDefEqProofs := false) (maxSteps := 2000000) (disch := omega) only [go_sem, eV, g]; (repeat' (first | (refine hK _ ?_; clear hK hkp kp K) | (with_reducible refine And.intro ?_ ?_) | omega))) | ((first | refine aG (fun h => ?_) (fun h => ?_) | refine aD (fun h => ?_) (fun h => ?_) | refine aX (fun h => ?_) (fun h => ?_)) <;> simp only [h]) | refine awp_cond_t rfl ?_ | refine awp_cond_f rfl ?_ | ((refine awp_cond rfl (fun h => ?_) (fun h => ?_) <;> try simp only [ifs] at h) <;> (try (exfalso; omega))) | refine awp_ret ?_))
          ((first | (refine nextB (2) ?_ ?_ ?_) | (refine nextA (2) ?_ ?_ ?_)); rotate_left; (· (try dsimp only); (first | omega | (simp only [List.length_drop, List.length_cons, List.length_append]; omega) | (simp; done) | (simp; omega))); (· (refine emb [0, 1, 2] ?_ ?_ rfl ?_ ?_ ?_ ?_ <;> simp [okM, okO, lk, ren, renL, renNd, by_, hE, eV] <;> (try omega))))
          simp [g, h1']
      · have g1 : (b.k != 2) = true := by simp; omega
        have g2 : (b.k != 0) = true := by simp; omega
        have hL : ariM 9 a.k a.n b.k b.n = (nov, 4) := by rw [ariM, if_pos (.inr (by omega))]
        rw [hL]
        (repeat' (first | refine awp_seq ?_ | refine awp_block ?_ | refine awp_skip ?_ | refine awp_exit ?_ | ((first | refine rR (fun K kp hK hkp => ?_) | refine iG ?_); simp (implicitDefEqProofs := false) (maxSteps := 2000000) (disch := omega) only [go_sem, eV, g1, g2]; (repeat' (first | (refine hK _ ?_; clear hK hkp kp K) | (with_reducible refine And.intro ?_ ?_) | omega))) | ((first | refine aG (fun h => ?_) (fun h => ?_) | refine aD (fun h => ?_) (fun h => ?_) | refine aX (fun h => ?_) (fun h => ?_)) <;> simp only [h]) | refine awp_cond_t rfl ?_ | refine awp_cond_f rfl ?_ | ((refine awp_cond rfl (fun h => ?_) (fun h => ?_) <;> try simp only [ifs] at h) <;> (try (exfalso; omega))) | refine awp_ret ?_))
        (refine retA_is (by (simp (implicitDefEqProofs := false) (maxSteps := 2000000) (disch := omega) only [go_sem, Go.Proofs.Tryz.results34, pairA, eV, nov]); rfl) ?_; refine eN hE ?_; simp [oneA, ren, renL, pairA, eV, nov])
    have ga := h1 (by omega)
    have gb := h2 (by omega)
    have n4 : ¬ ((a.k ≠ 2 ∧ a.k ≠ 0) ∨ (b.k ≠ 2 ∧ b.k ≠ 0)) := by omega
    by_cases g : a.k = 0 ∨ b.k = 0
    · have hL : ariM 9 a.k a.n b.k b.n = (nov, 0) := by rw [ariM, if_neg n4, if_pos g]
      have g1 : (a.k == 0 || b.k == 0) = true := by simpa using g
      rw [hL]
      rw [g1] at nc
      (repeat' (first | refine awp_seq ?_ | refine awp_block ?_ | refine awp_skip ?_ | refine awp_exit ?_ | ((first | refine rR (fun K kp hK hkp => ?_) | refine cR nc ?_ | refine iG ?_); simp (implicitDefEqProofs := false) (maxSteps := 2000000) (disch := omega) only [go_sem, eV]; (repeat' (first | (refine hK _ ?_; clear hK hkp kp K) | (with_reducible refine And.intro ?_ ?_) | omega))) | ((first | refine aG (fun h => ?_) (fun h => ?_) | refine aD (fun h => ?_) (fun h => ?_) | refine aX (fun h => ?_) (fun h => ?_)) <;> simp only [h]) | refine awp_cond_t rfl ?_ | refine awp_cond_f rfl ?_ | ((refine awp_cond rfl (fun h => ?_) (fun h => ?_) <;> try simp only [ifs] at h) <;> (try (exfalso; omega))) | refine awp_ret ?_))
      (refine retA_is (by (simp (implicitDefEqProofs := false) (maxSteps := 2000000) (disch := omega) only [go_sem, Go.Proofs.Tryz.results34, pairA, eV, nov]); rfl) ?_; refine eN hE ?_; simp [oneA, ren, renL, pairA, eV, nov])
    · have g1 : (a.k == 0 || b.k == 0) = false := by simpa using g
      rw [g1] at nc
      cases f : fitsI (opV 9 a.n b.n)
      · have hL : ariM 9 a.k a.n b.k b.n = (nov, 5) := by rw [ariM, if_neg n4, if_neg g, if_neg (by simp [f])]
        rw [hL]
        rw [f] at ac
        (repeat' (first | refine awp_seq ?_ | refine awp_block ?_ | refine awp_skip ?_ | refine awp_exit ?_ | ((first | refine rR (fun K kp hK hkp => ?_) | refine cR nc ?_ | refine cR ac ?_ | refine iG ?_); simp (implicitDefEqProofs := false) (maxSteps := 2000000) (disch := omega) only [go_sem, eV]; (repeat' (first | (refine hK _ ?_; clear hK hkp kp K) | (with_reducible refine And.intro ?_ ?_) | omega))) | ((first | refine aG (fun h => ?_) (fun h => ?_) | refine aD (fun h => ?_) (fun h => ?_) | refine aX (fun h => ?_) (fun h => ?_)) <;> simp only [h]) | refine awp_cond_t rfl ?_ | refine awp_cond_f rfl ?_ | ((refine awp_cond rfl (fun h => ?_) (fun h => ?_) <;> try simp only [ifs] at h) <;> (try (exfalso; omega))) | refine awp_ret ?_))
        (refine retA_is (by (simp (implicitDefEqProofs := false) (maxSteps := 2000000) (disch := omega) only [go_sem, Go.Proofs.Tryz.results34, pairA, eV, nov]); rfl) ?_; refine eN hE ?_; simp [oneA, ren, renL, pairA, eV, nov])
      · have hL : ariM 9 a.k a.n b.k b.n = ((2, wrap64 (opV 9 a.n b.n), ⟨#[]⟩), 0) := by rw [ariM, if_neg n4, if_neg g, if_pos f]
        rw [hL]
        rw [f] at ac
        (repeat' (first | refine awp_seq ?_ | refine awp_block ?_ | refine awp_skip ?_ | refine awp_exit ?_ | ((first | refine rR (fun K kp hK hkp => ?_) | refine cR nc ?_ | refine cR ac ?_ | refine iG ?_); simp (implicitDefEqProofs := false) (maxSteps := 2000000) (disch := omega) only [go_sem, eV]; (repeat' (first | (refine hK _ ?_; clear hK hkp kp K) | (with_reducible refine And.intro ?_ ?_) | omega))) | ((first | refine aG (fun h => ?_) (fun h => ?_) | refine aD (fun h => ?_) (fun h => ?_) | refine aX (fun h => ?_) (fun h => ?_)) <;> simp only [h]) | refine awp_cond_t rfl ?_ | refine awp_cond_f rfl ?_ | ((refine awp_cond rfl (fun h => ?_) (fun h => ?_) <;> try simp only [ifs] at h) <;> (try (exfalso; omega))) | refine awp_ret ?_))
        (refine retA_is (by (simp (implicitDefEqProofs := false) (maxSteps := 2000000) (disch := omega) only [go_sem, Go.Proofs.Tryz.results34, pairA, eV]); rfl) ?_; refine eN hE ?_; simp [oneA, ren, renL, pairA, eV])
  · (repeat' (first | refine awp_seq ?_ | refine awp_block ?_ | refine awp_skip ?_ | refine awp_exit ?_ | ((first | refine rR (fun K kp hK hkp => ?_) | refine cR bc ?_ | refine iG ?_); simp (implicitDefEqProofs := false) (maxSteps := 2000000) (disch := omega) only [go_sem, eV]; (repeat' (first | (refine hK _ ?_; clear hK hkp kp K) | (with_reducible refine And.intro ?_ ?_) | omega))) | ((first | refine aG (fun h => ?_) (fun h => ?_) | refine aD (fun h => ?_) (fun h => ?_) | refine aX (fun h => ?_) (fun h => ?_)) <;> simp only [h]) | refine awp_cond_t rfl ?_ | refine awp_cond_f rfl ?_ | ((refine awp_cond rfl (fun h => ?_) (fun h => ?_) <;> try simp only [ifs] at h) <;> (try (exfalso; omega))) | refine awp_ret ?_))
    refine awp_loop (fun k : Nat => ⟨[(74, .r (.int .i64 k)), (73, .agg [.r (.int .i64 a.k), .r (.int .i64 a.n), .r (.string a.s), .r (.int .i64 b.k), .r (.int .i64 b.n), .r (.string b.s)]), (6, .p 2 0 0), (5, .p 1 0 0), (4, .p 0 0 0), (0, .r (.int .i64 10))], [(2, .box 26 [.r (.int .i64 0), .r (.int .i64 0), .r (.string ⟨#[]⟩)]), (1, .box 26 (eV b)), (0, .box 26 (eV a))], 3⟩)
      (fun k => k ≤ 2 ∧ (0 < k → (a.k = 2 ∨ a.k = 0)) ∧ (1 < k → (b.k = 2 ∨ b.k = 0))) (fun k => 2 - k) 0 ?_ ?_ ?_
    · simp
    · (refine emb [0, 1, 2] ?_ ?_ rfl ?_ ?_ ?_ ?_ <;> simp [okM, okO, lk, ren, renL, renNd, by_, hE, eV] <;> (try omega))
    rintro k ⟨hk, h1, h2⟩
    obtain rfl | rfl | rfl : k = 0 ∨ k = 1 ∨ k = 2 := by omega
    · by_cases g : a.k = 2 ∨ a.k = 0
      · obtain g | g := g
        all_goals
          (repeat' (first | refine awp_seq ?_ | refine awp_block ?_ | refine awp_skip ?_ | refine awp_exit ?_ | ((first | refine rR (fun K kp hK hkp => ?_) | refine iG ?_); simp (implicitDefEqProofs := false) (maxSteps := 2000000) (disch := omega) only [go_sem, eV, g]; (repeat' (first | (refine hK _ ?_; clear hK hkp kp K) | (with_reducible refine And.intro ?_ ?_) | omega))) | ((first | refine aG (fun h => ?_) (fun h => ?_) | refine aD (fun h => ?_) (fun h => ?_) | refine aX (fun h => ?_) (fun h => ?_)) <;> simp only [h]) | refine awp_cond_t rfl ?_ | refine awp_cond_f rfl ?_ | ((refine awp_cond rfl (fun h => ?_) (fun h => ?_) <;> try simp only [ifs] at h) <;> (try (exfalso; omega))) | refine awp_ret ?_))
          ((first | (refine nextB (1) ?_ ?_ ?_) | (refine nextA (1) ?_ ?_ ?_)); rotate_left; (· (try dsimp only); (first | omega | (simp only [List.length_drop, List.length_cons, List.length_append]; omega) | (simp; done) | (simp; omega))); (· (refine emb [0, 1, 2] ?_ ?_ rfl ?_ ?_ ?_ ?_ <;> simp [okM, okO, lk, ren, renL, renNd, by_, hE, eV] <;> (try omega))))
          simp [g]
      · have g1 : (a.k != 2) = true := by simp; omega
        have g2 : (a.k != 0) = true := by simp; omega
        have hL : ariM 10 a.k a.n b.k b.n = (nov, 4) := by rw [ariM, if_pos (.inl (by omega))]
        rw [hL]
        (repeat' (first | refine awp_seq ?_ | refine awp_block ?_ | refine awp_skip ?_ | refine awp_exit ?_ | ((first | refine rR (fun K kp hK hkp => ?_) | refine iG ?_); simp (implicitDefEqProofs := false) (maxSteps := 2000000) (disch := omega) only [go_sem, eV, g1, g2]; (repeat' (first | (refine hK _ ?_; clear hK hkp kp K) | (with_reducible refine And.intro ?_ ?_) | omega))) | ((first | refine aG (fun h => ?_) (fun h => ?_) | refine aD (fun h => ?_) (fun h => ?_) | refine aX (fun h => ?_) (fun h => ?_)) <;> simp only [h]) | refine awp_cond_t rfl ?_ | refine awp_cond_f rfl ?_ | ((refine awp_cond rfl (fun h => ?_) (fun h => ?_) <;> try simp only [ifs] at h) <;> (try (exfalso; omega))) | refine awp_ret ?_))
        (refine retA_is (by (simp (implicitDefEqProofs := false) (maxSteps := 2000000) (disch := omega) only [go_sem, Go.Proofs.Tryz.results34, pairA, eV, nov]); rfl) ?_; refine eN hE ?_; simp [oneA, ren, renL, pairA, eV, nov])
    · by_cases g : b.k = 2 ∨ b.k = 0
      · have h1' := h1 (by omega)
        obtain g | g := g
        all_goals
          (repeat' (first | refine awp_seq ?_ | refine awp_block ?_ | refine awp_skip ?_ | refine awp_exit ?_ | ((first | refine rR (fun K kp hK hkp => ?_) | refine iG ?_); simp (implicitDefEqProofs := false) (maxSteps := 2000000) (disch := omega) only [go_sem, eV, g]; (repeat' (first | (refine hK _ ?_; clear hK hkp kp K) | (with_reducible refine And.intro ?_ ?_) | omega))) | ((first | refine aG (fun h => ?_) (fun h => ?_) | refine aD (fun h => ?_) (fun h => ?_) | refine aX (fun h => ?_) (fun h => ?_)) <;> simp only [h]) | refine awp_cond_t rfl ?_ | refine awp_cond_f rfl ?_ | ((refine awp_cond rfl (fun h => ?_) (fun h => ?_) <;> try simp only [ifs] at h) <;> (try (exfalso; omega))) | refine awp_ret ?_))
          ((first | (refine nextB (2) ?_ ?_ ?_) | (refine nextA (2) ?_ ?_ ?_)); rotate_left; (· (try dsimp only); (first | omega | (simp only [List.length_drop, List.length_cons, List.length_append]; omega) | (simp; done) | (simp; omega))); (· (refine emb [0, 1, 2] ?_ ?_ rfl ?_ ?_ ?_ ?_ <;> simp [okM, okO, lk, ren, renL, renNd, by_, hE, eV] <;> (try omega))))
          simp [g, h1']
      · have g1 : (b.k != 2) = true := by simp; omega
        have g2 : (b.k != 0) = true := by simp; omega
        have hL : ariM 10 a.k a.n b.k b.n = (nov, 4) := by rw [ariM, if_pos (.inr (by omega))]
        rw [hL]
        (repeat' (first | refine awp_seq ?_ | refine awp_block ?_ | refine awp_skip ?_ | refine awp_exit ?_ | ((first | refine rR (fun K kp hK hkp => ?_) | refine iG ?_); simp (implicitDefEqProofs := false) (maxSteps := 2000000) (disch := omega) only [go_sem, eV, g1, g2]; (repeat' (first | (refine hK _ ?_; clear hK hkp kp K) | (with_reducible refine And.intro ?_ ?_) | omega))) | ((first | refine aG (fun h => ?_) (fun h => ?_) | refine aD (fun h => ?_) (fun h => ?_) | refine aX (fun h => ?_) (fun h => ?_)) <;> simp only [h]) | refine awp_cond_t rfl ?_ | refine awp_cond_f rfl ?_ | ((refine awp_cond rfl (fun h => ?_) (fun h => ?_) <;> try simp only [ifs] at h) <;> (try (exfalso; omega))) | refine awp_ret ?_))
        (refine retA_is (by (simp (implicitDefEqProofs := false) (maxSteps := 2000000) (disch := omega) only [go_sem, Go.Proofs.Tryz.results34, pairA, eV, nov]); rfl) ?_; refine eN hE ?_; simp [oneA, ren, renL, pairA, eV, nov])
    have ga := h1 (by omega)
    have gb := h2 (by omega)
    have n4 : ¬ ((a.k ≠ 2 ∧ a.k ≠ 0) ∨ (b.k ≠ 2 ∧ b.k ≠ 0)) := by omega
    by_cases g : a.k = 0 ∨ b.k = 0
    · have hL : ariM 10 a.k a.n b.k b.n = (nov, 0) := by rw [ariM, if_neg n4, if_pos g]
      have g1 : (a.k == 0 || b.k == 0) = true := by simpa using g
      rw [hL]
      rw [g1] at nc
      (repeat' (first | refine awp_seq ?_ | refine awp_block ?_ | refine awp_skip ?_ | refine awp_exit ?_ | ((first | refine rR (fun K kp hK hkp => ?_) | refine cR nc ?_ | refine iG ?_); simp (implicitDefEqProofs := false) (maxSteps := 2000000) (disch := omega) only [go_sem, eV]; (repeat' (first | (refine hK _ ?_; clear hK hkp kp K) | (with_reducible refine And.intro ?_ ?_) | omega))) | ((first | refine aG (fun h => ?_) (fun h => ?_) | refine aD (fun h => ?_) (fun h => ?_) | refine aX (fun h => ?_) (fun h => ?_)) <;> simp only [h]) | refine awp_cond_t rfl ?_ | refine awp_cond_f rfl ?_ | ((refine awp_cond rfl (fun h => ?_) (fun h => ?_) <;> try simp only [ifs] at h) <;> (try (exfalso; omega))) | refine awp_ret ?_))
      (refine retA_is (by (simp (implicitDefEqProofs := false) (maxSteps := 2000000) (disch := omega) only [go_sem, Go.Proofs.Tryz.results34, pairA, eV, nov]); rfl) ?_; refine eN hE ?_; simp [oneA, ren, renL, pairA, eV, nov])
    · have g1 : (a.k == 0 || b.k == 0) = false := by simpa using g
      rw [g1] at nc
      cases f : fitsI (opV 10 a.n b.n)
      · have hL : ariM 10 a.k a.n b.k b.n = (nov, 5) := by rw [ariM, if_neg n4, if_neg g, if_neg (by simp [f])]
        rw [hL]
        rw [f] at ac
        (repeat' (first | refine awp_seq ?_ | refine awp_block ?_ | refine awp_skip ?_ | refine awp_exit ?_ | ((first | refine rR (fun K kp hK hkp => ?_) | refine cR nc ?_ | refine cR ac ?_ | refine iG ?_); simp (implicitDefEqProofs := false) (maxSteps := 2000000) (disch := omega) only [go_sem, eV]; (repeat' (first | (refine hK _ ?_; clear hK hkp kp K) | (with_reducible refine And.intro ?_ ?_) | omega))) | ((first | refine aG (fun h => ?_) (fun h => ?_) | refine aD (fun h => ?_) (fun h => ?_) | refine aX (fun h => ?_) (fun h => ?_)) <;> simp only [h]) | refine awp_cond_t rfl ?_ | refine awp_cond_f rfl ?_ | ((refine awp_cond rfl (fun h => ?_) (fun h => ?_) <;> try simp only [ifs] at h) <;> (try (exfalso; omega))) | refine awp_ret ?_))
        (refine retA_is (by (simp (implicitDefEqProofs := false) (maxSteps := 2000000) (disch := omega) only [go_sem, Go.Proofs.Tryz.results34, pairA, eV, nov]); rfl) ?_; refine eN hE ?_; simp [oneA, ren, renL, pairA, eV, nov])
      · have hL : ariM 10 a.k a.n b.k b.n = ((2, wrap64 (opV 10 a.n b.n), ⟨#[]⟩), 0) := by rw [ariM, if_neg n4, if_neg g, if_pos f]
        rw [hL]
        rw [f] at ac
        (repeat' (first | refine awp_seq ?_ | refine awp_block ?_ | refine awp_skip ?_ | refine awp_exit ?_ | ((first | refine rR (fun K kp hK hkp => ?_) | refine cR nc ?_ | refine cR ac ?_ | refine iG ?_); simp (implicitDefEqProofs := false) (maxSteps := 2000000) (disch := omega) only [go_sem, eV]; (repeat' (first | (refine hK _ ?_; clear hK hkp kp K) | (with_reducible refine And.intro ?_ ?_) | omega))) | ((first | refine aG (fun h => ?_) (fun h => ?_) | refine aD (fun h => ?_) (fun h => ?_) | refine aX (fun h => ?_) (fun h => ?_)) <;> simp only [h]) | refine awp_cond_t rfl ?_ | refine awp_cond_f rfl ?_ | ((refine awp_cond rfl (fun h => ?_) (fun h => ?_) <;> try simp only [ifs] at h) <;> (try (exfalso; omega))) | refine awp_ret ?_))
        (refine retA_is (by (simp (implicitDefEqProofs := false) (maxSteps := 2000000) (disch := omega) only [go_sem, Go.Proofs.Tryz.results34, pairA, eV]); rfl) ?_; refine eN hE ?_; simp [oneA, ren, renL, pairA, eV])
end Go.AM
/- Values: value.Two. -/
namespace Go.AM
open Go Go.RowKit
open Go.Proofs.YtoecmmpjndcolaaGreatDoor (vboth twoM)
theorem two_con (G : List (Nat × List Value)) (kind : Int) (a b : V) (ha : okS a.s) (hb : okS b.s) (na : inI a.n) (nb : inI b.n) : Con Go.Proofs.Tryz.prog G 34 [.r (.int .i64 kind), .agg (eV a), .agg (eV b)] [] 0 (Is (pairA (twoM kind a.k a.n a.s b.k b.n b.s)) [] 0) No := by
  by_cases hv : vboth a.k a.n a.s b.k b.n b.s = 0
  · by_cases h1 : kind = 3 ∨ kind = 4
    · exact two_log G kind a b ha hb hv h1
    by_cases h2 : kind = 6 ∨ kind = 7
    · exact two_eql G kind a b ha hb hv h2
    by_cases h3 : kind = 8 ∨ kind = 9 ∨ kind = 10
    · exact two_ari G kind a b ha hb na nb hv h3
    exact two_other G kind a b ha hb hv (by omega) (by omega) (by omega) (by omega) (by omega) (by omega) (by omega)
  · exact two_bad G kind a b ha hb hv
end Go.AM
