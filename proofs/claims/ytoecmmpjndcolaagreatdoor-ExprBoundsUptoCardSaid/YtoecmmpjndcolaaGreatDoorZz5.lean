/- Texts of the law ExprBounds, part 5: lemmas; what is proved stands in the last text. -/
import Derived.Test.YtoecmmpjndcolaaGreatDoorZz4
import Derived.Test.YtoecmmpjndcolaaGreatDoorZz3
import Derived.Shelf.Vars
set_option linter.unusedSimpArgs false
set_option linter.unusedVariables false
/- Statements: the reference's faults of a new table. -/
namespace Go.AM
open Go Go.RowKit
open Go.Proofs.YtoecmmpjndcolaaGreatDoor (OP nameM litM exprM marksS wordsS StrsAt str SlAt letB wrdB digB bt)
attribute [local irreducible] AWP retA
theorem in_con (G : List (Nat × List Value)) (n a b : Int) : Con Go.Proofs.Tryz.prog G 66 [.r (.int .i64 n), .r (.int .i64 a), .r (.int .i64 b)] [] 0 (Is (.r (.bool (decide (a ≤ n) && decide (n ≤ b)))) [] 0) No :=
  con_of_calls (by kernel_rfl) (fun w z vs hz hr hG => by
    obtain ⟨v1, r, rfl, h1, h2⟩ := hr.head
    obtain ⟨v2, r, rfl, h3, h4⟩ := h2.head
    obtain ⟨v3, r, rfl, h5, h6⟩ := h4.head
    obtain rfl := h1.r_inv
    obtain rfl := h3.r_inv
    obtain rfl := h5.r_inv
    obtain rfl := h6.of_nil
    exact (Go.Proofs.YtoecmmpjndcolaaGreatDoor.in_any n a b w).mono (fun e w' ⟨he, hw⟩ => by subst hw; exact ⟨he, Below.refl _ _⟩))
theorem in_yes {n a b : Int} (h : a ≤ n) (h' : n ≤ b) : (decide (a ≤ n) && decide (n ≤ b)) = true := by simp [h, h']
theorem in_no {n a b : Int} (h : n < a ∨ b < n) : (decide (a ≤ n) && decide (n ≤ b)) = false := by simp; omega
set_option maxRecDepth 100000 in
set_option maxHeartbeats 8000000 in
theorem parts1_con (G : List (Nat × List Value)) (s : ST) (hk : s.k = 1) (hl : s.cols.length ≤ 1048576) (hs : ∀ c ∈ s.cols, okS c.nm) : Con Go.Proofs.Tryz.prog G 77 [.agg (eST s)] [] 0 (Is (.r (.int .i64 (colsM s.cols))) [] 0) No := by
  refine con_of_awp Go.Proofs.Tryz.func77 rfl (by kernel_rfl) (of_decide_eq_true (by kernel_rfl)) ?_; intro E hG hE; subst hG; simp only [ent]
  have ic := in_con E.G s.cols.length 1 6
  by_cases h6 : s.cols.length < 1 ∨ 6 < s.cols.length
  · rw [in_no (by omega)] at ic
    (repeat' (first | refine awp_seq ?_ | refine awp_block ?_ | refine awp_skip ?_ | refine awp_exit ?_ | ((first | refine rR (fun K kp hK hkp => ?_) | refine rD (id := 14) mixed 13 [0,1,2,3,4,5,6,7,8,9,10,11,12] (fun K kp hK hkp => ?_) | refine cR ic ?_ | refine cD ic ?_ | refine iG ?_ | refine iD ?_); simp (implicitDefEqProofs := false) (maxSteps := 2000000) (disch := omega) only [go_sem, eST, hk]; (repeat' (first | (refine hK _ ?_; clear hK hkp kp K) | (with_reducible refine And.intro ?_ ?_) | omega))) | ((first | refine aG (fun h => ?_) (fun h => ?_) | refine aD (fun h => ?_) (fun h => ?_) | refine aX (fun h => ?_) (fun h => ?_)) <;> simp only [h]) | refine awp_cond_t rfl ?_ | refine awp_cond_f rfl ?_ | ((refine awp_cond rfl (fun h => ?_) (fun h => ?_) <;> try simp only [ifs] at h) <;> (try (exfalso; omega))) | refine awp_ret ?_))
    have hM : colsM s.cols = 1 := by rw [colsM, if_pos h6]
    rw [hM]
    (refine retA_is (by (simp (implicitDefEqProofs := false) (maxSteps := 2000000) (disch := omega) only [go_sem, Go.Proofs.Tryz.results77]); rfl) ?_; refine eN hE ?_; simp [oneA, ren, renL])
  rw [in_yes (by omega) (by omega)] at ic
  have hM : colsM s.cols = colsFrom [] s.cols := by rw [colsM, if_neg (by omega)]
  rw [hM]
  (repeat' (first | refine awp_seq ?_ | refine awp_block ?_ | refine awp_skip ?_ | refine awp_exit ?_ | ((first | refine rR (fun K kp hK hkp => ?_) | refine rD (id := 14) mixed 13 [0,1,2,3,4,5,6,7,8,9,10,11,12] (fun K kp hK hkp => ?_) | refine cR ic ?_ | refine cD ic ?_ | refine iG ?_ | refine iD ?_); simp (implicitDefEqProofs := false) (maxSteps := 2000000) (disch := omega) only [go_sem, eST, hk]; (repeat' (first | (refine hK _ ?_; clear hK hkp kp K) | (with_reducible refine And.intro ?_ ?_) | omega))) | ((first | refine aG (fun h => ?_) (fun h => ?_) | refine aD (fun h => ?_) (fun h => ?_) | refine aX (fun h => ?_) (fun h => ?_)) <;> simp only [h]) | refine awp_cond_t rfl ?_ | refine awp_cond_f rfl ?_ | ((refine awp_cond rfl (fun h => ?_) (fun h => ?_) <;> try simp only [ifs] at h) <;> (try (exfalso; omega))) | refine awp_ret ?_))
  refine awp_loop (fun k : Nat => ⟨[(3, .r (.int .i64 k)), (1, .p 0 0 0), (13, .r (.int .i64 1))], [(0, .box 71 (eST s))], 1⟩) (fun k => k ≤ s.cols.length ∧ colsFrom (s.cols.take k) (s.cols.drop k) = colsFrom [] s.cols) (fun k => s.cols.length - k) 0 ?_ ?_ ?_
  · simp
  · (refine emb [0] ?_ ?_ rfl ?_ ?_ ?_ ?_ <;> simp [okM, okO, lk, ren, renL, renNd, by_, hE, eST, hk] <;> (try omega))
  intro k ⟨hkl, hno⟩
  by_cases hlt : k < s.cols.length
  · obtain ⟨c, hx⟩ : ∃ x, s.cols[k]? = some x := ⟨s.cols[k], by simp [hlt]⟩
    rw [colsFrom_step hx] at hno
    have nc := nameFault_con E.G c.nm (hs c (List.mem_of_getElem? hx))
    by_cases hn : nameM c.nm = 0
    · rw [if_neg (by simpa using hn)] at hno
      rw [hn] at nc
      have jc := in_con E.G c.k 1 3
      by_cases hck : c.k < 1 ∨ 3 < c.k
      · rw [if_pos hck] at hno
        rw [in_no (by omega)] at jc
        (repeat' (first | refine awp_seq ?_ | refine awp_block ?_ | refine awp_skip ?_ | refine awp_exit ?_ | ((first | refine rR (fun K kp hK hkp => ?_) | refine rD (id := 14) mixed 13 [0,1,2,3,4,5,6,7,8,9,10,11,12] (fun K kp hK hkp => ?_) | refine cR nc ?_ | refine cD nc ?_ | refine cR jc ?_ | refine cD jc ?_ | refine iG ?_ | refine iD ?_); simp (implicitDefEqProofs := false) (maxSteps := 2000000) (disch := omega) only [go_sem, eST, hx, eC]; (repeat' (first | (refine hK _ ?_; clear hK hkp kp K) | (with_reducible refine And.intro ?_ ?_) | omega))) | ((first | refine aG (fun h => ?_) (fun h => ?_) | refine aD (fun h => ?_) (fun h => ?_) | refine aX (fun h => ?_) (fun h => ?_)) <;> simp only [h]) | refine awp_cond_t rfl ?_ | refine awp_cond_f rfl ?_ | ((refine awp_cond rfl (fun h => ?_) (fun h => ?_) <;> try simp only [ifs] at h) <;> (try (exfalso; omega))) | refine awp_ret ?_))
        have hb0 : ((2 : Int) == 0) = false := by decide
        have hb1 : ((2 : Int) != 0) = true := by decide
        refine awp_loop (fun _ : Unit => ⟨[(5, .r (.int .i64 0)), (4, .r (.int .i64 (2 : Int))), (3, .r (.int .i64 k)), (1, .p 0 0 0), (13, .r (.int .i64 1))], [(0, .box 71 (eST s))], 1⟩) (fun _ => True) (fun _ => 0) () trivial ?_ ?_
        · (refine emb [0] ?_ ?_ rfl ?_ ?_ ?_ ?_ <;> simp [okM, okO, lk, ren, renL, renNd, by_, hE, eST] <;> (try omega))
        rintro ⟨⟩ _
        by_cases hk0 : 0 < k
        · have d2 : decide ((0 : Int) < (k : Int)) = true := decide_eq_true (by omega)
          (repeat' (first | refine awp_seq ?_ | refine awp_block ?_ | refine awp_skip ?_ | refine awp_exit ?_ | ((first | refine rR (fun K kp hK hkp => ?_) | refine rD (id := 14) mixed 13 [0,1,2,3,4,5,6,7,8,9,10,11,12] (fun K kp hK hkp => ?_) | refine iG ?_ | refine iD ?_); simp (implicitDefEqProofs := false) (maxSteps := 2000000) (disch := omega) only [go_sem, eST, d2, hb0, hb1]; (repeat' (first | (refine hK _ ?_; clear hK hkp kp K) | (with_reducible refine And.intro ?_ ?_) | omega))) | ((first | refine aG (fun h => ?_) (fun h => ?_) | refine aD (fun h => ?_) (fun h => ?_) | refine aX (fun h => ?_) (fun h => ?_)) <;> simp only [h]) | refine awp_cond_t rfl ?_ | refine awp_cond_f rfl ?_ | ((refine awp_cond rfl (fun h => ?_) (fun h => ?_) <;> try simp only [ifs] at h) <;> (try (exfalso; omega))) | refine awp_ret ?_))
          (refine retA_is (by (simp (implicitDefEqProofs := false) (maxSteps := 2000000) (disch := omega) only [go_sem, Go.Proofs.Tryz.results77, hno]); rfl) ?_; refine eN hE ?_; simp [oneA, ren, renL, hno])
        · have d2 : decide ((0 : Int) < (k : Int)) = false := decide_eq_false (by omega)
          (repeat' (first | refine awp_seq ?_ | refine awp_block ?_ | refine awp_skip ?_ | refine awp_exit ?_ | ((first | refine rR (fun K kp hK hkp => ?_) | refine rD (id := 14) mixed 13 [0,1,2,3,4,5,6,7,8,9,10,11,12] (fun K kp hK hkp => ?_) | refine iG ?_ | refine iD ?_); simp (implicitDefEqProofs := false) (maxSteps := 2000000) (disch := omega) only [go_sem, eST, d2, hb0, hb1]; (repeat' (first | (refine hK _ ?_; clear hK hkp kp K) | (with_reducible refine And.intro ?_ ?_) | omega))) | ((first | refine aG (fun h => ?_) (fun h => ?_) | refine aD (fun h => ?_) (fun h => ?_) | refine aX (fun h => ?_) (fun h => ?_)) <;> simp only [h]) | refine awp_cond_t rfl ?_ | refine awp_cond_f rfl ?_ | ((refine awp_cond rfl (fun h => ?_) (fun h => ?_) <;> try simp only [ifs] at h) <;> (try (exfalso; omega))) | refine awp_ret ?_))
          (refine retA_is (by (simp (implicitDefEqProofs := false) (maxSteps := 2000000) (disch := omega) only [go_sem, Go.Proofs.Tryz.results77, hno]); rfl) ?_; refine eN hE ?_; simp [oneA, ren, renL, hno])
      · rw [if_neg hck] at hno
        rw [in_yes (by omega) (by omega)] at jc
        (repeat' (first | refine awp_seq ?_ | refine awp_block ?_ | refine awp_skip ?_ | refine awp_exit ?_ | ((first | refine rR (fun K kp hK hkp => ?_) | refine rD (id := 14) mixed 13 [0,1,2,3,4,5,6,7,8,9,10,11,12] (fun K kp hK hkp => ?_) | refine cR nc ?_ | refine cD nc ?_ | refine cR jc ?_ | refine cD jc ?_ | refine iG ?_ | refine iD ?_); simp (implicitDefEqProofs := false) (maxSteps := 2000000) (disch := omega) only [go_sem, eST, hx, eC]; (repeat' (first | (refine hK _ ?_; clear hK hkp kp K) | (with_reducible refine And.intro ?_ ?_) | omega))) | ((first | refine aG (fun h => ?_) (fun h => ?_) | refine aD (fun h => ?_) (fun h => ?_) | refine aX (fun h => ?_) (fun h => ?_)) <;> simp only [h]) | refine awp_cond_t rfl ?_ | refine awp_cond_f rfl ?_ | ((refine awp_cond rfl (fun h => ?_) (fun h => ?_) <;> try simp only [ifs] at h) <;> (try (exfalso; omega))) | refine awp_ret ?_))
        refine awp_loop (fun q : Nat × Bool => ⟨[(5, .r (.int .i64 q.1)), (4, .r (.int .i64 (if q.2 = true then 9 else 0))), (3, .r (.int .i64 k)), (1, .p 0 0 0), (13, .r (.int .i64 1))], [(0, .box 71 (eST s))], 1⟩)
          (fun q => q.1 ≤ k ∧ q.2 = (s.cols.take q.1).any (sameN c)) (fun q => k - q.1) (0, false) ?_ ?_ ?_
        · simp
        · (refine emb [0] ?_ ?_ rfl ?_ ?_ ?_ ?_ <;> simp [okM, okO, lk, ren, renL, renNd, by_, hE, eST] <;> (try omega))
        rintro ⟨j, f⟩ ⟨hj, hf⟩
        simp only at hj hf ⊢
        cases f
        · by_cases hjk : j < k
          · obtain ⟨x, hxj⟩ : ∃ x, s.cols[j]? = some x := ⟨s.cols[j]'(by omega), by simp⟩
            have d2 : decide ((j : Int) < (k : Int)) = true := decide_eq_true (by omega)
            have ha : (s.cols.take (j + 1)).any (sameN c) = sameN c x := by rw [List.take_add_one, hxj, List.any_append, ← hf]; simp
            cases hsm : (x.nm.toList == c.nm.toList)
            · (repeat' (first | refine awp_seq ?_ | refine awp_block ?_ | refine awp_skip ?_ | refine awp_exit ?_ | ((first | refine rR (fun K kp hK hkp => ?_) | refine rD (id := 14) mixed 13 [0,1,2,3,4,5,6,7,8,9,10,11,12] (fun K kp hK hkp => ?_) | refine iG ?_ | refine iD ?_); simp (implicitDefEqProofs := false) (maxSteps := 2000000) (disch := omega) only [go_sem, eST, hx, hxj, eC, d2, hsm]; (repeat' (first | (refine hK _ ?_; clear hK hkp kp K) | (with_reducible refine And.intro ?_ ?_) | omega))) | ((first | refine aG (fun h => ?_) (fun h => ?_) | refine aD (fun h => ?_) (fun h => ?_) | refine aX (fun h => ?_) (fun h => ?_)) <;> simp only [h]) | refine awp_cond_t rfl ?_ | refine awp_cond_f rfl ?_ | ((refine awp_cond rfl (fun h => ?_) (fun h => ?_) <;> try simp only [ifs] at h) <;> (try (exfalso; omega))) | refine awp_ret ?_))
              ((first | (refine nextB ((j + 1, false)) ?_ ?_ ?_) | (refine nextA ((j + 1, false)) ?_ ?_ ?_)); rotate_left; (· (try dsimp only); (first | omega | (simp only [List.length_drop, List.length_cons, List.length_append]; omega) | (simp; done) | (simp; omega))); (· (refine emb [0] ?_ ?_ rfl ?_ ?_ ?_ ?_ <;> simp [okM, okO, lk, ren, renL, renNd, by_, hE, eST] <;> (try omega))))
              exact ⟨by omega, by rw [ha]; exact hsm.symm⟩
            · (repeat' (first | refine awp_seq ?_ | refine awp_block ?_ | refine awp_skip ?_ | refine awp_exit ?_ | ((first | refine rR (fun K kp hK hkp => ?_) | refine rD (id := 14) mixed 13 [0,1,2,3,4,5,6,7,8,9,10,11,12] (fun K kp hK hkp => ?_) | refine iG ?_ | refine iD ?_); simp (implicitDefEqProofs := false) (maxSteps := 2000000) (disch := omega) only [go_sem, eST, hx, hxj, eC, d2, hsm]; (repeat' (first | (refine hK _ ?_; clear hK hkp kp K) | (with_reducible refine And.intro ?_ ?_) | omega))) | ((first | refine aG (fun h => ?_) (fun h => ?_) | refine aD (fun h => ?_) (fun h => ?_) | refine aX (fun h => ?_) (fun h => ?_)) <;> simp only [h]) | refine awp_cond_t rfl ?_ | refine awp_cond_f rfl ?_ | ((refine awp_cond rfl (fun h => ?_) (fun h => ?_) <;> try simp only [ifs] at h) <;> (try (exfalso; omega))) | refine awp_ret ?_))
              ((first | (refine nextB ((j + 1, true)) ?_ ?_ ?_) | (refine nextA ((j + 1, true)) ?_ ?_ ?_)); rotate_left; (· (try dsimp only); (first | omega | (simp only [List.length_drop, List.length_cons, List.length_append]; omega) | (simp; done) | (simp; omega))); (· (refine emb [0] ?_ ?_ rfl ?_ ?_ ?_ ?_ <;> simp [okM, okO, lk, ren, renL, renNd, by_, hE, eST] <;> (try omega))))
              exact ⟨by omega, by rw [ha]; exact hsm.symm⟩
          · obtain rfl : j = k := by omega
            have d2 : decide ((j : Int) < (j : Int)) = false := decide_eq_false (by omega)
            (repeat' (first | refine awp_seq ?_ | refine awp_block ?_ | refine awp_skip ?_ | refine awp_exit ?_ | ((first | refine rR (fun K kp hK hkp => ?_) | refine rD (id := 14) mixed 13 [0,1,2,3,4,5,6,7,8,9,10,11,12] (fun K kp hK hkp => ?_) | refine iG ?_ | refine iD ?_); simp (implicitDefEqProofs := false) (maxSteps := 2000000) (disch := omega) only [go_sem, eST, d2]; (repeat' (first | (refine hK _ ?_; clear hK hkp kp K) | (with_reducible refine And.intro ?_ ?_) | omega))) | ((first | refine aG (fun h => ?_) (fun h => ?_) | refine aD (fun h => ?_) (fun h => ?_) | refine aX (fun h => ?_) (fun h => ?_)) <;> simp only [h]) | refine awp_cond_t rfl ?_ | refine awp_cond_f rfl ?_ | ((refine awp_cond rfl (fun h => ?_) (fun h => ?_) <;> try simp only [ifs] at h) <;> (try (exfalso; omega))) | refine awp_ret ?_))
            ((first | (refine nextB (j + 1) ?_ ?_ ?_) | (refine nextA (j + 1) ?_ ?_ ?_)); rotate_left; (· (try dsimp only); (first | omega | (simp only [List.length_drop, List.length_cons, List.length_append]; omega) | (simp; done) | (simp; omega))); (· (refine emb [0] ?_ ?_ rfl ?_ ?_ ?_ ?_ <;> simp [okM, okO, lk, ren, renL, renNd, by_, hE, eST] <;> (try omega))))
            exact ⟨by omega, by rw [← hno, ← hf]; rfl⟩
        · have hno9 : 9 = colsFrom [] s.cols := by
            rw [← hno, if_pos]
            have h1 : s.cols.take j = (s.cols.take k).take j := by rw [List.take_take, Nat.min_eq_left hj]
            rw [h1] at hf
            obtain ⟨y, hy, hp⟩ := List.any_eq_true.1 hf.symm
            exact List.any_eq_true.2 ⟨y, List.mem_of_mem_take hy, hp⟩
          by_cases hjk : j < k
          · have d2 : decide ((j : Int) < (k : Int)) = true := decide_eq_true (by omega)
            (repeat' (first | refine awp_seq ?_ | refine awp_block ?_ | refine awp_skip ?_ | refine awp_exit ?_ | ((first | refine rR (fun K kp hK hkp => ?_) | refine rD (id := 14) mixed 13 [0,1,2,3,4,5,6,7,8,9,10,11,12] (fun K kp hK hkp => ?_) | refine iG ?_ | refine iD ?_); simp (implicitDefEqProofs := false) (maxSteps := 2000000) (disch := omega) only [go_sem, eST, d2]; (repeat' (first | (refine hK _ ?_; clear hK hkp kp K) | (with_reducible refine And.intro ?_ ?_) | omega))) | ((first | refine aG (fun h => ?_) (fun h => ?_) | refine aD (fun h => ?_) (fun h => ?_) | refine aX (fun h => ?_) (fun h => ?_)) <;> simp only [h]) | refine awp_cond_t rfl ?_ | refine awp_cond_f rfl ?_ | ((refine awp_cond rfl (fun h => ?_) (fun h => ?_) <;> try simp only [ifs] at h) <;> (try (exfalso; omega))) | refine awp_ret ?_))
            (refine retA_is (by (simp (implicitDefEqProofs := false) (maxSteps := 2000000) (disch := omega) only [go_sem, Go.Proofs.Tryz.results77, ← hno9]); rfl) ?_; refine eN hE ?_; simp [oneA, ren, renL, ← hno9])
          · have d2 : decide ((j : Int) < (k : Int)) = false := decide_eq_false (by omega)
            (repeat' (first | refine awp_seq ?_ | refine awp_block ?_ | refine awp_skip ?_ | refine awp_exit ?_ | ((first | refine rR (fun K kp hK hkp => ?_) | refine rD (id := 14) mixed 13 [0,1,2,3,4,5,6,7,8,9,10,11,12] (fun K kp hK hkp => ?_) | refine iG ?_ | refine iD ?_); simp (implicitDefEqProofs := false) (maxSteps := 2000000) (disch := omega) only [go_sem, eST, d2]; (repeat' (first | (refine hK _ ?_; clear hK hkp kp K) | (with_reducible refine And.intro ?_ ?_) | omega))) | ((first | refine aG (fun h => ?_) (fun h => ?_) | refine aD (fun h => ?_) (fun h => ?_) | refine aX (fun h => ?_) (fun h => ?_)) <;> simp only [h]) | refine awp_cond_t rfl ?_ | refine awp_cond_f rfl ?_ | ((refine awp_cond rfl (fun h => ?_) (fun h => ?_) <;> try simp only [ifs] at h) <;> (try (exfalso; omega))) | refine awp_ret ?_))
            (refine retA_is (by (simp (implicitDefEqProofs := false) (maxSteps := 2000000) (disch := omega) only [go_sem, Go.Proofs.Tryz.results77, ← hno9]); rfl) ?_; refine eN hE ?_; simp [oneA, ren, renL, ← hno9])
    · rw [if_pos hn] at hno
      have b1 : (nameM c.nm == 0) = false := by simpa using hn
      (repeat' (first | refine awp_seq ?_ | refine awp_block ?_ | refine awp_skip ?_ | refine awp_exit ?_ | ((first | refine rR (fun K kp hK hkp => ?_) | refine rD (id := 14) mixed 13 [0,1,2,3,4,5,6,7,8,9,10,11,12] (fun K kp hK hkp => ?_) | refine cR nc ?_ | refine cD nc ?_ | refine iG ?_ | refine iD ?_); simp (implicitDefEqProofs := false) (maxSteps := 2000000) (disch := omega) only [go_sem, eST, hx, eC, b1]; (repeat' (first | (refine hK _ ?_; clear hK hkp kp K) | (with_reducible refine And.intro ?_ ?_) | omega))) | ((first | refine aG (fun h => ?_) (fun h => ?_) | refine aD (fun h => ?_) (fun h => ?_) | refine aX (fun h => ?_) (fun h => ?_)) <;> simp only [h]) | refine awp_cond_t rfl ?_ | refine awp_cond_f rfl ?_ | ((refine awp_cond rfl (fun h => ?_) (fun h => ?_) <;> try simp only [ifs] at h) <;> (try (exfalso; omega))) | refine awp_ret ?_))
      have hb0 : (nameM c.nm == 0) = false := by simpa using hn
      have hb1 : (nameM c.nm != 0) = true := by simpa using hn
      refine awp_loop (fun _ : Unit => ⟨[(5, .r (.int .i64 0)), (4, .r (.int .i64 (nameM c.nm))), (3, .r (.int .i64 k)), (1, .p 0 0 0), (13, .r (.int .i64 1))], [(0, .box 71 (eST s))], 1⟩) (fun _ => True) (fun _ => 0) () trivial ?_ ?_
      · (refine emb [0] ?_ ?_ rfl ?_ ?_ ?_ ?_ <;> simp [okM, okO, lk, ren, renL, renNd, by_, hE, eST] <;> (try omega))
      rintro ⟨⟩ _
      by_cases hk0 : 0 < k
      · have d2 : decide ((0 : Int) < (k : Int)) = true := decide_eq_true (by omega)
        (repeat' (first | refine awp_seq ?_ | refine awp_block ?_ | refine awp_skip ?_ | refine awp_exit ?_ | ((first | refine rR (fun K kp hK hkp => ?_) | refine rD (id := 14) mixed 13 [0,1,2,3,4,5,6,7,8,9,10,11,12] (fun K kp hK hkp => ?_) | refine iG ?_ | refine iD ?_); simp (implicitDefEqProofs := false) (maxSteps := 2000000) (disch := omega) only [go_sem, eST, d2, hb0, hb1]; (repeat' (first | (refine hK _ ?_; clear hK hkp kp K) | (with_reducible refine And.intro ?_ ?_) | omega))) | ((first | refine aG (fun h => ?_) (fun h => ?_) | refine aD (fun h => ?_) (fun h => ?_) | refine aX (fun h => ?_) (fun h => ?_)) <;> simp only [h]) | refine awp_cond_t rfl ?_ | refine awp_cond_f rfl ?_ | ((refine awp_cond rfl (fun h => ?_) (fun h => ?_) <;> try simp only [ifs] at h) <;> (try (exfalso; omega))) | refine awp_ret ?_))
        (refine retA_is (by (simp (implicitDefEqProofs := false) (maxSteps := 2000000) (disch := omega) only [go_sem, Go.Proofs.Tryz.results77, hno]); rfl) ?_; refine eN hE ?_; simp [oneA, ren, renL, hno])
      · have d2 : decide ((0 : Int) < (k : Int)) = false := decide_eq_false (by omega)
        (repeat' (first | refine awp_seq ?_ | refine awp_block ?_ | refine awp_skip ?_ | refine awp_exit ?_ | ((first | refine rR (fun K kp hK hkp => ?_) | refine rD (id := 14) mixed 13 [0,1,2,3,4,5,6,7,8,9,10,11,12] (fun K kp hK hkp => ?_) | refine iG ?_ | refine iD ?_); simp (implicitDefEqProofs := false) (maxSteps := 2000000) (disch := omega) only [go_sem, eST, d2, hb0, hb1]; (repeat' (first | (refine hK _ ?_; clear hK hkp kp K) | (with_reducible refine And.intro ?_ ?_) | omega))) | ((first | refine aG (fun h => ?_) (fun h => ?_) | refine aD (fun h => ?_) (fun h => ?_) | refine aX (fun h => ?_) (fun h => ?_)) <;> simp only [h]) | refine awp_cond_t rfl ?_ | refine awp_cond_f rfl ?_ | ((refine awp_cond rfl (fun h => ?_) (fun h => ?_) <;> try simp only [ifs] at h) <;> (try (exfalso; omega))) | refine awp_ret ?_))
        (refine retA_is (by (simp (implicitDefEqProofs := false) (maxSteps := 2000000) (disch := omega) only [go_sem, Go.Proofs.Tryz.results77, hno]); rfl) ?_; refine eN hE ?_; simp [oneA, ren, renL, hno])
  · have d1 : decide ((k : Int) < (s.cols.length : Int)) = false := decide_eq_false (by omega)
    (repeat' (first | refine awp_seq ?_ | refine awp_block ?_ | refine awp_skip ?_ | refine awp_exit ?_ | ((first | refine rR (fun K kp hK hkp => ?_) | refine rD (id := 14) mixed 13 [0,1,2,3,4,5,6,7,8,9,10,11,12] (fun K kp hK hkp => ?_) | refine iG ?_ | refine iD ?_); simp (implicitDefEqProofs := false) (maxSteps := 2000000) (disch := omega) only [go_sem, eST, d1]; (repeat' (first | (refine hK _ ?_; clear hK hkp kp K) | (with_reducible refine And.intro ?_ ?_) | omega))) | ((first | refine aG (fun h => ?_) (fun h => ?_) | refine aD (fun h => ?_) (fun h => ?_) | refine aX (fun h => ?_) (fun h => ?_)) <;> simp only [h]) | refine awp_cond_t rfl ?_ | refine awp_cond_f rfl ?_ | ((refine awp_cond rfl (fun h => ?_) (fun h => ?_) <;> try simp only [ifs] at h) <;> (try (exfalso; omega))) | refine awp_ret ?_))
    (refine retA_is (by (simp (implicitDefEqProofs := false) (maxSteps := 2000000) (disch := omega) only [go_sem, Go.Proofs.Tryz.results77]); rfl) ?_; refine eN hE ?_; simp [oneA, ren, renL])
    rw [← hno, List.drop_of_length_le (by omega)]; rfl
end Go.AM
/- Statements: names that may be; columns that may be. -/
namespace Go.AM
open Go Go.RowKit
open Go.Proofs.YtoecmmpjndcolaaGreatDoor (OP nameM litM exprM marksS wordsS StrsAt str SlAt letB wrdB digB bt tokM wordS hasS spanM)
theorem good_of_name {s : ByteArray} (h : nameM s = 0) : goodN s := by
  obtain ⟨l, rfl⟩ : ∃ l, s = str l := ⟨_, Go.Proofs.YtoecmmpjndcolaaGreatDoor.eq_str s⟩
  have hsz : (str l).size = l.length := str_size l
  unfold nameM at h
  split at h
  · cases h
  rename_i h8
  split at h
  · cases h
  rename_i h1
  have h2 : wordS (str l) = true := by
    cases hw : wordS (str l) with
    | true => rfl
    | false => exact (h1 (.inl (by simp [tokM, hw]))).elim
  simp only [wordS, Bool.and_eq_true, decide_eq_true_eq] at h2
  obtain ⟨⟨g1, g2⟩, g3⟩ := h2
  have hall := ((Go.Proofs.YtoecmmpjndcolaaGreatDoor.spanM_all wrdB (str l) (str l).size 0 (by omega) (by omega)).1.1 g3)
  refine ⟨by rw [Go.Proofs.YtoecmmpjndcolaaGreatDoor.mk_toList]; omega, ?_, ?_⟩
  · rw [Go.Proofs.YtoecmmpjndcolaaGreatDoor.mk_toList]
    match l, g2 with
    | [], g2 => rw [str_size] at g1; simp at g1
    | c :: r, g2 =>
      rw [Go.Proofs.YtoecmmpjndcolaaGreatDoor.bt_str] at g2
      exact ⟨c, r, rfl, by simpa using g2⟩
  · rw [Go.Proofs.YtoecmmpjndcolaaGreatDoor.mk_toList]
    rintro c hc rfl
    obtain ⟨j, hj⟩ := List.mem_iff_getElem?.1 hc
    have hjl := (List.getElem?_eq_some_iff.1 hj).1
    have := hall j (by omega) (by omega)
    rw [Go.Proofs.YtoecmmpjndcolaaGreatDoor.bt_str, hj] at this
    simp [wrdB, letB, digB] at this
theorem colsFrom_ok : ∀ (l p : List CO), colsFrom p l = 0 → ∀ c ∈ l, goodC c ∧ goodN c.nm
  | [], _, _ => by simp
  | c :: r, p, h => by
    unfold colsFrom at h
    split at h
    · rename_i hn; exact absurd h hn
    rename_i hn
    split at h
    · cases h
    rename_i hk
    split at h
    · cases h
    intro x hx
    rcases List.mem_cons.1 hx with rfl | hx
    · exact ⟨⟨by omega, by omega⟩, good_of_name (by simpa using hn)⟩
    · exact colsFrom_ok r _ h x hx
theorem colsM_ok {l : List CO} (h : colsM l = 0) : 1 ≤ l.length ∧ l.length ≤ 6 ∧ ∀ c ∈ l, goodC c ∧ goodN c.nm := by
  unfold colsM at h
  split at h
  · cases h
  · exact ⟨by omega, by omega, colsFrom_ok l [] h⟩
theorem commas_two : ∀ (l : List CO), (commas (l.map colT)).length ≤ 3 * l.length
  | [] => by simp [commas]
  | [a] => by simp [commas, colT]
  | a :: b :: r => by
    have := commas_two (b :: r)
    simp only [List.map_cons] at this ⊢
    rw [commas_cc]; simp [colT] at this ⊢; omega
/-- The statement that columns are checked by. -/
def s0 (l : List CO) : ST := ⟨1, str [116], l, [], [], false, [], str [], false, -1, str [], []⟩
theorem name_t : nameM (str [116]) = 0 := by
  have h1 : tokM 1 (str [116]) 0 = 0 := by
    have : wordS (str [116]) = true := by decide +kernel
    simp [tokM, this]
  have h2 : hasS wordsS (str [116]) = false := by
    simp only [hasS, wordsS, Go.Proofs.YtoecmmpjndcolaaGreatDoor.wordsL, List.map_cons, List.map_nil, List.any_cons, List.any_nil, Go.Proofs.YtoecmmpjndcolaaGreatDoor.mk_toList]
    decide +kernel
  rw [nameM, if_neg (by rw [str_size]; simp), if_neg (by rw [h1, h2]; simp)]
theorem create_len {l : List CO} (h : l.length ≤ 6) : (createT (s0 l)).length ≤ 100 := by
  have := commas_two l
  simp [createT, s0, listM]; omega
end Go.AM
/- Statements: what the program checks of them. -/
namespace Go.AM
open Go Go.RowKit
open Go.Proofs.YtoecmmpjndcolaaGreatDoor (OP nameM litM exprM marksS wordsS StrsAt str SlAt)
attribute [local irreducible] AWP retA
def emp (s : ByteArray) : Bool := s.toList == ByteArray.toList ⟨#[]⟩
def hasN (s : ST) : Bool := decide ((s.names.length : Int) > 0)
def pickM (s : ST) : Int :=
  if 6 < s.names.length then 1 else if s.lim < -1 then 3 else if (s.count && hasN s) || (s.down && emp s.ord) then 6
  else if namesM s.names ≠ 0 then namesM s.names else if whereM s.wh ≠ 0 then whereM s.wh else if emp s.ord then 0 else nameM s.ord
/-- What is asked of a statement's texts and lists: what all that come in have. -/
structure okST (s : ST) : Prop where
  tab : okS s.tab
  cols : ∀ c ∈ s.cols, okS c.nm
  row : ∀ v ∈ s.row, okS v.s
  names : ∀ n ∈ s.names, okS n
  wh : ∀ o ∈ s.wh, okO1 o
  ord : okS s.ord
  set : okS s.set
  to : ∀ o ∈ s.to, okO1 o
  lc : s.cols.length ≤ 1048576
  lr : s.row.length ≤ 1048576
  ln : s.names.length ≤ 1048576
  lw : s.wh.length ≤ 1048576
  lt : s.to.length ≤ 1048576

set_option maxRecDepth 100000 in
set_option maxHeartbeats 8000000 in
theorem pick_con {G : List (Nat × List Value)} (T : Tabs G) (s : ST) (o : okST s) : Con Go.Proofs.Tryz.prog G 89 [.agg (eST s)] [] 0 (Is (.r (.int .i64 (pickM s))) [] 0) No := by
  refine con_of_awp Go.Proofs.Tryz.func89 rfl (by kernel_rfl) (of_decide_eq_true (by kernel_rfl)) ?_; intro E hG hE; subst hG; simp only [ent]
  have nc := names_con T true s.names o.ln o.names
  have wc := where_con T true s.wh o.lw o.wh
  have oc := name_con T s.ord o.ord
  by_cases h6 : 6 < s.names.length
  · have d1 : decide ((s.names.length : Int) > 6) = true := decide_eq_true (by omega)
    (repeat' (first | refine awp_seq ?_ | refine awp_block ?_ | refine awp_skip ?_ | refine awp_exit ?_ | ((first | refine rR (fun K kp hK hkp => ?_) | refine iG ?_); simp (implicitDefEqProofs := false) (maxSteps := 2000000) (disch := omega) only [go_sem, eST, d1]; (repeat' (first | (refine hK _ ?_; clear hK hkp kp K) | (with_reducible refine And.intro ?_ ?_) | omega))) | ((first | refine aG (fun h => ?_) (fun h => ?_) | refine aD (fun h => ?_) (fun h => ?_) | refine aX (fun h => ?_) (fun h => ?_)) <;> simp only [h]) | refine awp_cond_t rfl ?_ | refine awp_cond_f rfl ?_ | ((refine awp_cond rfl (fun h => ?_) (fun h => ?_) <;> try simp only [ifs] at h) <;> (try (exfalso; omega))) | refine awp_ret ?_))
    (refine retA_is (by (simp (implicitDefEqProofs := false) (maxSteps := 2000000) (disch := omega) only [go_sem, Go.Proofs.Tryz.results89, pickM, h6]); rfl) ?_; refine eN hE ?_; simp [oneA, ren, renL, pickM, h6])
  have d1 : decide ((s.names.length : Int) > 6) = false := decide_eq_false (by omega)
  by_cases hl : s.lim < -1
  · have d2 : decide (s.lim < -1) = true := decide_eq_true hl
    (repeat' (first | refine awp_seq ?_ | refine awp_block ?_ | refine awp_skip ?_ | refine awp_exit ?_ | ((first | refine rR (fun K kp hK hkp => ?_) | refine iG ?_); simp (implicitDefEqProofs := false) (maxSteps := 2000000) (disch := omega) only [go_sem, eST, d1, d2]; (repeat' (first | (refine hK _ ?_; clear hK hkp kp K) | (with_reducible refine And.intro ?_ ?_) | omega))) | ((first | refine aG (fun h => ?_) (fun h => ?_) | refine aD (fun h => ?_) (fun h => ?_) | refine aX (fun h => ?_) (fun h => ?_)) <;> simp only [h]) | refine awp_cond_t rfl ?_ | refine awp_cond_f rfl ?_ | ((refine awp_cond rfl (fun h => ?_) (fun h => ?_) <;> try simp only [ifs] at h) <;> (try (exfalso; omega))) | refine awp_ret ?_))
    (refine retA_is (by (simp (implicitDefEqProofs := false) (maxSteps := 2000000) (disch := omega) only [go_sem, Go.Proofs.Tryz.results89, pickM, h6, hl]); rfl) ?_; refine eN hE ?_; simp [oneA, ren, renL, pickM, h6, hl])
  have d2 : decide (s.lim < -1) = false := decide_eq_false hl
  cases hc : s.count
  · skip
    cases hd : s.down
    · skip
      by_cases n0 : namesM s.names = 0
      · rw [n0] at nc
        by_cases w0 : whereM s.wh = 0
        · rw [w0] at wc
          cases ho2 : emp s.ord
          · have e2 : (s.ord.toList == ByteArray.toList ⟨#[]⟩) = false := ho2
            (repeat' (first | refine awp_seq ?_ | refine awp_block ?_ | refine awp_skip ?_ | refine awp_exit ?_ | ((first | refine rR (fun K kp hK hkp => ?_) | refine cR nc ?_ | refine cR wc ?_ | refine cR oc ?_ | refine iG ?_); simp (implicitDefEqProofs := false) (maxSteps := 2000000) (disch := omega) only [go_sem, eST, d1, d2, hc, hd, e2]; (repeat' (first | (refine hK _ ?_; clear hK hkp kp K) | (with_reducible refine And.intro ?_ ?_) | omega))) | ((first | refine aG (fun h => ?_) (fun h => ?_) | refine aD (fun h => ?_) (fun h => ?_) | refine aX (fun h => ?_) (fun h => ?_)) <;> simp only [h]) | refine awp_cond_t rfl ?_ | refine awp_cond_f rfl ?_ | ((refine awp_cond rfl (fun h => ?_) (fun h => ?_) <;> try simp only [ifs] at h) <;> (try (exfalso; omega))) | refine awp_ret ?_))
            (refine retA_is (by (simp (implicitDefEqProofs := false) (maxSteps := 2000000) (disch := omega) only [go_sem, Go.Proofs.Tryz.results89, pickM, h6, hl, n0, w0, ho2, hc, hd]); rfl) ?_; refine eN hE ?_; simp [oneA, ren, renL, pickM, h6, hl, n0, w0, ho2, hc, hd])
          · have e2 : (s.ord.toList == ByteArray.toList ⟨#[]⟩) = true := ho2
            first
              | (exfalso; simp_all; done)
              | ((repeat' (first | refine awp_seq ?_ | refine awp_block ?_ | refine awp_skip ?_ | refine awp_exit ?_ | ((first | refine rR (fun K kp hK hkp => ?_) | refine cR nc ?_ | refine cR wc ?_ | refine cR oc ?_ | refine iG ?_); simp (implicitDefEqProofs := false) (maxSteps := 2000000) (disch := omega) only [go_sem, eST, d1, d2, hc, hd, e2]; (repeat' (first | (refine hK _ ?_; clear hK hkp kp K) | (with_reducible refine And.intro ?_ ?_) | omega))) | ((first | refine aG (fun h => ?_) (fun h => ?_) | refine aD (fun h => ?_) (fun h => ?_) | refine aX (fun h => ?_) (fun h => ?_)) <;> simp only [h]) | refine awp_cond_t rfl ?_ | refine awp_cond_f rfl ?_ | ((refine awp_cond rfl (fun h => ?_) (fun h => ?_) <;> try simp only [ifs] at h) <;> (try (exfalso; omega))) | refine awp_ret ?_)); (refine retA_is (by (simp (implicitDefEqProofs := false) (maxSteps := 2000000) (disch := omega) only [go_sem, Go.Proofs.Tryz.results89, pickM, h6, hl, n0, w0, ho2, hc, hd]); rfl) ?_; refine eN hE ?_; simp [oneA, ren, renL, pickM, h6, hl, n0, w0, ho2, hc, hd]))
        · have b2 : (whereM s.wh != 0) = true := by simpa using w0
          (repeat' (first | refine awp_seq ?_ | refine awp_block ?_ | refine awp_skip ?_ | refine awp_exit ?_ | ((first | refine rR (fun K kp hK hkp => ?_) | refine cR nc ?_ | refine cR wc ?_ | refine iG ?_); simp (implicitDefEqProofs := false) (maxSteps := 2000000) (disch := omega) only [go_sem, eST, d1, d2, hc, hd, b2]; (repeat' (first | (refine hK _ ?_; clear hK hkp kp K) | (with_reducible refine And.intro ?_ ?_) | omega))) | ((first | refine aG (fun h => ?_) (fun h => ?_) | refine aD (fun h => ?_) (fun h => ?_) | refine aX (fun h => ?_) (fun h => ?_)) <;> simp only [h]) | refine awp_cond_t rfl ?_ | refine awp_cond_f rfl ?_ | ((refine awp_cond rfl (fun h => ?_) (fun h => ?_) <;> try simp only [ifs] at h) <;> (try (exfalso; omega))) | refine awp_ret ?_))
          (refine retA_is (by (simp (implicitDefEqProofs := false) (maxSteps := 2000000) (disch := omega) only [go_sem, Go.Proofs.Tryz.results89, pickM, h6, hl, n0, w0, hc, hd]); rfl) ?_; refine eN hE ?_; simp [oneA, ren, renL, pickM, h6, hl, n0, w0, hc, hd])
      · have b1 : (namesM s.names != 0) = true := by simpa using n0
        (repeat' (first | refine awp_seq ?_ | refine awp_block ?_ | refine awp_skip ?_ | refine awp_exit ?_ | ((first | refine rR (fun K kp hK hkp => ?_) | refine cR nc ?_ | refine iG ?_); simp (implicitDefEqProofs := false) (maxSteps := 2000000) (disch := omega) only [go_sem, eST, d1, d2, hc, hd, b1]; (repeat' (first | (refine hK _ ?_; clear hK hkp kp K) | (with_reducible refine And.intro ?_ ?_) | omega))) | ((first | refine aG (fun h => ?_) (fun h => ?_) | refine aD (fun h => ?_) (fun h => ?_) | refine aX (fun h => ?_) (fun h => ?_)) <;> simp only [h]) | refine awp_cond_t rfl ?_ | refine awp_cond_f rfl ?_ | ((refine awp_cond rfl (fun h => ?_) (fun h => ?_) <;> try simp only [ifs] at h) <;> (try (exfalso; omega))) | refine awp_ret ?_))
        (refine retA_is (by (simp (implicitDefEqProofs := false) (maxSteps := 2000000) (disch := omega) only [go_sem, Go.Proofs.Tryz.results89, pickM, h6, hl, n0, hc, hd]); rfl) ?_; refine eN hE ?_; simp [oneA, ren, renL, pickM, h6, hl, n0, hc, hd])
    cases ho : emp s.ord
    · have eo : (s.ord.toList == ByteArray.toList ⟨#[]⟩) = false := ho
      by_cases n0 : namesM s.names = 0
      · rw [n0] at nc
        by_cases w0 : whereM s.wh = 0
        · rw [w0] at wc
          cases ho2 : emp s.ord
          · have e2 : (s.ord.toList == ByteArray.toList ⟨#[]⟩) = false := ho2
            (repeat' (first | refine awp_seq ?_ | refine awp_block ?_ | refine awp_skip ?_ | refine awp_exit ?_ | ((first | refine rR (fun K kp hK hkp => ?_) | refine cR nc ?_ | refine cR wc ?_ | refine cR oc ?_ | refine iG ?_); simp (implicitDefEqProofs := false) (maxSteps := 2000000) (disch := omega) only [go_sem, eST, d1, d2, hc, hd, eo, e2]; (repeat' (first | (refine hK _ ?_; clear hK hkp kp K) | (with_reducible refine And.intro ?_ ?_) | omega))) | ((first | refine aG (fun h => ?_) (fun h => ?_) | refine aD (fun h => ?_) (fun h => ?_) | refine aX (fun h => ?_) (fun h => ?_)) <;> simp only [h]) | refine awp_cond_t rfl ?_ | refine awp_cond_f rfl ?_ | ((refine awp_cond rfl (fun h => ?_) (fun h => ?_) <;> try simp only [ifs] at h) <;> (try (exfalso; omega))) | refine awp_ret ?_))
            (refine retA_is (by (simp (implicitDefEqProofs := false) (maxSteps := 2000000) (disch := omega) only [go_sem, Go.Proofs.Tryz.results89, pickM, h6, hl, n0, w0, ho2, hc, hd, ho]); rfl) ?_; refine eN hE ?_; simp [oneA, ren, renL, pickM, h6, hl, n0, w0, ho2, hc, hd, ho])
          · have e2 : (s.ord.toList == ByteArray.toList ⟨#[]⟩) = true := ho2
            first
              | (exfalso; simp_all; done)
              | ((repeat' (first | refine awp_seq ?_ | refine awp_block ?_ | refine awp_skip ?_ | refine awp_exit ?_ | ((first | refine rR (fun K kp hK hkp => ?_) | refine cR nc ?_ | refine cR wc ?_ | refine cR oc ?_ | refine iG ?_); simp (implicitDefEqProofs := false) (maxSteps := 2000000) (disch := omega) only [go_sem, eST, d1, d2, hc, hd, eo, e2]; (repeat' (first | (refine hK _ ?_; clear hK hkp kp K) | (with_reducible refine And.intro ?_ ?_) | omega))) | ((first | refine aG (fun h => ?_) (fun h => ?_) | refine aD (fun h => ?_) (fun h => ?_) | refine aX (fun h => ?_) (fun h => ?_)) <;> simp only [h]) | refine awp_cond_t rfl ?_ | refine awp_cond_f rfl ?_ | ((refine awp_cond rfl (fun h => ?_) (fun h => ?_) <;> try simp only [ifs] at h) <;> (try (exfalso; omega))) | refine awp_ret ?_)); (refine retA_is (by (simp (implicitDefEqProofs := false) (maxSteps := 2000000) (disch := omega) only [go_sem, Go.Proofs.Tryz.results89, pickM, h6, hl, n0, w0, ho2, hc, hd, ho]); rfl) ?_; refine eN hE ?_; simp [oneA, ren, renL, pickM, h6, hl, n0, w0, ho2, hc, hd, ho]))
        · have b2 : (whereM s.wh != 0) = true := by simpa using w0
          (repeat' (first | refine awp_seq ?_ | refine awp_block ?_ | refine awp_skip ?_ | refine awp_exit ?_ | ((first | refine rR (fun K kp hK hkp => ?_) | refine cR nc ?_ | refine cR wc ?_ | refine iG ?_); simp (implicitDefEqProofs := false) (maxSteps := 2000000) (disch := omega) only [go_sem, eST, d1, d2, hc, hd, eo, b2]; (repeat' (first | (refine hK _ ?_; clear hK hkp kp K) | (with_reducible refine And.intro ?_ ?_) | omega))) | ((first | refine aG (fun h => ?_) (fun h => ?_) | refine aD (fun h => ?_) (fun h => ?_) | refine aX (fun h => ?_) (fun h => ?_)) <;> simp only [h]) | refine awp_cond_t rfl ?_ | refine awp_cond_f rfl ?_ | ((refine awp_cond rfl (fun h => ?_) (fun h => ?_) <;> try simp only [ifs] at h) <;> (try (exfalso; omega))) | refine awp_ret ?_))
          (refine retA_is (by (simp (implicitDefEqProofs := false) (maxSteps := 2000000) (disch := omega) only [go_sem, Go.Proofs.Tryz.results89, pickM, h6, hl, n0, w0, hc, hd, ho]); rfl) ?_; refine eN hE ?_; simp [oneA, ren, renL, pickM, h6, hl, n0, w0, hc, hd, ho])
      · have b1 : (namesM s.names != 0) = true := by simpa using n0
        (repeat' (first | refine awp_seq ?_ | refine awp_block ?_ | refine awp_skip ?_ | refine awp_exit ?_ | ((first | refine rR (fun K kp hK hkp => ?_) | refine cR nc ?_ | refine iG ?_); simp (implicitDefEqProofs := false) (maxSteps := 2000000) (disch := omega) only [go_sem, eST, d1, d2, hc, hd, eo, b1]; (repeat' (first | (refine hK _ ?_; clear hK hkp kp K) | (with_reducible refine And.intro ?_ ?_) | omega))) | ((first | refine aG (fun h => ?_) (fun h => ?_) | refine aD (fun h => ?_) (fun h => ?_) | refine aX (fun h => ?_) (fun h => ?_)) <;> simp only [h]) | refine awp_cond_t rfl ?_ | refine awp_cond_f rfl ?_ | ((refine awp_cond rfl (fun h => ?_) (fun h => ?_) <;> try simp only [ifs] at h) <;> (try (exfalso; omega))) | refine awp_ret ?_))
        (refine retA_is (by (simp (implicitDefEqProofs := false) (maxSteps := 2000000) (disch := omega) only [go_sem, Go.Proofs.Tryz.results89, pickM, h6, hl, n0, hc, hd, ho]); rfl) ?_; refine eN hE ?_; simp [oneA, ren, renL, pickM, h6, hl, n0, hc, hd, ho])
    · have eo : (s.ord.toList == ByteArray.toList ⟨#[]⟩) = true := ho
      (repeat' (first | refine awp_seq ?_ | refine awp_block ?_ | refine awp_skip ?_ | refine awp_exit ?_ | ((first | refine rR (fun K kp hK hkp => ?_) | refine iG ?_); simp (implicitDefEqProofs := false) (maxSteps := 2000000) (disch := omega) only [go_sem, eST, d1, d2, hc, hd, eo]; (repeat' (first | (refine hK _ ?_; clear hK hkp kp K) | (with_reducible refine And.intro ?_ ?_) | omega))) | ((first | refine aG (fun h => ?_) (fun h => ?_) | refine aD (fun h => ?_) (fun h => ?_) | refine aX (fun h => ?_) (fun h => ?_)) <;> simp only [h]) | refine awp_cond_t rfl ?_ | refine awp_cond_f rfl ?_ | ((refine awp_cond rfl (fun h => ?_) (fun h => ?_) <;> try simp only [ifs] at h) <;> (try (exfalso; omega))) | refine awp_ret ?_))
      (refine retA_is (by (simp (implicitDefEqProofs := false) (maxSteps := 2000000) (disch := omega) only [go_sem, Go.Proofs.Tryz.results89, pickM, h6, hl, hc, hd, ho]); rfl) ?_; refine eN hE ?_; simp [oneA, ren, renL, pickM, h6, hl, hc, hd, ho])
  cases hn : hasN s
  · have en : decide ((s.names.length : Int) > 0) = false := hn
    cases hd : s.down
    · skip
      by_cases n0 : namesM s.names = 0
      · rw [n0] at nc
        by_cases w0 : whereM s.wh = 0
        · rw [w0] at wc
          cases ho2 : emp s.ord
          · have e2 : (s.ord.toList == ByteArray.toList ⟨#[]⟩) = false := ho2
            (repeat' (first | refine awp_seq ?_ | refine awp_block ?_ | refine awp_skip ?_ | refine awp_exit ?_ | ((first | refine rR (fun K kp hK hkp => ?_) | refine cR nc ?_ | refine cR wc ?_ | refine cR oc ?_ | refine iG ?_); simp (implicitDefEqProofs := false) (maxSteps := 2000000) (disch := omega) only [go_sem, eST, d1, d2, hc, en, hd, e2]; (repeat' (first | (refine hK _ ?_; clear hK hkp kp K) | (with_reducible refine And.intro ?_ ?_) | omega))) | ((first | refine aG (fun h => ?_) (fun h => ?_) | refine aD (fun h => ?_) (fun h => ?_) | refine aX (fun h => ?_) (fun h => ?_)) <;> simp only [h]) | refine awp_cond_t rfl ?_ | refine awp_cond_f rfl ?_ | ((refine awp_cond rfl (fun h => ?_) (fun h => ?_) <;> try simp only [ifs] at h) <;> (try (exfalso; omega))) | refine awp_ret ?_))
            (refine retA_is (by (simp (implicitDefEqProofs := false) (maxSteps := 2000000) (disch := omega) only [go_sem, Go.Proofs.Tryz.results89, pickM, h6, hl, n0, w0, ho2, hc, hn, hd]); rfl) ?_; refine eN hE ?_; simp [oneA, ren, renL, pickM, h6, hl, n0, w0, ho2, hc, hn, hd])
          · have e2 : (s.ord.toList == ByteArray.toList ⟨#[]⟩) = true := ho2
            first
              | (exfalso; simp_all; done)
              | ((repeat' (first | refine awp_seq ?_ | refine awp_block ?_ | refine awp_skip ?_ | refine awp_exit ?_ | ((first | refine rR (fun K kp hK hkp => ?_) | refine cR nc ?_ | refine cR wc ?_ | refine cR oc ?_ | refine iG ?_); simp (implicitDefEqProofs := false) (maxSteps := 2000000) (disch := omega) only [go_sem, eST, d1, d2, hc, en, hd, e2]; (repeat' (first | (refine hK _ ?_; clear hK hkp kp K) | (with_reducible refine And.intro ?_ ?_) | omega))) | ((first | refine aG (fun h => ?_) (fun h => ?_) | refine aD (fun h => ?_) (fun h => ?_) | refine aX (fun h => ?_) (fun h => ?_)) <;> simp only [h]) | refine awp_cond_t rfl ?_ | refine awp_cond_f rfl ?_ | ((refine awp_cond rfl (fun h => ?_) (fun h => ?_) <;> try simp only [ifs] at h) <;> (try (exfalso; omega))) | refine awp_ret ?_)); (refine retA_is (by (simp (implicitDefEqProofs := false) (maxSteps := 2000000) (disch := omega) only [go_sem, Go.Proofs.Tryz.results89, pickM, h6, hl, n0, w0, ho2, hc, hn, hd]); rfl) ?_; refine eN hE ?_; simp [oneA, ren, renL, pickM, h6, hl, n0, w0, ho2, hc, hn, hd]))
        · have b2 : (whereM s.wh != 0) = true := by simpa using w0
          (repeat' (first | refine awp_seq ?_ | refine awp_block ?_ | refine awp_skip ?_ | refine awp_exit ?_ | ((first | refine rR (fun K kp hK hkp => ?_) | refine cR nc ?_ | refine cR wc ?_ | refine iG ?_); simp (implicitDefEqProofs := false) (maxSteps := 2000000) (disch := omega) only [go_sem, eST, d1, d2, hc, en, hd, b2]; (repeat' (first | (refine hK _ ?_; clear hK hkp kp K) | (with_reducible refine And.intro ?_ ?_) | omega))) | ((first | refine aG (fun h => ?_) (fun h => ?_) | refine aD (fun h => ?_) (fun h => ?_) | refine aX (fun h => ?_) (fun h => ?_)) <;> simp only [h]) | refine awp_cond_t rfl ?_ | refine awp_cond_f rfl ?_ | ((refine awp_cond rfl (fun h => ?_) (fun h => ?_) <;> try simp only [ifs] at h) <;> (try (exfalso; omega))) | refine awp_ret ?_))
          (refine retA_is (by (simp (implicitDefEqProofs := false) (maxSteps := 2000000) (disch := omega) only [go_sem, Go.Proofs.Tryz.results89, pickM, h6, hl, n0, w0, hc, hn, hd]); rfl) ?_; refine eN hE ?_; simp [oneA, ren, renL, pickM, h6, hl, n0, w0, hc, hn, hd])
      · have b1 : (namesM s.names != 0) = true := by simpa using n0
        (repeat' (first | refine awp_seq ?_ | refine awp_block ?_ | refine awp_skip ?_ | refine awp_exit ?_ | ((first | refine rR (fun K kp hK hkp => ?_) | refine cR nc ?_ | refine iG ?_); simp (implicitDefEqProofs := false) (maxSteps := 2000000) (disch := omega) only [go_sem, eST, d1, d2, hc, en, hd, b1]; (repeat' (first | (refine hK _ ?_; clear hK hkp kp K) | (with_reducible refine And.intro ?_ ?_) | omega))) | ((first | refine aG (fun h => ?_) (fun h => ?_) | refine aD (fun h => ?_) (fun h => ?_) | refine aX (fun h => ?_) (fun h => ?_)) <;> simp only [h]) | refine awp_cond_t rfl ?_ | refine awp_cond_f rfl ?_ | ((refine awp_cond rfl (fun h => ?_) (fun h => ?_) <;> try simp only [ifs] at h) <;> (try (exfalso; omega))) | refine awp_ret ?_))
        (refine retA_is (by (simp (implicitDefEqProofs := false) (maxSteps := 2000000) (disch := omega) only [go_sem, Go.Proofs.Tryz.results89, pickM, h6, hl, n0, hc, hn, hd]); rfl) ?_; refine eN hE ?_; simp [oneA, ren, renL, pickM, h6, hl, n0, hc, hn, hd])
    cases ho : emp s.ord
    · have eo : (s.ord.toList == ByteArray.toList ⟨#[]⟩) = false := ho
      by_cases n0 : namesM s.names = 0
      · rw [n0] at nc
        by_cases w0 : whereM s.wh = 0
        · rw [w0] at wc
          cases ho2 : emp s.ord
          · have e2 : (s.ord.toList == ByteArray.toList ⟨#[]⟩) = false := ho2
            (repeat' (first | refine awp_seq ?_ | refine awp_block ?_ | refine awp_skip ?_ | refine awp_exit ?_ | ((first | refine rR (fun K kp hK hkp => ?_) | refine cR nc ?_ | refine cR wc ?_ | refine cR oc ?_ | refine iG ?_); simp (implicitDefEqProofs := false) (maxSteps := 2000000) (disch := omega) only [go_sem, eST, d1, d2, hc, en, hd, eo, e2]; (repeat' (first | (refine hK _ ?_; clear hK hkp kp K) | (with_reducible refine And.intro ?_ ?_) | omega))) | ((first | refine aG (fun h => ?_) (fun h => ?_) | refine aD (fun h => ?_) (fun h => ?_) | refine aX (fun h => ?_) (fun h => ?_)) <;> simp only [h]) | refine awp_cond_t rfl ?_ | refine awp_cond_f rfl ?_ | ((refine awp_cond rfl (fun h => ?_) (fun h => ?_) <;> try simp only [ifs] at h) <;> (try (exfalso; omega))) | refine awp_ret ?_))
            (refine retA_is (by (simp (implicitDefEqProofs := false) (maxSteps := 2000000) (disch := omega) only [go_sem, Go.Proofs.Tryz.results89, pickM, h6, hl, n0, w0, ho2, hc, hn, hd, ho]); rfl) ?_; refine eN hE ?_; simp [oneA, ren, renL, pickM, h6, hl, n0, w0, ho2, hc, hn, hd, ho])
          · have e2 : (s.ord.toList == ByteArray.toList ⟨#[]⟩) = true := ho2
            first
              | (exfalso; simp_all; done)
              | ((repeat' (first | refine awp_seq ?_ | refine awp_block ?_ | refine awp_skip ?_ | refine awp_exit ?_ | ((first | refine rR (fun K kp hK hkp => ?_) | refine cR nc ?_ | refine cR wc ?_ | refine cR oc ?_ | refine iG ?_); simp (implicitDefEqProofs := false) (maxSteps := 2000000) (disch := omega) only [go_sem, eST, d1, d2, hc, en, hd, eo, e2]; (repeat' (first | (refine hK _ ?_; clear hK hkp kp K) | (with_reducible refine And.intro ?_ ?_) | omega))) | ((first | refine aG (fun h => ?_) (fun h => ?_) | refine aD (fun h => ?_) (fun h => ?_) | refine aX (fun h => ?_) (fun h => ?_)) <;> simp only [h]) | refine awp_cond_t rfl ?_ | refine awp_cond_f rfl ?_ | ((refine awp_cond rfl (fun h => ?_) (fun h => ?_) <;> try simp only [ifs] at h) <;> (try (exfalso; omega))) | refine awp_ret ?_)); (refine retA_is (by (simp (implicitDefEqProofs := false) (maxSteps := 2000000) (disch := omega) only [go_sem, Go.Proofs.Tryz.results89, pickM, h6, hl, n0, w0, ho2, hc, hn, hd, ho]); rfl) ?_; refine eN hE ?_; simp [oneA, ren, renL, pickM, h6, hl, n0, w0, ho2, hc, hn, hd, ho]))
        · have b2 : (whereM s.wh != 0) = true := by simpa using w0
          (repeat' (first | refine awp_seq ?_ | refine awp_block ?_ | refine awp_skip ?_ | refine awp_exit ?_ | ((first | refine rR (fun K kp hK hkp => ?_) | refine cR nc ?_ | refine cR wc ?_ | refine iG ?_); simp (implicitDefEqProofs := false) (maxSteps := 2000000) (disch := omega) only [go_sem, eST, d1, d2, hc, en, hd, eo, b2]; (repeat' (first | (refine hK _ ?_; clear hK hkp kp K) | (with_reducible refine And.intro ?_ ?_) | omega))) | ((first | refine aG (fun h => ?_) (fun h => ?_) | refine aD (fun h => ?_) (fun h => ?_) | refine aX (fun h => ?_) (fun h => ?_)) <;> simp only [h]) | refine awp_cond_t rfl ?_ | refine awp_cond_f rfl ?_ | ((refine awp_cond rfl (fun h => ?_) (fun h => ?_) <;> try simp only [ifs] at h) <;> (try (exfalso; omega))) | refine awp_ret ?_))
          (refine retA_is (by (simp (implicitDefEqProofs := false) (maxSteps := 2000000) (disch := omega) only [go_sem, Go.Proofs.Tryz.results89, pickM, h6, hl, n0, w0, hc, hn, hd, ho]); rfl) ?_; refine eN hE ?_; simp [oneA, ren, renL, pickM, h6, hl, n0, w0, hc, hn, hd, ho])
      · have b1 : (namesM s.names != 0) = true := by simpa using n0
        (repeat' (first | refine awp_seq ?_ | refine awp_block ?_ | refine awp_skip ?_ | refine awp_exit ?_ | ((first | refine rR (fun K kp hK hkp => ?_) | refine cR nc ?_ | refine iG ?_); simp (implicitDefEqProofs := false) (maxSteps := 2000000) (disch := omega) only [go_sem, eST, d1, d2, hc, en, hd, eo, b1]; (repeat' (first | (refine hK _ ?_; clear hK hkp kp K) | (with_reducible refine And.intro ?_ ?_) | omega))) | ((first | refine aG (fun h => ?_) (fun h => ?_) | refine aD (fun h => ?_) (fun h => ?_) | refine aX (fun h => ?_) (fun h => ?_)) <;> simp only [h]) | refine awp_cond_t rfl ?_ | refine awp_cond_f rfl ?_ | ((refine awp_cond rfl (fun h => ?_) (fun h => ?_) <;> try simp only [ifs] at h) <;> (try (exfalso; omega))) | refine awp_ret ?_))
        (refine retA_is (by (simp (implicitDefEqProofs := false) (maxSteps := 2000000) (disch := omega) only [go_sem, Go.Proofs.Tryz.results89, pickM, h6, hl, n0, hc, hn, hd, ho]); rfl) ?_; refine eN hE ?_; simp [oneA, ren, renL, pickM, h6, hl, n0, hc, hn, hd, ho])
    · have eo : (s.ord.toList == ByteArray.toList ⟨#[]⟩) = true := ho
      (repeat' (first | refine awp_seq ?_ | refine awp_block ?_ | refine awp_skip ?_ | refine awp_exit ?_ | ((first | refine rR (fun K kp hK hkp => ?_) | refine iG ?_); simp (implicitDefEqProofs := false) (maxSteps := 2000000) (disch := omega) only [go_sem, eST, d1, d2, hc, en, hd, eo]; (repeat' (first | (refine hK _ ?_; clear hK hkp kp K) | (with_reducible refine And.intro ?_ ?_) | omega))) | ((first | refine aG (fun h => ?_) (fun h => ?_) | refine aD (fun h => ?_) (fun h => ?_) | refine aX (fun h => ?_) (fun h => ?_)) <;> simp only [h]) | refine awp_cond_t rfl ?_ | refine awp_cond_f rfl ?_ | ((refine awp_cond rfl (fun h => ?_) (fun h => ?_) <;> try simp only [ifs] at h) <;> (try (exfalso; omega))) | refine awp_ret ?_))
      (refine retA_is (by (simp (implicitDefEqProofs := false) (maxSteps := 2000000) (disch := omega) only [go_sem, Go.Proofs.Tryz.results89, pickM, h6, hl, hc, hn, hd, ho]); rfl) ?_; refine eN hE ?_; simp [oneA, ren, renL, pickM, h6, hl, hc, hn, hd, ho])
  · have en : decide ((s.names.length : Int) > 0) = true := hn
    (repeat' (first | refine awp_seq ?_ | refine awp_block ?_ | refine awp_skip ?_ | refine awp_exit ?_ | ((first | refine rR (fun K kp hK hkp => ?_) | refine iG ?_); simp (implicitDefEqProofs := false) (maxSteps := 2000000) (disch := omega) only [go_sem, eST, d1, d2, hc, en]; (repeat' (first | (refine hK _ ?_; clear hK hkp kp K) | (with_reducible refine And.intro ?_ ?_) | omega))) | ((first | refine aG (fun h => ?_) (fun h => ?_) | refine aD (fun h => ?_) (fun h => ?_) | refine aX (fun h => ?_) (fun h => ?_)) <;> simp only [h]) | refine awp_cond_t rfl ?_ | refine awp_cond_f rfl ?_ | ((refine awp_cond rfl (fun h => ?_) (fun h => ?_) <;> try simp only [ifs] at h) <;> (try (exfalso; omega))) | refine awp_ret ?_))
    (refine retA_is (by (simp (implicitDefEqProofs := false) (maxSteps := 2000000) (disch := omega) only [go_sem, Go.Proofs.Tryz.results89, pickM, h6, hl, hc, hn]); rfl) ?_; refine eN hE ?_; simp [oneA, ren, renL, pickM, h6, hl, hc, hn])
end Go.AM
/- Statements: parse.check. -/
namespace Go.AM
open Go Go.RowKit
open Go.Proofs.YtoecmmpjndcolaaGreatDoor (OP nameM litM exprM marksS wordsS StrsAt str SlAt)
attribute [local irreducible] AWP retA
/-- What is wrong with the parts that a kind has. -/
def partsM (s : ST) : Int :=
  if s.k = 1 then colsM s.cols else if s.k = 3 then rowM s.row else if s.k = 4 then pickM s
  else if s.k = 5 then (if nameM s.set ≠ 0 then nameM s.set else if exprM s.to ≠ 0 then exprM s.to else whereM s.wh)
  else if s.k = 6 then whereM s.wh else 0
def b0 : ByteArray := ⟨#[]⟩
/-- What a kind has. -/
def hasM (s : ST) : ST :=
  if s.k = 1 then ⟨s.k, s.tab, s.cols, [], [], false, [], b0, false, -1, b0, []⟩
  else if s.k = 2 then ⟨s.k, s.tab, [], [], [], false, [], b0, false, -1, b0, []⟩
  else if s.k = 3 then ⟨s.k, s.tab, [], s.row, [], false, [], b0, false, -1, b0, []⟩
  else if s.k = 4 then ⟨s.k, s.tab, [], [], s.names, s.count, s.wh, s.ord, s.down, s.lim, b0, []⟩
  else if s.k = 5 then ⟨s.k, s.tab, [], [], [], false, s.wh, b0, false, -1, s.set, s.to⟩
  else if s.k = 6 then ⟨s.k, s.tab, [], [], [], false, s.wh, b0, false, -1, b0, []⟩
  else ⟨s.k, b0, [], [], [], false, [], b0, false, -1, b0, []⟩
def checkM (s : ST) : Int := if s.k < 7 ∧ nameM s.tab ≠ 0 then nameM s.tab else if partsM s ≠ 0 then partsM s else if bareB s (hasM s) = true then 0 else 6
theorem checkM_name {s : ST} (h : s.k < 7) (hn : nameM s.tab ≠ 0) : checkM s = nameM s.tab := by rw [checkM, if_pos ⟨h, hn⟩]
theorem checkM_parts {s : ST} (h : ¬ (s.k < 7 ∧ nameM s.tab ≠ 0)) (hn : partsM s ≠ 0) : checkM s = partsM s := by rw [checkM, if_neg h, if_pos hn]
theorem checkM_ok {s : ST} (h : ¬ (s.k < 7 ∧ nameM s.tab ≠ 0)) (hn : partsM s = 0) (hb : bareB s (hasM s) = true) : checkM s = 0 := by rw [checkM, if_neg h, if_neg (by simp [hn]), if_pos hb]
theorem checkM_form {s : ST} (h : ¬ (s.k < 7 ∧ nameM s.tab ≠ 0)) (hn : partsM s = 0) (hb : bareB s (hasM s) = false) : checkM s = 6 := by rw [checkM, if_neg h, if_neg (by simp [hn]), if_neg (by simp [hb])]
set_option maxRecDepth 100000 in
set_option maxHeartbeats 8000000 in
theorem check1_con {G : List (Nat × List Value)} (T : Tabs G) (s : ST) (o : okST s) (hk : s.k = 1) : Con Go.Proofs.Tryz.prog G 72 [.agg (eST s)] [] 0 (Is (.r (.int .i64 (checkM s))) [] 0) No := by
  refine con_of_awp Go.Proofs.Tryz.func72 rfl (by kernel_rfl) (of_decide_eq_true (by kernel_rfl)) ?_; intro E hG hE; subst hG; simp only [ent]
  have tc := name_con T s.tab o.tab
  by_cases hn : nameM s.tab = 0
  · rw [hn] at tc
    have hh : ¬ (s.k < 7 ∧ nameM s.tab ≠ 0) := fun h => h.2 hn
    have p0 := cols_con T true s.cols o.lc o.cols
    by_cases z0 : colsM s.cols = 0
    · rw [z0] at p0
      have hp : partsM s = 0 := by simp [partsM, hk, z0]
      have hS : hasM s = ⟨1, s.tab, s.cols, [], [], false, [], b0, false, -1, b0, []⟩ := by simp [hasM, hk]
      have bc := bare_con E.G s (hasM s)
      cases hb : bareB s (hasM s)
      · rw [hb, hS] at bc
        simp only [eST, hk, List.map_nil] at bc
        have bc := bc.weak (xs := [.agg [.r (.int .i64 1), .r (.string s.tab), .ro true 2 (s.cols.map eC), .ro true 3 (s.row.map eV), .ro true 1 (s.names.map eStr), .r (.bool s.count), .ro true 5 (s.wh.map eO), .r (.string s.ord), .r (.bool s.down), .r (.int .i64 s.lim), .r (.string s.set), .ro true 5 (s.to.map eO)], .agg [.r (.int .i64 1), .r (.string s.tab), .ro true 2 (s.cols.map eC), .r (.slice none 0 0), .r (.slice none 0 0), .r (.bool false), .r (.slice none 0 0), .r (.string b0), .r (.bool false), .r (.int .i64 (-1)), .r (.string b0), .r (.slice none 0 0)]]) (by simp [wkL, wk])
        (repeat' (first | refine awp_seq ?_ | refine awp_block ?_ | refine awp_skip ?_ | refine awp_exit ?_ | ((first | refine rR (fun K kp hK hkp => ?_) | refine rX (id := 16) mixed [1] 24 [0,1,2,3,4,5,6,7,8,9,10,11,12,13,14,15,16,17,18,19,20,21,22,23] (fun K kp hK hkp => ?_) | refine rX (id := 19) mixed [1] 12 [0,1,2,3,4,5,6,7,8,9,10,11] (fun K kp hK hkp => ?_) | refine cR tc ?_ | refine cD tc ?_ | refine cX tc ?_ | refine cR p0 ?_ | refine cD p0 ?_ | refine cX p0 ?_ | refine cR bc ?_ | refine cD bc ?_ | refine cX bc ?_ | refine iG ?_ | refine iD ?_ | refine iX ?_); simp (implicitDefEqProofs := false) (maxSteps := 2000000) (disch := omega) only [go_sem, eST, hk]; (repeat' (first | (refine hK _ ?_; clear hK hkp kp K) | (with_reducible refine And.intro ?_ ?_) | omega))) | ((first | refine aG (fun h => ?_) (fun h => ?_) | refine aD (fun h => ?_) (fun h => ?_) | refine aX (fun h => ?_) (fun h => ?_)) <;> simp only [h]) | refine awp_cond_t rfl ?_ | refine awp_cond_f rfl ?_ | ((refine awp_cond rfl (fun h => ?_) (fun h => ?_) <;> try simp only [ifs] at h) <;> (try (exfalso; omega))) | refine awp_ret ?_))
        (refine retA_is (by (simp (implicitDefEqProofs := false) (maxSteps := 2000000) (disch := omega) only [go_sem, Go.Proofs.Tryz.results72, checkM_form hh hp hb]); rfl) ?_; refine eN hE ?_; simp [oneA, ren, renL, checkM_form hh hp hb])
      · rw [hb, hS] at bc
        simp only [eST, hk, List.map_nil] at bc
        have bc := bc.weak (xs := [.agg [.r (.int .i64 1), .r (.string s.tab), .ro true 2 (s.cols.map eC), .ro true 3 (s.row.map eV), .ro true 1 (s.names.map eStr), .r (.bool s.count), .ro true 5 (s.wh.map eO), .r (.string s.ord), .r (.bool s.down), .r (.int .i64 s.lim), .r (.string s.set), .ro true 5 (s.to.map eO)], .agg [.r (.int .i64 1), .r (.string s.tab), .ro true 2 (s.cols.map eC), .r (.slice none 0 0), .r (.slice none 0 0), .r (.bool false), .r (.slice none 0 0), .r (.string b0), .r (.bool false), .r (.int .i64 (-1)), .r (.string b0), .r (.slice none 0 0)]]) (by simp [wkL, wk])
        (repeat' (first | refine awp_seq ?_ | refine awp_block ?_ | refine awp_skip ?_ | refine awp_exit ?_ | ((first | refine rR (fun K kp hK hkp => ?_) | refine rX (id := 16) mixed [1] 24 [0,1,2,3,4,5,6,7,8,9,10,11,12,13,14,15,16,17,18,19,20,21,22,23] (fun K kp hK hkp => ?_) | refine rX (id := 19) mixed [1] 12 [0,1,2,3,4,5,6,7,8,9,10,11] (fun K kp hK hkp => ?_) | refine cR tc ?_ | refine cD tc ?_ | refine cX tc ?_ | refine cR p0 ?_ | refine cD p0 ?_ | refine cX p0 ?_ | refine cR bc ?_ | refine cD bc ?_ | refine cX bc ?_ | refine iG ?_ | refine iD ?_ | refine iX ?_); simp (implicitDefEqProofs := false) (maxSteps := 2000000) (disch := omega) only [go_sem, eST, hk]; (repeat' (first | (refine hK _ ?_; clear hK hkp kp K) | (with_reducible refine And.intro ?_ ?_) | omega))) | ((first | refine aG (fun h => ?_) (fun h => ?_) | refine aD (fun h => ?_) (fun h => ?_) | refine aX (fun h => ?_) (fun h => ?_)) <;> simp only [h]) | refine awp_cond_t rfl ?_ | refine awp_cond_f rfl ?_ | ((refine awp_cond rfl (fun h => ?_) (fun h => ?_) <;> try simp only [ifs] at h) <;> (try (exfalso; omega))) | refine awp_ret ?_))
        (refine retA_is (by (simp (implicitDefEqProofs := false) (maxSteps := 2000000) (disch := omega) only [go_sem, Go.Proofs.Tryz.results72, checkM_ok hh hp hb]); rfl) ?_; refine eN hE ?_; simp [oneA, ren, renL, checkM_ok hh hp hb])
    · have y0 : (colsM s.cols == 0) = false := by simpa using z0
      have hp : partsM s = colsM s.cols := by simp [partsM, hk, z0]
      (repeat' (first | refine awp_seq ?_ | refine awp_block ?_ | refine awp_skip ?_ | refine awp_exit ?_ | ((first | refine rR (fun K kp hK hkp => ?_) | refine rX (id := 16) mixed [1] 24 [0,1,2,3,4,5,6,7,8,9,10,11,12,13,14,15,16,17,18,19,20,21,22,23] (fun K kp hK hkp => ?_) | refine rX (id := 19) mixed [1] 12 [0,1,2,3,4,5,6,7,8,9,10,11] (fun K kp hK hkp => ?_) | refine cR tc ?_ | refine cD tc ?_ | refine cX tc ?_ | refine cR p0 ?_ | refine cD p0 ?_ | refine cX p0 ?_ | refine iG ?_ | refine iD ?_ | refine iX ?_); simp (implicitDefEqProofs := false) (maxSteps := 2000000) (disch := omega) only [go_sem, eST, hk, y0]; (repeat' (first | (refine hK _ ?_; clear hK hkp kp K) | (with_reducible refine And.intro ?_ ?_) | omega))) | ((first | refine aG (fun h => ?_) (fun h => ?_) | refine aD (fun h => ?_) (fun h => ?_) | refine aX (fun h => ?_) (fun h => ?_)) <;> simp only [h]) | refine awp_cond_t rfl ?_ | refine awp_cond_f rfl ?_ | ((refine awp_cond rfl (fun h => ?_) (fun h => ?_) <;> try simp only [ifs] at h) <;> (try (exfalso; omega))) | refine awp_ret ?_))
      (refine retA_is (by (simp (implicitDefEqProofs := false) (maxSteps := 2000000) (disch := omega) only [go_sem, Go.Proofs.Tryz.results72, checkM_parts hh (hp ▸ z0), hp]); rfl) ?_; refine eN hE ?_; simp [oneA, ren, renL, checkM_parts hh (hp ▸ z0), hp])
  · have bn : (nameM s.tab != 0) = true := by simpa using hn
    (repeat' (first | refine awp_seq ?_ | refine awp_block ?_ | refine awp_skip ?_ | refine awp_exit ?_ | ((first | refine rR (fun K kp hK hkp => ?_) | refine rX (id := 16) mixed [] 24 [0,1,2,3,4,5,6,7,8,9,10,11,12,13,14,15,16,17,18,19,20,21,22,23] (fun K kp hK hkp => ?_) | refine rX (id := 19) mixed [] 12 [0,1,2,3,4,5,6,7,8,9,10,11] (fun K kp hK hkp => ?_) | refine cR tc ?_ | refine cD tc ?_ | refine cX tc ?_ | refine iG ?_ | refine iD ?_ | refine iX ?_); simp (implicitDefEqProofs := false) (maxSteps := 2000000) (disch := omega) only [go_sem, eST, hk, bn]; (repeat' (first | (refine hK _ ?_; clear hK hkp kp K) | (with_reducible refine And.intro ?_ ?_) | omega))) | ((first | refine aG (fun h => ?_) (fun h => ?_) | refine aD (fun h => ?_) (fun h => ?_) | refine aX (fun h => ?_) (fun h => ?_)) <;> simp only [h]) | refine awp_cond_t rfl ?_ | refine awp_cond_f rfl ?_ | ((refine awp_cond rfl (fun h => ?_) (fun h => ?_) <;> try simp only [ifs] at h) <;> (try (exfalso; omega))) | refine awp_ret ?_))
    (refine retA_is (by (simp (implicitDefEqProofs := false) (maxSteps := 2000000) (disch := omega) only [go_sem, Go.Proofs.Tryz.results72, checkM_name (show s.k < 7 by omega) hn]); rfl) ?_; refine eN hE ?_; simp [oneA, ren, renL, checkM_name (show s.k < 7 by omega) hn])
set_option maxRecDepth 100000 in
set_option maxHeartbeats 8000000 in
theorem check2_con {G : List (Nat × List Value)} (T : Tabs G) (s : ST) (o : okST s) (hk : s.k = 2) : Con Go.Proofs.Tryz.prog G 72 [.agg (eST s)] [] 0 (Is (.r (.int .i64 (checkM s))) [] 0) No := by
  refine con_of_awp Go.Proofs.Tryz.func72 rfl (by kernel_rfl) (of_decide_eq_true (by kernel_rfl)) ?_; intro E hG hE; subst hG; simp only [ent]
  have tc := name_con T s.tab o.tab
  by_cases hn : nameM s.tab = 0
  · rw [hn] at tc
    have hh : ¬ (s.k < 7 ∧ nameM s.tab ≠ 0) := fun h => h.2 hn
    have hp : partsM s = 0 := by simp [partsM, hk]
    have hS : hasM s = ⟨2, s.tab, [], [], [], false, [], b0, false, -1, b0, []⟩ := by simp [hasM, hk]
    have bc := bare_con E.G s (hasM s)
    cases hb : bareB s (hasM s)
    · rw [hb, hS] at bc
      simp only [eST, hk, List.map_nil] at bc
      have bc := bc.weak (xs := [.agg [.r (.int .i64 2), .r (.string s.tab), .ro true 2 (s.cols.map eC), .ro true 3 (s.row.map eV), .ro true 1 (s.names.map eStr), .r (.bool s.count), .ro true 5 (s.wh.map eO), .r (.string s.ord), .r (.bool s.down), .r (.int .i64 s.lim), .r (.string s.set), .ro true 5 (s.to.map eO)], .agg [.r (.int .i64 2), .r (.string s.tab), .r (.slice none 0 0), .r (.slice none 0 0), .r (.slice none 0 0), .r (.bool false), .r (.slice none 0 0), .r (.string b0), .r (.bool false), .r (.int .i64 (-1)), .r (.string b0), .r (.slice none 0 0)]]) (by simp [wkL, wk])
      (repeat' (first | refine awp_seq ?_ | refine awp_block ?_ | refine awp_skip ?_ | refine awp_exit ?_ | ((first | refine rR (fun K kp hK hkp => ?_) | refine rX (id := 16) mixed [1] 24 [0,1,2,3,4,5,6,7,8,9,10,11,12,13,14,15,16,17,18,19,20,21,22,23] (fun K kp hK hkp => ?_) | refine rX (id := 19) mixed [1] 12 [0,1,2,3,4,5,6,7,8,9,10,11] (fun K kp hK hkp => ?_) | refine cR tc ?_ | refine cD tc ?_ | refine cX tc ?_ | refine cR bc ?_ | refine cD bc ?_ | refine cX bc ?_ | refine iG ?_ | refine iD ?_ | refine iX ?_); simp (implicitDefEqProofs := false) (maxSteps := 2000000) (disch := omega) only [go_sem, eST, hk]; (repeat' (first | (refine hK _ ?_; clear hK hkp kp K) | (with_reducible refine And.intro ?_ ?_) | omega))) | ((first | refine aG (fun h => ?_) (fun h => ?_) | refine aD (fun h => ?_) (fun h => ?_) | refine aX (fun h => ?_) (fun h => ?_)) <;> simp only [h]) | refine awp_cond_t rfl ?_ | refine awp_cond_f rfl ?_ | ((refine awp_cond rfl (fun h => ?_) (fun h => ?_) <;> try simp only [ifs] at h) <;> (try (exfalso; omega))) | refine awp_ret ?_))
      (refine retA_is (by (simp (implicitDefEqProofs := false) (maxSteps := 2000000) (disch := omega) only [go_sem, Go.Proofs.Tryz.results72, checkM_form hh hp hb]); rfl) ?_; refine eN hE ?_; simp [oneA, ren, renL, checkM_form hh hp hb])
    · rw [hb, hS] at bc
      simp only [eST, hk, List.map_nil] at bc
      have bc := bc.weak (xs := [.agg [.r (.int .i64 2), .r (.string s.tab), .ro true 2 (s.cols.map eC), .ro true 3 (s.row.map eV), .ro true 1 (s.names.map eStr), .r (.bool s.count), .ro true 5 (s.wh.map eO), .r (.string s.ord), .r (.bool s.down), .r (.int .i64 s.lim), .r (.string s.set), .ro true 5 (s.to.map eO)], .agg [.r (.int .i64 2), .r (.string s.tab), .r (.slice none 0 0), .r (.slice none 0 0), .r (.slice none 0 0), .r (.bool false), .r (.slice none 0 0), .r (.string b0), .r (.bool false), .r (.int .i64 (-1)), .r (.string b0), .r (.slice none 0 0)]]) (by simp [wkL, wk])
      (repeat' (first | refine awp_seq ?_ | refine awp_block ?_ | refine awp_skip ?_ | refine awp_exit ?_ | ((first | refine rR (fun K kp hK hkp => ?_) | refine rX (id := 16) mixed [1] 24 [0,1,2,3,4,5,6,7,8,9,10,11,12,13,14,15,16,17,18,19,20,21,22,23] (fun K kp hK hkp => ?_) | refine rX (id := 19) mixed [1] 12 [0,1,2,3,4,5,6,7,8,9,10,11] (fun K kp hK hkp => ?_) | refine cR tc ?_ | refine cD tc ?_ | refine cX tc ?_ | refine cR bc ?_ | refine cD bc ?_ | refine cX bc ?_ | refine iG ?_ | refine iD ?_ | refine iX ?_); simp (implicitDefEqProofs := false) (maxSteps := 2000000) (disch := omega) only [go_sem, eST, hk]; (repeat' (first | (refine hK _ ?_; clear hK hkp kp K) | (with_reducible refine And.intro ?_ ?_) | omega))) | ((first | refine aG (fun h => ?_) (fun h => ?_) | refine aD (fun h => ?_) (fun h => ?_) | refine aX (fun h => ?_) (fun h => ?_)) <;> simp only [h]) | refine awp_cond_t rfl ?_ | refine awp_cond_f rfl ?_ | ((refine awp_cond rfl (fun h => ?_) (fun h => ?_) <;> try simp only [ifs] at h) <;> (try (exfalso; omega))) | refine awp_ret ?_))
      (refine retA_is (by (simp (implicitDefEqProofs := false) (maxSteps := 2000000) (disch := omega) only [go_sem, Go.Proofs.Tryz.results72, checkM_ok hh hp hb]); rfl) ?_; refine eN hE ?_; simp [oneA, ren, renL, checkM_ok hh hp hb])
  · have bn : (nameM s.tab != 0) = true := by simpa using hn
    (repeat' (first | refine awp_seq ?_ | refine awp_block ?_ | refine awp_skip ?_ | refine awp_exit ?_ | ((first | refine rR (fun K kp hK hkp => ?_) | refine rX (id := 16) mixed [] 24 [0,1,2,3,4,5,6,7,8,9,10,11,12,13,14,15,16,17,18,19,20,21,22,23] (fun K kp hK hkp => ?_) | refine rX (id := 19) mixed [] 12 [0,1,2,3,4,5,6,7,8,9,10,11] (fun K kp hK hkp => ?_) | refine cR tc ?_ | refine cD tc ?_ | refine cX tc ?_ | refine iG ?_ | refine iD ?_ | refine iX ?_); simp (implicitDefEqProofs := false) (maxSteps := 2000000) (disch := omega) only [go_sem, eST, hk, bn]; (repeat' (first | (refine hK _ ?_; clear hK hkp kp K) | (with_reducible refine And.intro ?_ ?_) | omega))) | ((first | refine aG (fun h => ?_) (fun h => ?_) | refine aD (fun h => ?_) (fun h => ?_) | refine aX (fun h => ?_) (fun h => ?_)) <;> simp only [h]) | refine awp_cond_t rfl ?_ | refine awp_cond_f rfl ?_ | ((refine awp_cond rfl (fun h => ?_) (fun h => ?_) <;> try simp only [ifs] at h) <;> (try (exfalso; omega))) | refine awp_ret ?_))
    (refine retA_is (by (simp (implicitDefEqProofs := false) (maxSteps := 2000000) (disch := omega) only [go_sem, Go.Proofs.Tryz.results72, checkM_name (show s.k < 7 by omega) hn]); rfl) ?_; refine eN hE ?_; simp [oneA, ren, renL, checkM_name (show s.k < 7 by omega) hn])
set_option maxRecDepth 100000 in
set_option maxHeartbeats 8000000 in
theorem check3_con {G : List (Nat × List Value)} (T : Tabs G) (s : ST) (o : okST s) (hk : s.k = 3) : Con Go.Proofs.Tryz.prog G 72 [.agg (eST s)] [] 0 (Is (.r (.int .i64 (checkM s))) [] 0) No := by
  refine con_of_awp Go.Proofs.Tryz.func72 rfl (by kernel_rfl) (of_decide_eq_true (by kernel_rfl)) ?_; intro E hG hE; subst hG; simp only [ent]
  have tc := name_con T s.tab o.tab
  by_cases hn : nameM s.tab = 0
  · rw [hn] at tc
    have hh : ¬ (s.k < 7 ∧ nameM s.tab ≠ 0) := fun h => h.2 hn
    have p0 := row_con E.G true s.row o.lr o.row
    by_cases z0 : rowM s.row = 0
    · rw [z0] at p0
      have hp : partsM s = 0 := by simp [partsM, hk, z0]
      have hS : hasM s = ⟨3, s.tab, [], s.row, [], false, [], b0, false, -1, b0, []⟩ := by simp [hasM, hk]
      have bc := bare_con E.G s (hasM s)
      cases hb : bareB s (hasM s)
      · rw [hb, hS] at bc
        simp only [eST, hk, List.map_nil] at bc
        have bc := bc.weak (xs := [.agg [.r (.int .i64 3), .r (.string s.tab), .ro true 2 (s.cols.map eC), .ro true 3 (s.row.map eV), .ro true 1 (s.names.map eStr), .r (.bool s.count), .ro true 5 (s.wh.map eO), .r (.string s.ord), .r (.bool s.down), .r (.int .i64 s.lim), .r (.string s.set), .ro true 5 (s.to.map eO)], .agg [.r (.int .i64 3), .r (.string s.tab), .r (.slice none 0 0), .ro true 3 (s.row.map eV), .r (.slice none 0 0), .r (.bool false), .r (.slice none 0 0), .r (.string b0), .r (.bool false), .r (.int .i64 (-1)), .r (.string b0), .r (.slice none 0 0)]]) (by simp [wkL, wk])
        (repeat' (first | refine awp_seq ?_ | refine awp_block ?_ | refine awp_skip ?_ | refine awp_exit ?_ | ((first | refine rR (fun K kp hK hkp => ?_) | refine rX (id := 16) mixed [1] 24 [0,1,2,3,4,5,6,7,8,9,10,11,12,13,14,15,16,17,18,19,20,21,22,23] (fun K kp hK hkp => ?_) | refine rX (id := 19) mixed [1] 12 [0,1,2,3,4,5,6,7,8,9,10,11] (fun K kp hK hkp => ?_) | refine cR tc ?_ | refine cD tc ?_ | refine cX tc ?_ | refine cR p0 ?_ | refine cD p0 ?_ | refine cX p0 ?_ | refine cR bc ?_ | refine cD bc ?_ | refine cX bc ?_ | refine iG ?_ | refine iD ?_ | refine iX ?_); simp (implicitDefEqProofs := false) (maxSteps := 2000000) (disch := omega) only [go_sem, eST, hk]; (repeat' (first | (refine hK _ ?_; clear hK hkp kp K) | (with_reducible refine And.intro ?_ ?_) | omega))) | ((first | refine aG (fun h => ?_) (fun h => ?_) | refine aD (fun h => ?_) (fun h => ?_) | refine aX (fun h => ?_) (fun h => ?_)) <;> simp only [h]) | refine awp_cond_t rfl ?_ | refine awp_cond_f rfl ?_ | ((refine awp_cond rfl (fun h => ?_) (fun h => ?_) <;> try simp only [ifs] at h) <;> (try (exfalso; omega))) | refine awp_ret ?_))
        (refine retA_is (by (simp (implicitDefEqProofs := false) (maxSteps := 2000000) (disch := omega) only [go_sem, Go.Proofs.Tryz.results72, checkM_form hh hp hb]); rfl) ?_; refine eN hE ?_; simp [oneA, ren, renL, checkM_form hh hp hb])
      · rw [hb, hS] at bc
        simp only [eST, hk, List.map_nil] at bc
        have bc := bc.weak (xs := [.agg [.r (.int .i64 3), .r (.string s.tab), .ro true 2 (s.cols.map eC), .ro true 3 (s.row.map eV), .ro true 1 (s.names.map eStr), .r (.bool s.count), .ro true 5 (s.wh.map eO), .r (.string s.ord), .r (.bool s.down), .r (.int .i64 s.lim), .r (.string s.set), .ro true 5 (s.to.map eO)], .agg [.r (.int .i64 3), .r (.string s.tab), .r (.slice none 0 0), .ro true 3 (s.row.map eV), .r (.slice none 0 0), .r (.bool false), .r (.slice none 0 0), .r (.string b0), .r (.bool false), .r (.int .i64 (-1)), .r (.string b0), .r (.slice none 0 0)]]) (by simp [wkL, wk])
        (repeat' (first | refine awp_seq ?_ | refine awp_block ?_ | refine awp_skip ?_ | refine awp_exit ?_ | ((first | refine rR (fun K kp hK hkp => ?_) | refine rX (id := 16) mixed [1] 24 [0,1,2,3,4,5,6,7,8,9,10,11,12,13,14,15,16,17,18,19,20,21,22,23] (fun K kp hK hkp => ?_) | refine rX (id := 19) mixed [1] 12 [0,1,2,3,4,5,6,7,8,9,10,11] (fun K kp hK hkp => ?_) | refine cR tc ?_ | refine cD tc ?_ | refine cX tc ?_ | refine cR p0 ?_ | refine cD p0 ?_ | refine cX p0 ?_ | refine cR bc ?_ | refine cD bc ?_ | refine cX bc ?_ | refine iG ?_ | refine iD ?_ | refine iX ?_); simp (implicitDefEqProofs := false) (maxSteps := 2000000) (disch := omega) only [go_sem, eST, hk]; (repeat' (first | (refine hK _ ?_; clear hK hkp kp K) | (with_reducible refine And.intro ?_ ?_) | omega))) | ((first | refine aG (fun h => ?_) (fun h => ?_) | refine aD (fun h => ?_) (fun h => ?_) | refine aX (fun h => ?_) (fun h => ?_)) <;> simp only [h]) | refine awp_cond_t rfl ?_ | refine awp_cond_f rfl ?_ | ((refine awp_cond rfl (fun h => ?_) (fun h => ?_) <;> try simp only [ifs] at h) <;> (try (exfalso; omega))) | refine awp_ret ?_))
        (refine retA_is (by (simp (implicitDefEqProofs := false) (maxSteps := 2000000) (disch := omega) only [go_sem, Go.Proofs.Tryz.results72, checkM_ok hh hp hb]); rfl) ?_; refine eN hE ?_; simp [oneA, ren, renL, checkM_ok hh hp hb])
    · have y0 : (rowM s.row == 0) = false := by simpa using z0
      have hp : partsM s = rowM s.row := by simp [partsM, hk, z0]
      (repeat' (first | refine awp_seq ?_ | refine awp_block ?_ | refine awp_skip ?_ | refine awp_exit ?_ | ((first | refine rR (fun K kp hK hkp => ?_) | refine rX (id := 16) mixed [1] 24 [0,1,2,3,4,5,6,7,8,9,10,11,12,13,14,15,16,17,18,19,20,21,22,23] (fun K kp hK hkp => ?_) | refine rX (id := 19) mixed [1] 12 [0,1,2,3,4,5,6,7,8,9,10,11] (fun K kp hK hkp => ?_) | refine cR tc ?_ | refine cD tc ?_ | refine cX tc ?_ | refine cR p0 ?_ | refine cD p0 ?_ | refine cX p0 ?_ | refine iG ?_ | refine iD ?_ | refine iX ?_); simp (implicitDefEqProofs := false) (maxSteps := 2000000) (disch := omega) only [go_sem, eST, hk, y0]; (repeat' (first | (refine hK _ ?_; clear hK hkp kp K) | (with_reducible refine And.intro ?_ ?_) | omega))) | ((first | refine aG (fun h => ?_) (fun h => ?_) | refine aD (fun h => ?_) (fun h => ?_) | refine aX (fun h => ?_) (fun h => ?_)) <;> simp only [h]) | refine awp_cond_t rfl ?_ | refine awp_cond_f rfl ?_ | ((refine awp_cond rfl (fun h => ?_) (fun h => ?_) <;> try simp only [ifs] at h) <;> (try (exfalso; omega))) | refine awp_ret ?_))
      (refine retA_is (by (simp (implicitDefEqProofs := false) (maxSteps := 2000000) (disch := omega) only [go_sem, Go.Proofs.Tryz.results72, checkM_parts hh (hp ▸ z0), hp]); rfl) ?_; refine eN hE ?_; simp [oneA, ren, renL, checkM_parts hh (hp ▸ z0), hp])
  · have bn : (nameM s.tab != 0) = true := by simpa using hn
    (repeat' (first | refine awp_seq ?_ | refine awp_block ?_ | refine awp_skip ?_ | refine awp_exit ?_ | ((first | refine rR (fun K kp hK hkp => ?_) | refine rX (id := 16) mixed [] 24 [0,1,2,3,4,5,6,7,8,9,10,11,12,13,14,15,16,17,18,19,20,21,22,23] (fun K kp hK hkp => ?_) | refine rX (id := 19) mixed [] 12 [0,1,2,3,4,5,6,7,8,9,10,11] (fun K kp hK hkp => ?_) | refine cR tc ?_ | refine cD tc ?_ | refine cX tc ?_ | refine iG ?_ | refine iD ?_ | refine iX ?_); simp (implicitDefEqProofs := false) (maxSteps := 2000000) (disch := omega) only [go_sem, eST, hk, bn]; (repeat' (first | (refine hK _ ?_; clear hK hkp kp K) | (with_reducible refine And.intro ?_ ?_) | omega))) | ((first | refine aG (fun h => ?_) (fun h => ?_) | refine aD (fun h => ?_) (fun h => ?_) | refine aX (fun h => ?_) (fun h => ?_)) <;> simp only [h]) | refine awp_cond_t rfl ?_ | refine awp_cond_f rfl ?_ | ((refine awp_cond rfl (fun h => ?_) (fun h => ?_) <;> try simp only [ifs] at h) <;> (try (exfalso; omega))) | refine awp_ret ?_))
    (refine retA_is (by (simp (implicitDefEqProofs := false) (maxSteps := 2000000) (disch := omega) only [go_sem, Go.Proofs.Tryz.results72, checkM_name (show s.k < 7 by omega) hn]); rfl) ?_; refine eN hE ?_; simp [oneA, ren, renL, checkM_name (show s.k < 7 by omega) hn])
set_option maxRecDepth 100000 in
set_option maxHeartbeats 8000000 in
theorem check4_con {G : List (Nat × List Value)} (T : Tabs G) (s : ST) (o : okST s) (hk : s.k = 4) : Con Go.Proofs.Tryz.prog G 72 [.agg (eST s)] [] 0 (Is (.r (.int .i64 (checkM s))) [] 0) No := by
  refine con_of_awp Go.Proofs.Tryz.func72 rfl (by kernel_rfl) (of_decide_eq_true (by kernel_rfl)) ?_; intro E hG hE; subst hG; simp only [ent]
  have tc := name_con T s.tab o.tab
  by_cases hn : nameM s.tab = 0
  · rw [hn] at tc
    have hh : ¬ (s.k < 7 ∧ nameM s.tab ≠ 0) := fun h => h.2 hn
    have p0 := pick_con T s o
    simp only [eST, hk] at p0
    by_cases z0 : pickM s = 0
    · rw [z0] at p0
      have hp : partsM s = 0 := by simp [partsM, hk, z0]
      have hS : hasM s = ⟨4, s.tab, [], [], s.names, s.count, s.wh, s.ord, s.down, s.lim, b0, []⟩ := by simp [hasM, hk]
      have bc := bare_con E.G s (hasM s)
      cases hb : bareB s (hasM s)
      · rw [hb, hS] at bc
        simp only [eST, hk, List.map_nil] at bc
        have bc := bc.weak (xs := [.agg [.r (.int .i64 4), .r (.string s.tab), .ro true 2 (s.cols.map eC), .ro true 3 (s.row.map eV), .ro true 1 (s.names.map eStr), .r (.bool s.count), .ro true 5 (s.wh.map eO), .r (.string s.ord), .r (.bool s.down), .r (.int .i64 s.lim), .r (.string s.set), .ro true 5 (s.to.map eO)], .agg [.r (.int .i64 4), .r (.string s.tab), .r (.slice none 0 0), .r (.slice none 0 0), .ro true 1 (s.names.map eStr), .r (.bool s.count), .ro true 5 (s.wh.map eO), .r (.string s.ord), .r (.bool s.down), .r (.int .i64 s.lim), .r (.string b0), .r (.slice none 0 0)]]) (by simp [wkL, wk])
        (repeat' (first | refine awp_seq ?_ | refine awp_block ?_ | refine awp_skip ?_ | refine awp_exit ?_ | ((first | refine rR (fun K kp hK hkp => ?_) | refine rX (id := 16) mixed [1] 24 [0,1,2,3,4,5,6,7,8,9,10,11,12,13,14,15,16,17,18,19,20,21,22,23] (fun K kp hK hkp => ?_) | refine rX (id := 19) mixed [1] 12 [0,1,2,3,4,5,6,7,8,9,10,11] (fun K kp hK hkp => ?_) | refine cR tc ?_ | refine cD tc ?_ | refine cX tc ?_ | refine cR p0 ?_ | refine cD p0 ?_ | refine cX p0 ?_ | refine cR bc ?_ | refine cD bc ?_ | refine cX bc ?_ | refine iG ?_ | refine iD ?_ | refine iX ?_); simp (implicitDefEqProofs := false) (maxSteps := 2000000) (disch := omega) only [go_sem, eST, hk]; (repeat' (first | (refine hK _ ?_; clear hK hkp kp K) | (with_reducible refine And.intro ?_ ?_) | omega))) | ((first | refine aG (fun h => ?_) (fun h => ?_) | refine aD (fun h => ?_) (fun h => ?_) | refine aX (fun h => ?_) (fun h => ?_)) <;> simp only [h]) | refine awp_cond_t rfl ?_ | refine awp_cond_f rfl ?_ | ((refine awp_cond rfl (fun h => ?_) (fun h => ?_) <;> try simp only [ifs] at h) <;> (try (exfalso; omega))) | refine awp_ret ?_))
        (refine retA_is (by (simp (implicitDefEqProofs := false) (maxSteps := 2000000) (disch := omega) only [go_sem, Go.Proofs.Tryz.results72, checkM_form hh hp hb]); rfl) ?_; refine eN hE ?_; simp [oneA, ren, renL, checkM_form hh hp hb])
      · rw [hb, hS] at bc
        simp only [eST, hk, List.map_nil] at bc
        have bc := bc.weak (xs := [.agg [.r (.int .i64 4), .r (.string s.tab), .ro true 2 (s.cols.map eC), .ro true 3 (s.row.map eV), .ro true 1 (s.names.map eStr), .r (.bool s.count), .ro true 5 (s.wh.map eO), .r (.string s.ord), .r (.bool s.down), .r (.int .i64 s.lim), .r (.string s.set), .ro true 5 (s.to.map eO)], .agg [.r (.int .i64 4), .r (.string s.tab), .r (.slice none 0 0), .r (.slice none 0 0), .ro true 1 (s.names.map eStr), .r (.bool s.count), .ro true 5 (s.wh.map eO), .r (.string s.ord), .r (.bool s.down), .r (.int .i64 s.lim), .r (.string b0), .r (.slice none 0 0)]]) (by simp [wkL, wk])
        (repeat' (first | refine awp_seq ?_ | refine awp_block ?_ | refine awp_skip ?_ | refine awp_exit ?_ | ((first | refine rR (fun K kp hK hkp => ?_) | refine rX (id := 16) mixed [1] 24 [0,1,2,3,4,5,6,7,8,9,10,11,12,13,14,15,16,17,18,19,20,21,22,23] (fun K kp hK hkp => ?_) | refine rX (id := 19) mixed [1] 12 [0,1,2,3,4,5,6,7,8,9,10,11] (fun K kp hK hkp => ?_) | refine cR tc ?_ | refine cD tc ?_ | refine cX tc ?_ | refine cR p0 ?_ | refine cD p0 ?_ | refine cX p0 ?_ | refine cR bc ?_ | refine cD bc ?_ | refine cX bc ?_ | refine iG ?_ | refine iD ?_ | refine iX ?_); simp (implicitDefEqProofs := false) (maxSteps := 2000000) (disch := omega) only [go_sem, eST, hk]; (repeat' (first | (refine hK _ ?_; clear hK hkp kp K) | (with_reducible refine And.intro ?_ ?_) | omega))) | ((first | refine aG (fun h => ?_) (fun h => ?_) | refine aD (fun h => ?_) (fun h => ?_) | refine aX (fun h => ?_) (fun h => ?_)) <;> simp only [h]) | refine awp_cond_t rfl ?_ | refine awp_cond_f rfl ?_ | ((refine awp_cond rfl (fun h => ?_) (fun h => ?_) <;> try simp only [ifs] at h) <;> (try (exfalso; omega))) | refine awp_ret ?_))
        (refine retA_is (by (simp (implicitDefEqProofs := false) (maxSteps := 2000000) (disch := omega) only [go_sem, Go.Proofs.Tryz.results72, checkM_ok hh hp hb]); rfl) ?_; refine eN hE ?_; simp [oneA, ren, renL, checkM_ok hh hp hb])
    · have y0 : (pickM s == 0) = false := by simpa using z0
      have hp : partsM s = pickM s := by simp [partsM, hk, z0]
      (repeat' (first | refine awp_seq ?_ | refine awp_block ?_ | refine awp_skip ?_ | refine awp_exit ?_ | ((first | refine rR (fun K kp hK hkp => ?_) | refine rX (id := 16) mixed [1] 24 [0,1,2,3,4,5,6,7,8,9,10,11,12,13,14,15,16,17,18,19,20,21,22,23] (fun K kp hK hkp => ?_) | refine rX (id := 19) mixed [1] 12 [0,1,2,3,4,5,6,7,8,9,10,11] (fun K kp hK hkp => ?_) | refine cR tc ?_ | refine cD tc ?_ | refine cX tc ?_ | refine cR p0 ?_ | refine cD p0 ?_ | refine cX p0 ?_ | refine iG ?_ | refine iD ?_ | refine iX ?_); simp (implicitDefEqProofs := false) (maxSteps := 2000000) (disch := omega) only [go_sem, eST, hk, y0]; (repeat' (first | (refine hK _ ?_; clear hK hkp kp K) | (with_reducible refine And.intro ?_ ?_) | omega))) | ((first | refine aG (fun h => ?_) (fun h => ?_) | refine aD (fun h => ?_) (fun h => ?_) | refine aX (fun h => ?_) (fun h => ?_)) <;> simp only [h]) | refine awp_cond_t rfl ?_ | refine awp_cond_f rfl ?_ | ((refine awp_cond rfl (fun h => ?_) (fun h => ?_) <;> try simp only [ifs] at h) <;> (try (exfalso; omega))) | refine awp_ret ?_))
      (refine retA_is (by (simp (implicitDefEqProofs := false) (maxSteps := 2000000) (disch := omega) only [go_sem, Go.Proofs.Tryz.results72, checkM_parts hh (hp ▸ z0), hp]); rfl) ?_; refine eN hE ?_; simp [oneA, ren, renL, checkM_parts hh (hp ▸ z0), hp])
  · have bn : (nameM s.tab != 0) = true := by simpa using hn
    (repeat' (first | refine awp_seq ?_ | refine awp_block ?_ | refine awp_skip ?_ | refine awp_exit ?_ | ((first | refine rR (fun K kp hK hkp => ?_) | refine rX (id := 16) mixed [] 24 [0,1,2,3,4,5,6,7,8,9,10,11,12,13,14,15,16,17,18,19,20,21,22,23] (fun K kp hK hkp => ?_) | refine rX (id := 19) mixed [] 12 [0,1,2,3,4,5,6,7,8,9,10,11] (fun K kp hK hkp => ?_) | refine cR tc ?_ | refine cD tc ?_ | refine cX tc ?_ | refine iG ?_ | refine iD ?_ | refine iX ?_); simp (implicitDefEqProofs := false) (maxSteps := 2000000) (disch := omega) only [go_sem, eST, hk, bn]; (repeat' (first | (refine hK _ ?_; clear hK hkp kp K) | (with_reducible refine And.intro ?_ ?_) | omega))) | ((first | refine aG (fun h => ?_) (fun h => ?_) | refine aD (fun h => ?_) (fun h => ?_) | refine aX (fun h => ?_) (fun h => ?_)) <;> simp only [h]) | refine awp_cond_t rfl ?_ | refine awp_cond_f rfl ?_ | ((refine awp_cond rfl (fun h => ?_) (fun h => ?_) <;> try simp only [ifs] at h) <;> (try (exfalso; omega))) | refine awp_ret ?_))
    (refine retA_is (by (simp (implicitDefEqProofs := false) (maxSteps := 2000000) (disch := omega) only [go_sem, Go.Proofs.Tryz.results72, checkM_name (show s.k < 7 by omega) hn]); rfl) ?_; refine eN hE ?_; simp [oneA, ren, renL, checkM_name (show s.k < 7 by omega) hn])
set_option maxRecDepth 100000 in
set_option maxHeartbeats 8000000 in
theorem check5_con {G : List (Nat × List Value)} (T : Tabs G) (s : ST) (o : okST s) (hk : s.k = 5) : Con Go.Proofs.Tryz.prog G 72 [.agg (eST s)] [] 0 (Is (.r (.int .i64 (checkM s))) [] 0) No := by
  refine con_of_awp Go.Proofs.Tryz.func72 rfl (by kernel_rfl) (of_decide_eq_true (by kernel_rfl)) ?_; intro E hG hE; subst hG; simp only [ent]
  have tc := name_con T s.tab o.tab
  by_cases hn : nameM s.tab = 0
  · rw [hn] at tc
    have hh : ¬ (s.k < 7 ∧ nameM s.tab ≠ 0) := fun h => h.2 hn
    have p0 := name_con T s.set o.set
    by_cases z0 : nameM s.set = 0
    · rw [z0] at p0
      have p1 := expression_con T true s.to o.lt o.to
      by_cases z1 : exprM s.to = 0
      · rw [z1] at p1
        have p2 := where_con T true s.wh o.lw o.wh
        by_cases z2 : whereM s.wh = 0
        · rw [z2] at p2
          have hp : partsM s = 0 := by simp [partsM, hk, z0, z1, z2]
          have hS : hasM s = ⟨5, s.tab, [], [], [], false, s.wh, b0, false, -1, s.set, s.to⟩ := by simp [hasM, hk]
          have bc := bare_con E.G s (hasM s)
          cases hb : bareB s (hasM s)
          · rw [hb, hS] at bc
            simp only [eST, hk, List.map_nil] at bc
            have bc := bc.weak (xs := [.agg [.r (.int .i64 5), .r (.string s.tab), .ro true 2 (s.cols.map eC), .ro true 3 (s.row.map eV), .ro true 1 (s.names.map eStr), .r (.bool s.count), .ro true 5 (s.wh.map eO), .r (.string s.ord), .r (.bool s.down), .r (.int .i64 s.lim), .r (.string s.set), .ro true 5 (s.to.map eO)], .agg [.r (.int .i64 5), .r (.string s.tab), .r (.slice none 0 0), .r (.slice none 0 0), .r (.slice none 0 0), .r (.bool false), .ro true 5 (s.wh.map eO), .r (.string b0), .r (.bool false), .r (.int .i64 (-1)), .r (.string s.set), .ro true 5 (s.to.map eO)]]) (by simp [wkL, wk])
            (repeat' (first | refine awp_seq ?_ | refine awp_block ?_ | refine awp_skip ?_ | refine awp_exit ?_ | ((first | refine rR (fun K kp hK hkp => ?_) | refine rX (id := 16) mixed [1] 24 [0,1,2,3,4,5,6,7,8,9,10,11,12,13,14,15,16,17,18,19,20,21,22,23] (fun K kp hK hkp => ?_) | refine rX (id := 19) mixed [1] 12 [0,1,2,3,4,5,6,7,8,9,10,11] (fun K kp hK hkp => ?_) | refine cR tc ?_ | refine cD tc ?_ | refine cX tc ?_ | refine cR p0 ?_ | refine cD p0 ?_ | refine cX p0 ?_ | refine cR p1 ?_ | refine cD p1 ?_ | refine cX p1 ?_ | refine cR p2 ?_ | refine cD p2 ?_ | refine cX p2 ?_ | refine cR bc ?_ | refine cD bc ?_ | refine cX bc ?_ | refine iG ?_ | refine iD ?_ | refine iX ?_); simp (implicitDefEqProofs := false) (maxSteps := 2000000) (disch := omega) only [go_sem, eST, hk]; (repeat' (first | (refine hK _ ?_; clear hK hkp kp K) | (with_reducible refine And.intro ?_ ?_) | omega))) | ((first | refine aG (fun h => ?_) (fun h => ?_) | refine aD (fun h => ?_) (fun h => ?_) | refine aX (fun h => ?_) (fun h => ?_)) <;> simp only [h]) | refine awp_cond_t rfl ?_ | refine awp_cond_f rfl ?_ | ((refine awp_cond rfl (fun h => ?_) (fun h => ?_) <;> try simp only [ifs] at h) <;> (try (exfalso; omega))) | refine awp_ret ?_))
            (refine retA_is (by (simp (implicitDefEqProofs := false) (maxSteps := 2000000) (disch := omega) only [go_sem, Go.Proofs.Tryz.results72, checkM_form hh hp hb]); rfl) ?_; refine eN hE ?_; simp [oneA, ren, renL, checkM_form hh hp hb])
          · rw [hb, hS] at bc
            simp only [eST, hk, List.map_nil] at bc
            have bc := bc.weak (xs := [.agg [.r (.int .i64 5), .r (.string s.tab), .ro true 2 (s.cols.map eC), .ro true 3 (s.row.map eV), .ro true 1 (s.names.map eStr), .r (.bool s.count), .ro true 5 (s.wh.map eO), .r (.string s.ord), .r (.bool s.down), .r (.int .i64 s.lim), .r (.string s.set), .ro true 5 (s.to.map eO)], .agg [.r (.int .i64 5), .r (.string s.tab), .r (.slice none 0 0), .r (.slice none 0 0), .r (.slice none 0 0), .r (.bool false), .ro true 5 (s.wh.map eO), .r (.string b0), .r (.bool false), .r (.int .i64 (-1)), .r (.string s.set), .ro true 5 (s.to.map eO)]]) (by simp [wkL, wk])
            (repeat' (first | refine awp_seq ?_ | refine awp_block ?_ | refine awp_skip ?_ | refine awp_exit ?_ | ((first | refine rR (fun K kp hK hkp => ?_) | refine rX (id := 16) mixed [1] 24 [0,1,2,3,4,5,6,7,8,9,10,11,12,13,14,15,16,17,18,19,20,21,22,23] (fun K kp hK hkp => ?_) | refine rX (id := 19) mixed [1] 12 [0,1,2,3,4,5,6,7,8,9,10,11] (fun K kp hK hkp => ?_) | refine cR tc ?_ | refine cD tc ?_ | refine cX tc ?_ | refine cR p0 ?_ | refine cD p0 ?_ | refine cX p0 ?_ | refine cR p1 ?_ | refine cD p1 ?_ | refine cX p1 ?_ | refine cR p2 ?_ | refine cD p2 ?_ | refine cX p2 ?_ | refine cR bc ?_ | refine cD bc ?_ | refine cX bc ?_ | refine iG ?_ | refine iD ?_ | refine iX ?_); simp (implicitDefEqProofs := false) (maxSteps := 2000000) (disch := omega) only [go_sem, eST, hk]; (repeat' (first | (refine hK _ ?_; clear hK hkp kp K) | (with_reducible refine And.intro ?_ ?_) | omega))) | ((first | refine aG (fun h => ?_) (fun h => ?_) | refine aD (fun h => ?_) (fun h => ?_) | refine aX (fun h => ?_) (fun h => ?_)) <;> simp only [h]) | refine awp_cond_t rfl ?_ | refine awp_cond_f rfl ?_ | ((refine awp_cond rfl (fun h => ?_) (fun h => ?_) <;> try simp only [ifs] at h) <;> (try (exfalso; omega))) | refine awp_ret ?_))
            (refine retA_is (by (simp (implicitDefEqProofs := false) (maxSteps := 2000000) (disch := omega) only [go_sem, Go.Proofs.Tryz.results72, checkM_ok hh hp hb]); rfl) ?_; refine eN hE ?_; simp [oneA, ren, renL, checkM_ok hh hp hb])
        · have y2 : (whereM s.wh == 0) = false := by simpa using z2
          have hp : partsM s = whereM s.wh := by simp [partsM, hk, z0, z1, z2]
          (repeat' (first | refine awp_seq ?_ | refine awp_block ?_ | refine awp_skip ?_ | refine awp_exit ?_ | ((first | refine rR (fun K kp hK hkp => ?_) | refine rX (id := 16) mixed [1] 24 [0,1,2,3,4,5,6,7,8,9,10,11,12,13,14,15,16,17,18,19,20,21,22,23] (fun K kp hK hkp => ?_) | refine rX (id := 19) mixed [1] 12 [0,1,2,3,4,5,6,7,8,9,10,11] (fun K kp hK hkp => ?_) | refine cR tc ?_ | refine cD tc ?_ | refine cX tc ?_ | refine cR p0 ?_ | refine cD p0 ?_ | refine cX p0 ?_ | refine cR p1 ?_ | refine cD p1 ?_ | refine cX p1 ?_ | refine cR p2 ?_ | refine cD p2 ?_ | refine cX p2 ?_ | refine iG ?_ | refine iD ?_ | refine iX ?_); simp (implicitDefEqProofs := false) (maxSteps := 2000000) (disch := omega) only [go_sem, eST, hk, y2]; (repeat' (first | (refine hK _ ?_; clear hK hkp kp K) | (with_reducible refine And.intro ?_ ?_) | omega))) | ((first | refine aG (fun h => ?_) (fun h => ?_) | refine aD (fun h => ?_) (fun h => ?_) | refine aX (fun h => ?_) (fun h => ?_)) <;> simp only [h]) | refine awp_cond_t rfl ?_ | refine awp_cond_f rfl ?_ | ((refine awp_cond rfl (fun h => ?_) (fun h => ?_) <;> try simp only [ifs] at h) <;> (try (exfalso; omega))) | refine awp_ret ?_))
          (refine retA_is (by (simp (implicitDefEqProofs := false) (maxSteps := 2000000) (disch := omega) only [go_sem, Go.Proofs.Tryz.results72, checkM_parts hh (hp ▸ z2), hp]); rfl) ?_; refine eN hE ?_; simp [oneA, ren, renL, checkM_parts hh (hp ▸ z2), hp])
      · have y1 : (exprM s.to == 0) = false := by simpa using z1
        have hp : partsM s = exprM s.to := by simp [partsM, hk, z0, z1]
        (repeat' (first | refine awp_seq ?_ | refine awp_block ?_ | refine awp_skip ?_ | refine awp_exit ?_ | ((first | refine rR (fun K kp hK hkp => ?_) | refine rX (id := 16) mixed [1] 24 [0,1,2,3,4,5,6,7,8,9,10,11,12,13,14,15,16,17,18,19,20,21,22,23] (fun K kp hK hkp => ?_) | refine rX (id := 19) mixed [1] 12 [0,1,2,3,4,5,6,7,8,9,10,11] (fun K kp hK hkp => ?_) | refine cR tc ?_ | refine cD tc ?_ | refine cX tc ?_ | refine cR p0 ?_ | refine cD p0 ?_ | refine cX p0 ?_ | refine cR p1 ?_ | refine cD p1 ?_ | refine cX p1 ?_ | refine iG ?_ | refine iD ?_ | refine iX ?_); simp (implicitDefEqProofs := false) (maxSteps := 2000000) (disch := omega) only [go_sem, eST, hk, y1]; (repeat' (first | (refine hK _ ?_; clear hK hkp kp K) | (with_reducible refine And.intro ?_ ?_) | omega))) | ((first | refine aG (fun h => ?_) (fun h => ?_) | refine aD (fun h => ?_) (fun h => ?_) | refine aX (fun h => ?_) (fun h => ?_)) <;> simp only [h]) | refine awp_cond_t rfl ?_ | refine awp_cond_f rfl ?_ | ((refine awp_cond rfl (fun h => ?_) (fun h => ?_) <;> try simp only [ifs] at h) <;> (try (exfalso; omega))) | refine awp_ret ?_))
        (refine retA_is (by (simp (implicitDefEqProofs := false) (maxSteps := 2000000) (disch := omega) only [go_sem, Go.Proofs.Tryz.results72, checkM_parts hh (hp ▸ z1), hp]); rfl) ?_; refine eN hE ?_; simp [oneA, ren, renL, checkM_parts hh (hp ▸ z1), hp])
    · have y0 : (nameM s.set == 0) = false := by simpa using z0
      have hp : partsM s = nameM s.set := by simp [partsM, hk, z0]
      (repeat' (first | refine awp_seq ?_ | refine awp_block ?_ | refine awp_skip ?_ | refine awp_exit ?_ | ((first | refine rR (fun K kp hK hkp => ?_) | refine rX (id := 16) mixed [1] 24 [0,1,2,3,4,5,6,7,8,9,10,11,12,13,14,15,16,17,18,19,20,21,22,23] (fun K kp hK hkp => ?_) | refine rX (id := 19) mixed [1] 12 [0,1,2,3,4,5,6,7,8,9,10,11] (fun K kp hK hkp => ?_) | refine cR tc ?_ | refine cD tc ?_ | refine cX tc ?_ | refine cR p0 ?_ | refine cD p0 ?_ | refine cX p0 ?_ | refine iG ?_ | refine iD ?_ | refine iX ?_); simp (implicitDefEqProofs := false) (maxSteps := 2000000) (disch := omega) only [go_sem, eST, hk, y0]; (repeat' (first | (refine hK _ ?_; clear hK hkp kp K) | (with_reducible refine And.intro ?_ ?_) | omega))) | ((first | refine aG (fun h => ?_) (fun h => ?_) | refine aD (fun h => ?_) (fun h => ?_) | refine aX (fun h => ?_) (fun h => ?_)) <;> simp only [h]) | refine awp_cond_t rfl ?_ | refine awp_cond_f rfl ?_ | ((refine awp_cond rfl (fun h => ?_) (fun h => ?_) <;> try simp only [ifs] at h) <;> (try (exfalso; omega))) | refine awp_ret ?_))
      (refine retA_is (by (simp (implicitDefEqProofs := false) (maxSteps := 2000000) (disch := omega) only [go_sem, Go.Proofs.Tryz.results72, checkM_parts hh (hp ▸ z0), hp]); rfl) ?_; refine eN hE ?_; simp [oneA, ren, renL, checkM_parts hh (hp ▸ z0), hp])
  · have bn : (nameM s.tab != 0) = true := by simpa using hn
    (repeat' (first | refine awp_seq ?_ | refine awp_block ?_ | refine awp_skip ?_ | refine awp_exit ?_ | ((first | refine rR (fun K kp hK hkp => ?_) | refine rX (id := 16) mixed [] 24 [0,1,2,3,4,5,6,7,8,9,10,11,12,13,14,15,16,17,18,19,20,21,22,23] (fun K kp hK hkp => ?_) | refine rX (id := 19) mixed [] 12 [0,1,2,3,4,5,6,7,8,9,10,11] (fun K kp hK hkp => ?_) | refine cR tc ?_ | refine cD tc ?_ | refine cX tc ?_ | refine iG ?_ | refine iD ?_ | refine iX ?_); simp (implicitDefEqProofs := false) (maxSteps := 2000000) (disch := omega) only [go_sem, eST, hk, bn]; (repeat' (first | (refine hK _ ?_; clear hK hkp kp K) | (with_reducible refine And.intro ?_ ?_) | omega))) | ((first | refine aG (fun h => ?_) (fun h => ?_) | refine aD (fun h => ?_) (fun h => ?_) | refine aX (fun h => ?_) (fun h => ?_)) <;> simp only [h]) | refine awp_cond_t rfl ?_ | refine awp_cond_f rfl ?_ | ((refine awp_cond rfl (fun h => ?_) (fun h => ?_) <;> try simp only [ifs] at h) <;> (try (exfalso; omega))) | refine awp_ret ?_))
    (refine retA_is (by (simp (implicitDefEqProofs := false) (maxSteps := 2000000) (disch := omega) only [go_sem, Go.Proofs.Tryz.results72, checkM_name (show s.k < 7 by omega) hn]); rfl) ?_; refine eN hE ?_; simp [oneA, ren, renL, checkM_name (show s.k < 7 by omega) hn])
set_option maxRecDepth 100000 in
set_option maxHeartbeats 8000000 in
theorem check6_con {G : List (Nat × List Value)} (T : Tabs G) (s : ST) (o : okST s) (hk : s.k = 6) : Con Go.Proofs.Tryz.prog G 72 [.agg (eST s)] [] 0 (Is (.r (.int .i64 (checkM s))) [] 0) No := by
  refine con_of_awp Go.Proofs.Tryz.func72 rfl (by kernel_rfl) (of_decide_eq_true (by kernel_rfl)) ?_; intro E hG hE; subst hG; simp only [ent]
  have tc := name_con T s.tab o.tab
  by_cases hn : nameM s.tab = 0
  · rw [hn] at tc
    have hh : ¬ (s.k < 7 ∧ nameM s.tab ≠ 0) := fun h => h.2 hn
    have p0 := where_con T true s.wh o.lw o.wh
    by_cases z0 : whereM s.wh = 0
    · rw [z0] at p0
      have hp : partsM s = 0 := by simp [partsM, hk, z0]
      have hS : hasM s = ⟨6, s.tab, [], [], [], false, s.wh, b0, false, -1, b0, []⟩ := by simp [hasM, hk]
      have bc := bare_con E.G s (hasM s)
      cases hb : bareB s (hasM s)
      · rw [hb, hS] at bc
        simp only [eST, hk, List.map_nil] at bc
        have bc := bc.weak (xs := [.agg [.r (.int .i64 6), .r (.string s.tab), .ro true 2 (s.cols.map eC), .ro true 3 (s.row.map eV), .ro true 1 (s.names.map eStr), .r (.bool s.count), .ro true 5 (s.wh.map eO), .r (.string s.ord), .r (.bool s.down), .r (.int .i64 s.lim), .r (.string s.set), .ro true 5 (s.to.map eO)], .agg [.r (.int .i64 6), .r (.string s.tab), .r (.slice none 0 0), .r (.slice none 0 0), .r (.slice none 0 0), .r (.bool false), .ro true 5 (s.wh.map eO), .r (.string b0), .r (.bool false), .r (.int .i64 (-1)), .r (.string b0), .r (.slice none 0 0)]]) (by simp [wkL, wk])
        (repeat' (first | refine awp_seq ?_ | refine awp_block ?_ | refine awp_skip ?_ | refine awp_exit ?_ | ((first | refine rR (fun K kp hK hkp => ?_) | refine rX (id := 16) mixed [1] 24 [0,1,2,3,4,5,6,7,8,9,10,11,12,13,14,15,16,17,18,19,20,21,22,23] (fun K kp hK hkp => ?_) | refine rX (id := 19) mixed [1] 12 [0,1,2,3,4,5,6,7,8,9,10,11] (fun K kp hK hkp => ?_) | refine cR tc ?_ | refine cD tc ?_ | refine cX tc ?_ | refine cR p0 ?_ | refine cD p0 ?_ | refine cX p0 ?_ | refine cR bc ?_ | refine cD bc ?_ | refine cX bc ?_ | refine iG ?_ | refine iD ?_ | refine iX ?_); simp (implicitDefEqProofs := false) (maxSteps := 2000000) (disch := omega) only [go_sem, eST, hk]; (repeat' (first | (refine hK _ ?_; clear hK hkp kp K) | (with_reducible refine And.intro ?_ ?_) | omega))) | ((first | refine aG (fun h => ?_) (fun h => ?_) | refine aD (fun h => ?_) (fun h => ?_) | refine aX (fun h => ?_) (fun h => ?_)) <;> simp only [h]) | refine awp_cond_t rfl ?_ | refine awp_cond_f rfl ?_ | ((refine awp_cond rfl (fun h => ?_) (fun h => ?_) <;> try simp only [ifs] at h) <;> (try (exfalso; omega))) | refine awp_ret ?_))
        (refine retA_is (by (simp (implicitDefEqProofs := false) (maxSteps := 2000000) (disch := omega) only [go_sem, Go.Proofs.Tryz.results72, checkM_form hh hp hb]); rfl) ?_; refine eN hE ?_; simp [oneA, ren, renL, checkM_form hh hp hb])
      · rw [hb, hS] at bc
        simp only [eST, hk, List.map_nil] at bc
        have bc := bc.weak (xs := [.agg [.r (.int .i64 6), .r (.string s.tab), .ro true 2 (s.cols.map eC), .ro true 3 (s.row.map eV), .ro true 1 (s.names.map eStr), .r (.bool s.count), .ro true 5 (s.wh.map eO), .r (.string s.ord), .r (.bool s.down), .r (.int .i64 s.lim), .r (.string s.set), .ro true 5 (s.to.map eO)], .agg [.r (.int .i64 6), .r (.string s.tab), .r (.slice none 0 0), .r (.slice none 0 0), .r (.slice none 0 0), .r (.bool false), .ro true 5 (s.wh.map eO), .r (.string b0), .r (.bool false), .r (.int .i64 (-1)), .r (.string b0), .r (.slice none 0 0)]]) (by simp [wkL, wk])
        (repeat' (first | refine awp_seq ?_ | refine awp_block ?_ | refine awp_skip ?_ | refine awp_exit ?_ | ((first | refine rR (fun K kp hK hkp => ?_) | refine rX (id := 16) mixed [1] 24 [0,1,2,3,4,5,6,7,8,9,10,11,12,13,14,15,16,17,18,19,20,21,22,23] (fun K kp hK hkp => ?_) | refine rX (id := 19) mixed [1] 12 [0,1,2,3,4,5,6,7,8,9,10,11] (fun K kp hK hkp => ?_) | refine cR tc ?_ | refine cD tc ?_ | refine cX tc ?_ | refine cR p0 ?_ | refine cD p0 ?_ | refine cX p0 ?_ | refine cR bc ?_ | refine cD bc ?_ | refine cX bc ?_ | refine iG ?_ | refine iD ?_ | refine iX ?_); simp (implicitDefEqProofs := false) (maxSteps := 2000000) (disch := omega) only [go_sem, eST, hk]; (repeat' (first | (refine hK _ ?_; clear hK hkp kp K) | (with_reducible refine And.intro ?_ ?_) | omega))) | ((first | refine aG (fun h => ?_) (fun h => ?_) | refine aD (fun h => ?_) (fun h => ?_) | refine aX (fun h => ?_) (fun h => ?_)) <;> simp only [h]) | refine awp_cond_t rfl ?_ | refine awp_cond_f rfl ?_ | ((refine awp_cond rfl (fun h => ?_) (fun h => ?_) <;> try simp only [ifs] at h) <;> (try (exfalso; omega))) | refine awp_ret ?_))
        (refine retA_is (by (simp (implicitDefEqProofs := false) (maxSteps := 2000000) (disch := omega) only [go_sem, Go.Proofs.Tryz.results72, checkM_ok hh hp hb]); rfl) ?_; refine eN hE ?_; simp [oneA, ren, renL, checkM_ok hh hp hb])
    · have y0 : (whereM s.wh == 0) = false := by simpa using z0
      have hp : partsM s = whereM s.wh := by simp [partsM, hk, z0]
      (repeat' (first | refine awp_seq ?_ | refine awp_block ?_ | refine awp_skip ?_ | refine awp_exit ?_ | ((first | refine rR (fun K kp hK hkp => ?_) | refine rX (id := 16) mixed [1] 24 [0,1,2,3,4,5,6,7,8,9,10,11,12,13,14,15,16,17,18,19,20,21,22,23] (fun K kp hK hkp => ?_) | refine rX (id := 19) mixed [1] 12 [0,1,2,3,4,5,6,7,8,9,10,11] (fun K kp hK hkp => ?_) | refine cR tc ?_ | refine cD tc ?_ | refine cX tc ?_ | refine cR p0 ?_ | refine cD p0 ?_ | refine cX p0 ?_ | refine iG ?_ | refine iD ?_ | refine iX ?_); simp (implicitDefEqProofs := false) (maxSteps := 2000000) (disch := omega) only [go_sem, eST, hk, y0]; (repeat' (first | (refine hK _ ?_; clear hK hkp kp K) | (with_reducible refine And.intro ?_ ?_) | omega))) | ((first | refine aG (fun h => ?_) (fun h => ?_) | refine aD (fun h => ?_) (fun h => ?_) | refine aX (fun h => ?_) (fun h => ?_)) <;> simp only [h]) | refine awp_cond_t rfl ?_ | refine awp_cond_f rfl ?_ | ((refine awp_cond rfl (fun h => ?_) (fun h => ?_) <;> try simp only [ifs] at h) <;> (try (exfalso; omega))) | refine awp_ret ?_))
      (refine retA_is (by (simp (implicitDefEqProofs := false) (maxSteps := 2000000) (disch := omega) only [go_sem, Go.Proofs.Tryz.results72, checkM_parts hh (hp ▸ z0), hp]); rfl) ?_; refine eN hE ?_; simp [oneA, ren, renL, checkM_parts hh (hp ▸ z0), hp])
  · have bn : (nameM s.tab != 0) = true := by simpa using hn
    (repeat' (first | refine awp_seq ?_ | refine awp_block ?_ | refine awp_skip ?_ | refine awp_exit ?_ | ((first | refine rR (fun K kp hK hkp => ?_) | refine rX (id := 16) mixed [] 24 [0,1,2,3,4,5,6,7,8,9,10,11,12,13,14,15,16,17,18,19,20,21,22,23] (fun K kp hK hkp => ?_) | refine rX (id := 19) mixed [] 12 [0,1,2,3,4,5,6,7,8,9,10,11] (fun K kp hK hkp => ?_) | refine cR tc ?_ | refine cD tc ?_ | refine cX tc ?_ | refine iG ?_ | refine iD ?_ | refine iX ?_); simp (implicitDefEqProofs := false) (maxSteps := 2000000) (disch := omega) only [go_sem, eST, hk, bn]; (repeat' (first | (refine hK _ ?_; clear hK hkp kp K) | (with_reducible refine And.intro ?_ ?_) | omega))) | ((first | refine aG (fun h => ?_) (fun h => ?_) | refine aD (fun h => ?_) (fun h => ?_) | refine aX (fun h => ?_) (fun h => ?_)) <;> simp only [h]) | refine awp_cond_t rfl ?_ | refine awp_cond_f rfl ?_ | ((refine awp_cond rfl (fun h => ?_) (fun h => ?_) <;> try simp only [ifs] at h) <;> (try (exfalso; omega))) | refine awp_ret ?_))
    (refine retA_is (by (simp (implicitDefEqProofs := false) (maxSteps := 2000000) (disch := omega) only [go_sem, Go.Proofs.Tryz.results72, checkM_name (show s.k < 7 by omega) hn]); rfl) ?_; refine eN hE ?_; simp [oneA, ren, renL, checkM_name (show s.k < 7 by omega) hn])
set_option maxRecDepth 100000 in
set_option maxHeartbeats 8000000 in
theorem check7_con {G : List (Nat × List Value)} (T : Tabs G) (s : ST) (o : okST s) (hk : 7 ≤ s.k) : Con Go.Proofs.Tryz.prog G 72 [.agg (eST s)] [] 0 (Is (.r (.int .i64 (checkM s))) [] 0) No := by
  refine con_of_awp Go.Proofs.Tryz.func72 rfl (by kernel_rfl) (of_decide_eq_true (by kernel_rfl)) ?_; intro E hG hE; subst hG; simp only [ent]
  have d7 : decide (s.k < 7) = false := decide_eq_false (by omega)
  have e1 : (s.k == 1) = false := by simp; omega
  have e3 : (s.k == 3) = false := by simp; omega
  have e4 : (s.k == 4) = false := by simp; omega
  have e5 : (s.k == 5) = false := by simp; omega
  have e6 : (s.k == 6) = false := by simp; omega
  have hh : ¬ (s.k < 7 ∧ nameM s.tab ≠ 0) := fun h => by omega
  have hp : partsM s = 0 := by rw [partsM, if_neg (by omega), if_neg (by omega), if_neg (by omega), if_neg (by omega), if_neg (by omega)]
  have hS : hasM s = ⟨s.k, b0, [], [], [], false, [], b0, false, -1, b0, []⟩ := by rw [hasM, if_neg (by omega), if_neg (by omega), if_neg (by omega), if_neg (by omega), if_neg (by omega), if_neg (by omega)]
  have bc := bare_con E.G s (hasM s)
  cases hb : bareB s (hasM s)
  · rw [hb, hS] at bc
    simp only [eST, List.map_nil] at bc
    have bc := bc.weak (xs := [.agg [.r (.int .i64 s.k), .r (.string s.tab), .ro true 2 (s.cols.map eC), .ro true 3 (s.row.map eV), .ro true 1 (s.names.map eStr), .r (.bool s.count), .ro true 5 (s.wh.map eO), .r (.string s.ord), .r (.bool s.down), .r (.int .i64 s.lim), .r (.string s.set), .ro true 5 (s.to.map eO)], .agg [.r (.int .i64 s.k), .r (.string b0), .r (.slice none 0 0), .r (.slice none 0 0), .r (.slice none 0 0), .r (.bool false), .r (.slice none 0 0), .r (.string b0), .r (.bool false), .r (.int .i64 (-1)), .r (.string b0), .r (.slice none 0 0)]]) (by simp [wkL, wk])
    (repeat' (first | refine awp_seq ?_ | refine awp_block ?_ | refine awp_skip ?_ | refine awp_exit ?_ | ((first | refine rR (fun K kp hK hkp => ?_) | refine rX (id := 16) mixed [1] 24 [0,1,2,3,4,5,6,7,8,9,10,11,12,13,14,15,16,17,18,19,20,21,22,23] (fun K kp hK hkp => ?_) | refine rX (id := 19) mixed [1] 12 [0,1,2,3,4,5,6,7,8,9,10,11] (fun K kp hK hkp => ?_) | refine cR bc ?_ | refine cD bc ?_ | refine cX bc ?_ | refine iG ?_ | refine iD ?_ | refine iX ?_); simp (implicitDefEqProofs := false) (maxSteps := 2000000) (disch := omega) only [go_sem, eST, d7, e1, e3, e4, e5, e6]; (repeat' (first | (refine hK _ ?_; clear hK hkp kp K) | (with_reducible refine And.intro ?_ ?_) | omega))) | ((first | refine aG (fun h => ?_) (fun h => ?_) | refine aD (fun h => ?_) (fun h => ?_) | refine aX (fun h => ?_) (fun h => ?_)) <;> simp only [h]) | refine awp_cond_t rfl ?_ | refine awp_cond_f rfl ?_ | ((refine awp_cond rfl (fun h => ?_) (fun h => ?_) <;> try simp only [ifs] at h) <;> (try (exfalso; omega))) | refine awp_ret ?_))
    (refine retA_is (by (simp (implicitDefEqProofs := false) (maxSteps := 2000000) (disch := omega) only [go_sem, Go.Proofs.Tryz.results72, checkM_form hh hp hb]); rfl) ?_; refine eN hE ?_; simp [oneA, ren, renL, checkM_form hh hp hb])
  · rw [hb, hS] at bc
    simp only [eST, List.map_nil] at bc
    have bc := bc.weak (xs := [.agg [.r (.int .i64 s.k), .r (.string s.tab), .ro true 2 (s.cols.map eC), .ro true 3 (s.row.map eV), .ro true 1 (s.names.map eStr), .r (.bool s.count), .ro true 5 (s.wh.map eO), .r (.string s.ord), .r (.bool s.down), .r (.int .i64 s.lim), .r (.string s.set), .ro true 5 (s.to.map eO)], .agg [.r (.int .i64 s.k), .r (.string b0), .r (.slice none 0 0), .r (.slice none 0 0), .r (.slice none 0 0), .r (.bool false), .r (.slice none 0 0), .r (.string b0), .r (.bool false), .r (.int .i64 (-1)), .r (.string b0), .r (.slice none 0 0)]]) (by simp [wkL, wk])
    (repeat' (first | refine awp_seq ?_ | refine awp_block ?_ | refine awp_skip ?_ | refine awp_exit ?_ | ((first | refine rR (fun K kp hK hkp => ?_) | refine rX (id := 16) mixed [1] 24 [0,1,2,3,4,5,6,7,8,9,10,11,12,13,14,15,16,17,18,19,20,21,22,23] (fun K kp hK hkp => ?_) | refine rX (id := 19) mixed [1] 12 [0,1,2,3,4,5,6,7,8,9,10,11] (fun K kp hK hkp => ?_) | refine cR bc ?_ | refine cD bc ?_ | refine cX bc ?_ | refine iG ?_ | refine iD ?_ | refine iX ?_); simp (implicitDefEqProofs := false) (maxSteps := 2000000) (disch := omega) only [go_sem, eST, d7, e1, e3, e4, e5, e6]; (repeat' (first | (refine hK _ ?_; clear hK hkp kp K) | (with_reducible refine And.intro ?_ ?_) | omega))) | ((first | refine aG (fun h => ?_) (fun h => ?_) | refine aD (fun h => ?_) (fun h => ?_) | refine aX (fun h => ?_) (fun h => ?_)) <;> simp only [h]) | refine awp_cond_t rfl ?_ | refine awp_cond_f rfl ?_ | ((refine awp_cond rfl (fun h => ?_) (fun h => ?_) <;> try simp only [ifs] at h) <;> (try (exfalso; omega))) | refine awp_ret ?_))
    (refine retA_is (by (simp (implicitDefEqProofs := false) (maxSteps := 2000000) (disch := omega) only [go_sem, Go.Proofs.Tryz.results72, checkM_ok hh hp hb]); rfl) ?_; refine eN hE ?_; simp [oneA, ren, renL, checkM_ok hh hp hb])
theorem check_con {G : List (Nat × List Value)} (T : Tabs G) (s : ST) (o : okST s) (h1 : 1 ≤ s.k) : Con Go.Proofs.Tryz.prog G 72 [.agg (eST s)] [] 0 (Is (.r (.int .i64 (checkM s))) [] 0) No := by
  by_cases h7 : 7 ≤ s.k
  · exact check7_con T s o h7
  obtain h | h | h | h | h | h : s.k = 1 ∨ s.k = 2 ∨ s.k = 3 ∨ s.k = 4 ∨ s.k = 5 ∨ s.k = 6 := by omega
  · exact check1_con T s o h
  · exact check2_con T s o h
  · exact check3_con T s o h
  · exact check4_con T s o h
  · exact check5_con T s o h
  · exact check6_con T s o h
end Go.AM
/- Columns: expr.Cols and the reference's answer. -/
namespace Go.AM
open Go Go.RowKit
open Go.Proofs.YtoecmmpjndcolaaGreatDoor (OP nameM litM exprM marksS wordsS StrsAt str SlAt letB wrdB digB bt)
attribute [local irreducible] AWP retA
theorem ok_s0 {l : List CO} (hl : l.length ≤ 1048576) (hs : ∀ c ∈ l, okS c.nm) : okST (s0 l) := by
  have h0 : okS (str []) := by rw [okS, str_size]; simp
  exact ⟨by rw [okS, s0, str_size]; simp [Go.maxLen], hs, by simp [s0], by simp [s0], by simp [s0], h0, h0, by simp [s0], hl, by simp [s0], by simp [s0], by simp [s0], by simp [s0]⟩
theorem check_s0 (l : List CO) : checkM (s0 l) = colsM l := by
  have hh : ¬ ((s0 l).k < 7 ∧ nameM (s0 l).tab ≠ 0) := fun h => h.2 name_t
  have hp : partsM (s0 l) = colsM l := by rw [partsM, if_pos (show (s0 l).k = 1 from rfl)]; rfl
  by_cases hc : colsM l = 0
  · rw [checkM_ok hh (hp.trans hc) (by simp [bareB, hasM, s0, b0, str]), hc]
  · rw [checkM_parts hh (by rw [hp]; exact hc), hp]
set_option maxRecDepth 100000 in
set_option maxHeartbeats 8000000 in
theorem parseCheck0_con {G : List (Nat × List Value)} (T : Tabs G) (l : List CO) (hl : l.length ≤ 1048576) (hs : ∀ c ∈ l, okS c.nm) : Con Go.Proofs.Tryz.prog G 44 [.agg (eST (s0 l))] [] 0 (Is (.r (.int .i64 (colsM l))) [] 0) No := by
  refine con_of_awp Go.Proofs.Tryz.func44 rfl (by kernel_rfl) (of_decide_eq_true (by kernel_rfl)) ?_; intro E hG hE; subst hG; simp only [ent]
  have cc := check1_con T (s0 l) (ok_s0 hl hs) rfl
  rw [check_s0] at cc
  simp only [eST, s0, List.map_nil] at cc
  by_cases hc : colsM l = 0
  · rw [hc] at cc ⊢
    obtain ⟨c1, c6, cg⟩ := colsM_ok hc
    have sc := show1_con T (s0 l) rfl c6 (fun c h => (cg c h).1)
    have hlen := create_len c6
    generalize createT (s0 l) = ct at sc hlen
    simp only [eST, s0, List.map_nil] at sc
    have d1 : decide ((ct.length : Int) > 100) = false := decide_eq_false (by omega)
    (repeat' (first | refine awp_seq ?_ | refine awp_block ?_ | refine awp_skip ?_ | refine awp_exit ?_ | ((first | refine rR (fun K kp hK hkp => ?_) | refine cR cc ?_ | refine cR sc ?_ | refine iG ?_); simp (implicitDefEqProofs := false) (maxSteps := 2000000) (disch := omega) only [go_sem, eST, s0, d1]; (repeat' (first | (refine hK _ ?_; clear hK hkp kp K) | (with_reducible refine And.intro ?_ ?_) | omega))) | ((first | refine aG (fun h => ?_) (fun h => ?_) | refine aD (fun h => ?_) (fun h => ?_) | refine aX (fun h => ?_) (fun h => ?_)) <;> simp only [h]) | refine awp_cond_t rfl ?_ | refine awp_cond_f rfl ?_ | ((refine awp_cond rfl (fun h => ?_) (fun h => ?_) <;> try simp only [ifs] at h) <;> (try (exfalso; omega))) | refine awp_ret ?_))
    (refine retA_is (by (simp (implicitDefEqProofs := false) (maxSteps := 2000000) (disch := omega) only [go_sem, Go.Proofs.Tryz.results44]); rfl) ?_; refine eN hE ?_; simp [oneA, ren, renL])
  · have b1 : (colsM l != 0) = true := by simpa using hc
    (repeat' (first | refine awp_seq ?_ | refine awp_block ?_ | refine awp_skip ?_ | refine awp_exit ?_ | ((first | refine rR (fun K kp hK hkp => ?_) | refine cR cc ?_ | refine iG ?_); simp (implicitDefEqProofs := false) (maxSteps := 2000000) (disch := omega) only [go_sem, eST, s0, b1]; (repeat' (first | (refine hK _ ?_; clear hK hkp kp K) | (with_reducible refine And.intro ?_ ?_) | omega))) | ((first | refine aG (fun h => ?_) (fun h => ?_) | refine aD (fun h => ?_) (fun h => ?_) | refine aX (fun h => ?_) (fun h => ?_)) <;> simp only [h]) | refine awp_cond_t rfl ?_ | refine awp_cond_f rfl ?_ | ((refine awp_cond rfl (fun h => ?_) (fun h => ?_) <;> try simp only [ifs] at h) <;> (try (exfalso; omega))) | refine awp_ret ?_))
    (refine retA_is (by (simp (implicitDefEqProofs := false) (maxSteps := 2000000) (disch := omega) only [go_sem, Go.Proofs.Tryz.results44]); rfl) ?_; refine eN hE ?_; simp [oneA, ren, renL])
set_option maxRecDepth 100000 in
set_option maxHeartbeats 8000000 in
theorem fault0_con (G : List (Nat × List Value)) (l : List CO) (hl : l.length ≤ 1048576) (hs : ∀ c ∈ l, okS c.nm) : Con Go.Proofs.Tryz.prog G 52 [.agg (eST (s0 l))] [] 0 (Is (.r (.int .i64 (colsM l))) [] 0) No := by
  refine con_of_awp Go.Proofs.Tryz.func52 rfl (by kernel_rfl) (of_decide_eq_true (by kernel_rfl)) ?_; intro E hG hE; subst hG; simp only [ent]
  have ic := in_con E.G 1 1 9
  rw [in_yes (by omega) (by omega)] at ic
  have nc := nameFault_con E.G (str [116]) (by rw [okS, str_size]; simp [Go.maxLen])
  rw [name_t] at nc
  have pc := parts1_con E.G (s0 l) rfl hl hs
  simp only [eST, s0, List.map_nil] at pc
  by_cases hc : colsM l = 0
  · rw [hc] at pc ⊢
    obtain ⟨c1, c6, cg⟩ := colsM_ok hc
    have tc := tokens1_con E.G (s0 l) rfl c6 cg (good_of_name name_t)
    have hlen := create_len c6
    generalize createT (s0 l) = ct at tc hlen
    simp only [eST, s0, List.map_nil] at tc
    have d1 : decide ((ct.length : Int) > 100) = false := decide_eq_false (by omega)
    have e0 : ((str []).toList == ByteArray.toList ⟨#[]⟩) = true := by simp [str]
    (repeat' (first | refine awp_seq ?_ | refine awp_block ?_ | refine awp_skip ?_ | refine awp_exit ?_ | ((first | refine rR (fun K kp hK hkp => ?_) | refine cR ic ?_ | refine cR nc ?_ | refine cR pc ?_ | refine cR tc ?_ | refine iG ?_); simp (implicitDefEqProofs := false) (maxSteps := 2000000) (disch := omega) only [go_sem, eST, s0, d1, e0]; (repeat' (first | (refine hK _ ?_; clear hK hkp kp K) | (with_reducible refine And.intro ?_ ?_) | omega))) | ((first | refine aG (fun h => ?_) (fun h => ?_) | refine aD (fun h => ?_) (fun h => ?_) | refine aX (fun h => ?_) (fun h => ?_)) <;> simp only [h]) | refine awp_cond_t rfl ?_ | refine awp_cond_f rfl ?_ | ((refine awp_cond rfl (fun h => ?_) (fun h => ?_) <;> try simp only [ifs] at h) <;> (try (exfalso; omega))) | refine awp_ret ?_))
    (refine retA_is (by (simp (implicitDefEqProofs := false) (maxSteps := 2000000) (disch := omega) only [go_sem, Go.Proofs.Tryz.results52]); rfl) ?_; refine eN hE ?_; simp [oneA, ren, renL])
  · have b1 : (colsM l != 0) = true := by simpa using hc
    (repeat' (first | refine awp_seq ?_ | refine awp_block ?_ | refine awp_skip ?_ | refine awp_exit ?_ | ((first | refine rR (fun K kp hK hkp => ?_) | refine cR ic ?_ | refine cR nc ?_ | refine cR pc ?_ | refine iG ?_); simp (implicitDefEqProofs := false) (maxSteps := 2000000) (disch := omega) only [go_sem, eST, s0, b1]; (repeat' (first | (refine hK _ ?_; clear hK hkp kp K) | (with_reducible refine And.intro ?_ ?_) | omega))) | ((first | refine aG (fun h => ?_) (fun h => ?_) | refine aD (fun h => ?_) (fun h => ?_) | refine aX (fun h => ?_) (fun h => ?_)) <;> simp only [h]) | refine awp_cond_t rfl ?_ | refine awp_cond_f rfl ?_ | ((refine awp_cond rfl (fun h => ?_) (fun h => ?_) <;> try simp only [ifs] at h) <;> (try (exfalso; omega))) | refine awp_ret ?_))
    (refine retA_is (by (simp (implicitDefEqProofs := false) (maxSteps := 2000000) (disch := omega) only [go_sem, Go.Proofs.Tryz.results52]); rfl) ?_; refine eN hE ?_; simp [oneA, ren, renL])
set_option maxRecDepth 100000 in
theorem exprCols_con {G : List (Nat × List Value)} (T : Tabs G) (t : Bool) (l : List CO) (hl : l.length ≤ 1048576) (hs : ∀ c ∈ l, okS c.nm) : Con Go.Proofs.Tryz.prog G 19 [.ro true 2 (l.map eC)] [] 0 (Is (.r (.int .i64 (colsM l))) [] 0) No := by
  refine con_of_awp Go.Proofs.Tryz.func19 rfl (by kernel_rfl) (of_decide_eq_true (by kernel_rfl)) ?_; intro E hG hE; subst hG; simp only [ent]
  have cc := (parseCheck0_con T l hl hs).weak (xs := [.agg [.r (.int .i64 1), .r (.string (str [116])), .ro true 2 (l.map eC), .r (.slice none 0 0), .r (.slice none 0 0), .r (.bool false), .r (.slice none 0 0), .r (.string (str [])), .r (.bool false), .r (.int .i64 (-1)), .r (.string (str [])), .r (.slice none 0 0)]]) (by simp [wkL, wk, eST, s0])
  (repeat' (first | refine awp_seq ?_ | refine awp_block ?_ | refine awp_skip ?_ | refine awp_exit ?_ | ((first | refine rR (fun K kp hK hkp => ?_) | refine cR cc ?_ | refine iG ?_); simp (implicitDefEqProofs := false) (maxSteps := 2000000) (disch := omega) only [go_sem]; (repeat' (first | (refine hK _ ?_; clear hK hkp kp K) | (with_reducible refine And.intro ?_ ?_) | omega))) | ((first | refine aG (fun h => ?_) (fun h => ?_) | refine aD (fun h => ?_) (fun h => ?_) | refine aX (fun h => ?_) (fun h => ?_)) <;> simp only [h]) | refine awp_cond_t rfl ?_ | refine awp_cond_f rfl ?_ | ((refine awp_cond rfl (fun h => ?_) (fun h => ?_) <;> try simp only [ifs] at h) <;> (try (exfalso; omega))) | refine awp_ret ?_))
  (refine retA_is (by (simp (implicitDefEqProofs := false) (maxSteps := 2000000) (disch := omega) only [go_sem, Go.Proofs.Tryz.results19]); rfl) ?_; refine eN hE ?_; simp [oneA, ren, renL])
set_option maxRecDepth 100000 in
theorem colsFault_con (G : List (Nat × List Value)) (l : List CO) (hl : l.length ≤ 1048576) (hs : ∀ c ∈ l, okS c.nm) : Con Go.Proofs.Tryz.prog G 21 [.ro true 2 (l.map eC)] [] 0 (Is (.r (.int .i64 (colsM l))) [] 0) No := by
  refine con_of_awp Go.Proofs.Tryz.func21 rfl (by kernel_rfl) (of_decide_eq_true (by kernel_rfl)) ?_; intro E hG hE; subst hG; simp only [ent]
  have cc := (fault0_con E.G l hl hs).weak (xs := [.agg [.r (.int .i64 1), .r (.string (str [116])), .ro true 2 (l.map eC), .r (.slice none 0 0), .r (.slice none 0 0), .r (.bool false), .r (.slice none 0 0), .r (.string (str [])), .r (.bool false), .r (.int .i64 (-1)), .r (.string (str [])), .r (.slice none 0 0)]]) (by simp [wkL, wk, eST, s0])
  (repeat' (first | refine awp_seq ?_ | refine awp_block ?_ | refine awp_skip ?_ | refine awp_exit ?_ | ((first | refine rR (fun K kp hK hkp => ?_) | refine cR cc ?_ | refine iG ?_); simp (implicitDefEqProofs := false) (maxSteps := 2000000) (disch := omega) only [go_sem]; (repeat' (first | (refine hK _ ?_; clear hK hkp kp K) | (with_reducible refine And.intro ?_ ?_) | omega))) | ((first | refine aG (fun h => ?_) (fun h => ?_) | refine aD (fun h => ?_) (fun h => ?_) | refine aX (fun h => ?_) (fun h => ?_)) <;> simp only [h]) | refine awp_cond_t rfl ?_ | refine awp_cond_f rfl ?_ | ((refine awp_cond rfl (fun h => ?_) (fun h => ?_) <;> try simp only [ifs] at h) <;> (try (exfalso; omega))) | refine awp_ret ?_))
  (refine retA_is (by (simp (implicitDefEqProofs := false) (maxSteps := 2000000) (disch := omega) only [go_sem, Go.Proofs.Tryz.results21]); rfl) ?_; refine eN hE ?_; simp [oneA, ren, renL])
theorem pt_eC {l : List CO} : ∀ e ∈ l.map eC, ∀ x ∈ e, PT x := by
  intro e he x hx
  obtain ⟨a, _, rfl⟩ := List.mem_map.1 he
  simp [eC] at hx; rcases hx with rfl | rfl <;> exact .r _
end Go.AM
/- Kinds: expr.Kind. -/
namespace Go.AM
open Go Go.RowKit
open Go.Proofs.YtoecmmpjndcolaaGreatDoor (OP nameM litM exprM exprFrom stepM popsM)
attribute [local irreducible] AWP retA
theorem foldR_tree {l : List CO} {tr : RT OP} (h : tr.wf arO) : foldR (foldS arO (madeM l) 0 tr.flat []) = madeA (evT (madeM l) 0 tr) := by
  have := foldS_tree arO (madeM l) 0 tr [] [] h
  rw [List.append_nil] at this
  rw [this]
  cases evT (madeM l) 0 tr <;> rfl
theorem flat_hgt {tr : RT OP} {ops : List OP} (he : exprM ops = 0) : hgt arO ops 0 = some 1 := by
  unfold exprM at he
  split at he
  · cases he
  · exact hgt_of_expr ops 0 he
set_option maxRecDepth 100000 in
theorem kindOfP_con (G : List (Nat × List Value)) (t : Bool) (l : List CO) (ops : List OP) (tr : RT OP) (hl : l.length ≤ 1048576) (he : exprM ops = 0) (hw : tr.wf arO) (hf : tr.flat = ops) :
    Con Go.Proofs.Tryz.prog G 29 [.ro true 2 (l.map eC), .ro t 5 (ops.map eO)] [] 0 (Is (madeA (evT (madeM l) 0 tr)) [] 0) No := by
  obtain ⟨h40, hk, _⟩ := tree_of_expr he
  refine con_of_awp Go.Proofs.Tryz.func29 rfl (by kernel_rfl) (of_decide_eq_true (by kernel_rfl)) ?_; intro E hG hE; subst hG; simp only [ent]
  have fc := fold_con E.G false t l ops hl h40 (fun o ho => ⟨(hk o ho).1, (hk o ho).2.1⟩) (flat_hgt (tr := tr) he)
  rw [← hf, foldR_tree hw, hf] at fc
  cases hm : evT (madeM l) 0 tr with
  | error e =>
    rw [hm] at fc; simp only [madeA] at fc ⊢
    (repeat' (first | refine awp_seq ?_ | refine awp_block ?_ | refine awp_skip ?_ | refine awp_exit ?_ | ((first | refine rR (fun K kp hK hkp => ?_) | refine cR fc ?_ | refine iG ?_); simp (implicitDefEqProofs := false) (maxSteps := 2000000) (disch := omega) only [go_sem]; (repeat' (first | (refine hK _ ?_; clear hK hkp kp K) | (with_reducible refine And.intro ?_ ?_) | omega))) | ((first | refine aG (fun h => ?_) (fun h => ?_) | refine aD (fun h => ?_) (fun h => ?_) | refine aX (fun h => ?_) (fun h => ?_)) <;> simp only [h]) | refine awp_cond_t rfl ?_ | refine awp_cond_f rfl ?_ | ((refine awp_cond rfl (fun h => ?_) (fun h => ?_) <;> try simp only [ifs] at h) <;> (try (exfalso; omega))) | refine awp_ret ?_))
    (refine retA_is (by (simp (implicitDefEqProofs := false) (maxSteps := 2000000) (disch := omega) only [go_sem, Go.Proofs.Tryz.results29]); rfl) ?_; refine eN hE ?_; simp [oneA, ren, renL])
  | ok k =>
    rw [hm] at fc; simp only [madeA] at fc ⊢
    (repeat' (first | refine awp_seq ?_ | refine awp_block ?_ | refine awp_skip ?_ | refine awp_exit ?_ | ((first | refine rR (fun K kp hK hkp => ?_) | refine cR fc ?_ | refine iG ?_); simp (implicitDefEqProofs := false) (maxSteps := 2000000) (disch := omega) only [go_sem]; (repeat' (first | (refine hK _ ?_; clear hK hkp kp K) | (with_reducible refine And.intro ?_ ?_) | omega))) | ((first | refine aG (fun h => ?_) (fun h => ?_) | refine aD (fun h => ?_) (fun h => ?_) | refine aX (fun h => ?_) (fun h => ?_)) <;> simp only [h]) | refine awp_cond_t rfl ?_ | refine awp_cond_f rfl ?_ | ((refine awp_cond rfl (fun h => ?_) (fun h => ?_) <;> try simp only [ifs] at h) <;> (try (exfalso; omega))) | refine awp_ret ?_))
    (refine retA_is (by (simp (implicitDefEqProofs := false) (maxSteps := 2000000) (disch := omega) only [go_sem, Go.Proofs.Tryz.results29]); rfl) ?_; refine eN hE ?_; simp [oneA, ren, renL])
end Go.AM
/- Kinds: expr.checked and expr.Kind. -/
namespace Go.AM
open Go Go.RowKit
open Go.Proofs.YtoecmmpjndcolaaGreatDoor (OP nameM litM exprM exprFrom stepM popsM)
attribute [local irreducible] AWP retA
def bothM (l : List CO) (ops : List OP) : Int := if colsM l ≠ 0 then colsM l else exprM ops
set_option maxRecDepth 100000 in
theorem checked_con {G : List (Nat × List Value)} (T : Tabs G) (l : List CO) (ops : List OP) (hl : l.length ≤ 1048576) (ho : ops.length ≤ 1048576) (hs : ∀ c ∈ l, okS c.nm) (hv : ∀ o ∈ ops, okO1 o) : Con Go.Proofs.Tryz.prog G 28 [.ro true 2 (l.map eC), .ro true 5 (ops.map eO)] [] 0 (Is (.r (.int .i64 (bothM l ops))) [] 0) No := by
  refine con_of_awp Go.Proofs.Tryz.func28 rfl (by kernel_rfl) (of_decide_eq_true (by kernel_rfl)) ?_; intro E hG hE; subst hG; simp only [ent]
  have cc := exprCols_con T true l hl hs
  have ec := expression_con T true ops ho hv
  by_cases h0 : colsM l = 0
  · rw [h0] at cc
    (repeat' (first | refine awp_seq ?_ | refine awp_block ?_ | refine awp_skip ?_ | refine awp_exit ?_ | ((first | refine rR (fun K kp hK hkp => ?_) | refine cR cc ?_ | refine cR ec ?_ | refine iG ?_); simp (implicitDefEqProofs := false) (maxSteps := 2000000) (disch := omega) only [go_sem]; (repeat' (first | (refine hK _ ?_; clear hK hkp kp K) | (with_reducible refine And.intro ?_ ?_) | omega))) | ((first | refine aG (fun h => ?_) (fun h => ?_) | refine aD (fun h => ?_) (fun h => ?_) | refine aX (fun h => ?_) (fun h => ?_)) <;> simp only [h]) | refine awp_cond_t rfl ?_ | refine awp_cond_f rfl ?_ | ((refine awp_cond rfl (fun h => ?_) (fun h => ?_) <;> try simp only [ifs] at h) <;> (try (exfalso; omega))) | refine awp_ret ?_))
    (refine retA_is (by (simp (implicitDefEqProofs := false) (maxSteps := 2000000) (disch := omega) only [go_sem, Go.Proofs.Tryz.results28, bothM, h0]); rfl) ?_; refine eN hE ?_; simp [oneA, ren, renL, bothM, h0])
  · have b0 : (colsM l != 0) = true := by simpa using h0
    (repeat' (first | refine awp_seq ?_ | refine awp_block ?_ | refine awp_skip ?_ | refine awp_exit ?_ | ((first | refine rR (fun K kp hK hkp => ?_) | refine cR cc ?_ | refine iG ?_); simp (implicitDefEqProofs := false) (maxSteps := 2000000) (disch := omega) only [go_sem, b0]; (repeat' (first | (refine hK _ ?_; clear hK hkp kp K) | (with_reducible refine And.intro ?_ ?_) | omega))) | ((first | refine aG (fun h => ?_) (fun h => ?_) | refine aD (fun h => ?_) (fun h => ?_) | refine aX (fun h => ?_) (fun h => ?_)) <;> simp only [h]) | refine awp_cond_t rfl ?_ | refine awp_cond_f rfl ?_ | ((refine awp_cond rfl (fun h => ?_) (fun h => ?_) <;> try simp only [ifs] at h) <;> (try (exfalso; omega))) | refine awp_ret ?_))
    (refine retA_is (by (simp (implicitDefEqProofs := false) (maxSteps := 2000000) (disch := omega) only [go_sem, Go.Proofs.Tryz.results28, bothM, h0]); rfl) ?_; refine eN hE ?_; simp [oneA, ren, renL, bothM, h0])
/-- What both answer: what is wrong with columns or ops, or what the tree makes. -/
def kindR (l : List CO) (ops : List OP) (tr : RT OP) : Except Int Int := if bothM l ops ≠ 0 then .error (bothM l ops) else evT (madeM l) 0 tr
set_option maxRecDepth 100000 in
theorem kind_con {G : List (Nat × List Value)} (T : Tabs G) (l : List CO) (ops : List OP) (tr : RT OP) (hl : l.length ≤ 1048576) (ho : ops.length ≤ 1048576) (hs : ∀ c ∈ l, okS c.nm) (hv : ∀ o ∈ ops, okO1 o) (ht : exprM ops = 0 → tr.wf arO ∧ tr.flat = ops) :
    Con Go.Proofs.Tryz.prog G 14 [.ro true 2 (l.map eC), .ro true 5 (ops.map eO)] [] 0 (Is (madeA (kindR l ops tr)) [] 0) No := by
  refine con_of_awp Go.Proofs.Tryz.func14 rfl (by kernel_rfl) (of_decide_eq_true (by kernel_rfl)) ?_; intro E hG hE; subst hG; simp only [ent]
  have cc := checked_con T l ops hl ho hs hv
  by_cases h0 : bothM l ops = 0
  · rw [h0] at cc
    have he : exprM ops = 0 := by
      unfold bothM at h0
      split at h0
      · rename_i h; exact (h h0).elim
      · exact h0
    obtain ⟨hw, hf⟩ := ht he
    have kc := kindOfP_con E.G true l ops tr hl he hw hf
    have hR : kindR l ops tr = evT (madeM l) 0 tr := by rw [kindR, if_neg (by simpa using h0)]
    rw [hR]
    cases hm : evT (madeM l) 0 tr with
    | error e =>
      rw [hm] at kc; simp only [madeA] at kc ⊢
      (repeat' (first | refine awp_seq ?_ | refine awp_block ?_ | refine awp_skip ?_ | refine awp_exit ?_ | ((first | refine rR (fun K kp hK hkp => ?_) | refine cR cc ?_ | refine cR kc ?_ | refine iG ?_); simp (implicitDefEqProofs := false) (maxSteps := 2000000) (disch := omega) only [go_sem]; (repeat' (first | (refine hK _ ?_; clear hK hkp kp K) | (with_reducible refine And.intro ?_ ?_) | omega))) | ((first | refine aG (fun h => ?_) (fun h => ?_) | refine aD (fun h => ?_) (fun h => ?_) | refine aX (fun h => ?_) (fun h => ?_)) <;> simp only [h]) | refine awp_cond_t rfl ?_ | refine awp_cond_f rfl ?_ | ((refine awp_cond rfl (fun h => ?_) (fun h => ?_) <;> try simp only [ifs] at h) <;> (try (exfalso; omega))) | refine awp_ret ?_))
      (refine retA_is (by (simp (implicitDefEqProofs := false) (maxSteps := 2000000) (disch := omega) only [go_sem, Go.Proofs.Tryz.results14]); rfl) ?_; refine eN hE ?_; simp [oneA, ren, renL])
    | ok k =>
      rw [hm] at kc; simp only [madeA] at kc ⊢
      (repeat' (first | refine awp_seq ?_ | refine awp_block ?_ | refine awp_skip ?_ | refine awp_exit ?_ | ((first | refine rR (fun K kp hK hkp => ?_) | refine cR cc ?_ | refine cR kc ?_ | refine iG ?_); simp (implicitDefEqProofs := false) (maxSteps := 2000000) (disch := omega) only [go_sem]; (repeat' (first | (refine hK _ ?_; clear hK hkp kp K) | (with_reducible refine And.intro ?_ ?_) | omega))) | ((first | refine aG (fun h => ?_) (fun h => ?_) | refine aD (fun h => ?_) (fun h => ?_) | refine aX (fun h => ?_) (fun h => ?_)) <;> simp only [h]) | refine awp_cond_t rfl ?_ | refine awp_cond_f rfl ?_ | ((refine awp_cond rfl (fun h => ?_) (fun h => ?_) <;> try simp only [ifs] at h) <;> (try (exfalso; omega))) | refine awp_ret ?_))
      (refine retA_is (by (simp (implicitDefEqProofs := false) (maxSteps := 2000000) (disch := omega) only [go_sem, Go.Proofs.Tryz.results14]); rfl) ?_; refine eN hE ?_; simp [oneA, ren, renL])
  · have b0 : (bothM l ops != 0) = true := by simpa using h0
    have hR : kindR l ops tr = .error (bothM l ops) := by rw [kindR, if_pos h0]
    rw [hR]; simp only [madeA]
    (repeat' (first | refine awp_seq ?_ | refine awp_block ?_ | refine awp_skip ?_ | refine awp_exit ?_ | ((first | refine rR (fun K kp hK hkp => ?_) | refine cR cc ?_ | refine iG ?_); simp (implicitDefEqProofs := false) (maxSteps := 2000000) (disch := omega) only [go_sem, b0]; (repeat' (first | (refine hK _ ?_; clear hK hkp kp K) | (with_reducible refine And.intro ?_ ?_) | omega))) | ((first | refine aG (fun h => ?_) (fun h => ?_) | refine aD (fun h => ?_) (fun h => ?_) | refine aX (fun h => ?_) (fun h => ?_)) <;> simp only [h]) | refine awp_cond_t rfl ?_ | refine awp_cond_f rfl ?_ | ((refine awp_cond rfl (fun h => ?_) (fun h => ?_) <;> try simp only [ifs] at h) <;> (try (exfalso; omega))) | refine awp_ret ?_))
    (refine retA_is (by (simp (implicitDefEqProofs := false) (maxSteps := 2000000) (disch := omega) only [go_sem, Go.Proofs.Tryz.results14]); rfl) ?_; refine eN hE ?_; simp [oneA, ren, renL])
end Go.AM
/- Bounds: what Kind tells. -/
namespace Go.AM
open Go Go.RowKit
open Go.Proofs.YtoecmmpjndcolaaGreatDoor (OP nameM litM exprM exprFrom stepM popsM)
theorem kindB_ok {l : List CO} {ops : List OP} {tr : RT OP} {k : Int} (h : kindR l ops tr = .ok k) : exprM ops = 0 ∧ evT (madeM l) 0 tr = .ok k := by
  unfold kindR at h
  split at h
  · cases h
  · rename_i h0
    refine ⟨?_, h⟩
    have h0 : bothM l ops = 0 := by simpa using h0
    unfold bothM at h0
    split at h0
    · rename_i h; exact (h h0).elim
    · exact h0
theorem kindB_err {l : List CO} {ops : List OP} {tr : RT OP} {e : Int} (h : kindR l ops tr = .error e) : e ≠ 0 := by
  unfold kindR at h
  split at h
  · cases h; assumption
  · exact evT_err h
end Go.AM
/- Bounds: expr.Bounds. -/
namespace Go.AM
open Go Go.RowKit
open Go.Proofs.YtoecmmpjndcolaaGreatDoor (OP nameM litM exprM exprFrom stepM popsM vcheck)
attribute [local irreducible] AWP retA
/-- What both answer. -/
def boundsR (l : List CO) (ops : List OP) (tr : RT OP) : Except Int (List UInt8 × List UInt8) :=
  if colsM l ≠ 0 then .error (colsM l) else match ops with
  | [] => .ok ([], [])
  | _ :: _ => match kindR l ops tr with
    | .error e => .error e
    | .ok k => if k ≠ 1 ∧ k ≠ 0 then .error 4 else match l with
      | [] => .error 4
      | c :: _ => .ok (boundT c.nm ([], []) tr)
def boundsA : Except Int (List UInt8 × List UInt8) → AV
  | .error e => .tup [.r (.slice none 0 0), .r (.slice none 0 0), .r (.int .i64 e)]
  | .ok (a, b) => .tup [nbA a, nbA b, .r (.int .i64 0)]
theorem lit_check {k n : Int} {s : ByteArray} (h : litM k n s = 0) : vcheck k n s = 0 := by
  unfold litM at h
  split at h
  · cases h
  · exact h
theorem cols_head {l : List CO} (h : colsM l = 0) : ∃ c r, l = c :: r := by
  cases l with
  | nil => simp [colsM] at h
  | cons c r => exact ⟨c, r, rfl⟩
set_option maxRecDepth 100000 in
set_option maxHeartbeats 8000000 in
theorem bounds_con {G : List (Nat × List Value)} (T : Tabs G) (HR : RepCon G) (l : List CO) (ops : List OP) (tr : RT OP) (hl : l.length ≤ 1048576) (ho : ops.length ≤ 1048576) (hs : ∀ c ∈ l, okS c.nm) (hv : ∀ o ∈ ops, okO1 o) (hgo : ∀ o ∈ ops, gV ⟨o.vk, o.vn, o.vs⟩) (ht : exprM ops = 0 → tr.wf arO ∧ tr.flat = ops) :
    Con Go.Proofs.Tryz.prog G 10 [.ro true 2 (l.map eC), .ro true 5 (ops.map eO)] [] 0 (Is (boundsA (boundsR l ops tr)) [] 0) No := by
  refine con_of_awp Go.Proofs.Tryz.func10 rfl (by kernel_rfl) (of_decide_eq_true (by kernel_rfl)) ?_; intro E hG hE; subst hG; simp only [ent]
  have cc := exprCols_con T true l hl hs
  by_cases h0 : colsM l = 0
  · rw [h0] at cc
    obtain ⟨c, r, hlc⟩ := cols_head h0
    by_cases hz : ops = []
    · have hR : boundsR l ops tr = .ok ([], []) := by unfold boundsR; rw [if_neg (by simpa using h0), hz]
      rw [hR]
      simp only [boundsA, nbA]
      subst hz
      (repeat' (first | refine awp_seq ?_ | refine awp_block ?_ | refine awp_skip ?_ | refine awp_exit ?_ | ((first | refine rR (fun K kp hK hkp => ?_) | refine rD (id := 13) mixed 11 [0,1,2,3,4,5,6,7,8,9,10] (fun K kp hK hkp => ?_) | refine cR cc ?_ | refine cD cc ?_ | refine iG ?_ | refine iD ?_); simp (implicitDefEqProofs := false) (maxSteps := 2000000) (disch := omega) only [go_sem]; (repeat' (first | (refine hK _ ?_; clear hK hkp kp K) | (with_reducible refine And.intro ?_ ?_) | omega))) | ((first | refine aG (fun h => ?_) (fun h => ?_) | refine aD (fun h => ?_) (fun h => ?_) | refine aX (fun h => ?_) (fun h => ?_)) <;> simp only [h]) | refine awp_cond_t rfl ?_ | refine awp_cond_f rfl ?_ | ((refine awp_cond rfl (fun h => ?_) (fun h => ?_) <;> try simp only [ifs] at h) <;> (try (exfalso; omega))) | refine awp_ret ?_))
      (refine retA_is (by (simp (implicitDefEqProofs := false) (maxSteps := 2000000) (disch := omega) only [go_sem, Go.Proofs.Tryz.results10]); rfl) ?_; refine eN hE ?_; simp [oneA, ren, renL])
    · have d1 : ((ops.length : Int) == 0) = false := by simp; exact hz
      have hR : boundsR l ops tr = match kindR l ops tr with
        | .error e => .error e
        | .ok k => if k ≠ 1 ∧ k ≠ 0 then .error 4 else .ok (boundT c.nm ([], []) tr) := by
        unfold boundsR
        rw [if_neg (by simpa using h0), hlc]
        cases ops with
        | nil => exact (hz rfl).elim
        | cons x y => rfl
      have kc := kind_con T l ops tr hl ho hs hv ht
      cases hm : kindR l ops tr with
      | error e =>
        have he : (e != 0) = true := by simp [kindB_err hm]
        rw [hm] at kc hR
        rw [hR]
        simp only [madeA, boundsA] at kc ⊢
        (repeat' (first | refine awp_seq ?_ | refine awp_block ?_ | refine awp_skip ?_ | refine awp_exit ?_ | ((first | refine rR (fun K kp hK hkp => ?_) | refine rD (id := 13) mixed 11 [0,1,2,3,4,5,6,7,8,9,10] (fun K kp hK hkp => ?_) | refine cR cc ?_ | refine cD cc ?_ | refine cR kc ?_ | refine cD kc ?_ | refine iG ?_ | refine iD ?_); simp (implicitDefEqProofs := false) (maxSteps := 2000000) (disch := omega) only [go_sem, d1, he]; (repeat' (first | (refine hK _ ?_; clear hK hkp kp K) | (with_reducible refine And.intro ?_ ?_) | omega))) | ((first | refine aG (fun h => ?_) (fun h => ?_) | refine aD (fun h => ?_) (fun h => ?_) | refine aX (fun h => ?_) (fun h => ?_)) <;> simp only [h]) | refine awp_cond_t rfl ?_ | refine awp_cond_f rfl ?_ | ((refine awp_cond rfl (fun h => ?_) (fun h => ?_) <;> try simp only [ifs] at h) <;> (try (exfalso; omega))) | refine awp_ret ?_))
        (refine retA_is (by (simp (implicitDefEqProofs := false) (maxSteps := 2000000) (disch := omega) only [go_sem, Go.Proofs.Tryz.results10]); rfl) ?_; refine eN hE ?_; simp [oneA, ren, renL])
      | ok k =>
        obtain ⟨e1, e2⟩ := kindB_ok hm
        obtain ⟨hw, hf⟩ := ht e1
        obtain ⟨h40, hk, _⟩ := tree_of_expr e1
        rw [hm] at kc hR
        simp only [madeA] at kc hR
        by_cases hkk : k = 1 ∨ k = 0
        · have hR2 : boundsR l ops tr = .ok (boundT c.nm ([], []) tr) := by rw [hR, if_neg (by rcases hkk with h | h <;> simp [h])]
          have nc := narrow_con HR true c.nm tr ([], []) hw (by rw [hf]; exact fun o ho => ⟨(hk o ho).1, (hk o ho).2.1⟩) (by rw [hf]; exact fun o ho => ⟨hgo o ho, lit_check (hk o ho).2.2.1⟩) (by rw [hf]; omega)
          rw [hf] at nc
          rw [hR2]
          obtain ⟨lo, hi, hlh⟩ : ∃ lo hi, boundT c.nm ([], []) tr = (lo, hi) := ⟨_, _, rfl⟩
          rw [hlh] at nc ⊢
          simp only [boundsA]
          subst hlc
          rcases hkk with rfl | rfl
          all_goals
            (repeat' (first | refine awp_seq ?_ | refine awp_block ?_ | refine awp_skip ?_ | refine awp_exit ?_ | ((first | refine rR (fun K kp hK hkp => ?_) | refine rD (id := 13) mixed 11 [0,1,2,3,4,5,6,7,8,9,10] (fun K kp hK hkp => ?_) | refine cR cc ?_ | refine cD cc ?_ | refine cR kc ?_ | refine cD kc ?_ | refine iG ?_ | refine iD ?_); simp (implicitDefEqProofs := false) (maxSteps := 2000000) (disch := omega) only [go_sem, d1, eC]; (repeat' (first | (refine hK _ ?_; clear hK hkp kp K) | (with_reducible refine And.intro ?_ ?_) | omega))) | ((first | refine aG (fun h => ?_) (fun h => ?_) | refine aD (fun h => ?_) (fun h => ?_) | refine aX (fun h => ?_) (fun h => ?_)) <;> simp only [h]) | refine awp_cond_t rfl ?_ | refine awp_cond_f rfl ?_ | ((refine awp_cond rfl (fun h => ?_) (fun h => ?_) <;> try simp only [ifs] at h) <;> (try (exfalso; omega))) | refine awp_ret ?_))
            refine callR_own [0] nc ?_ ?_ ?_ ?_ ?_ ?_ ?_ ?_ rfl rfl ?_
            · simp [pasL, pas, idx]
            · simp [okO, lk, boxB, renNd, renL, ren, by_, nbA]
            · intro i hi
              obtain rfl : i = 0 := by simp at hi; omega
              exact ⟨_, rfl⟩
            · simp
            · simp
            · simp
            · simp
            · simp [boxB]
            simp only [mapO, fw, rmL, rm, List.map_cons, List.map_nil, List.foldl_cons, List.foldl_nil, List.getElem?_cons_zero, List.length_cons, List.length_nil, Nat.zero_add, Nat.sub_self, Nat.add_zero, if_true, if_neg (show ¬ 1 = 0 by decide), List.cons_append, List.nil_append, ren, renL, renNd, boxB, ren_nb]
            (simp (implicitDefEqProofs := false) (maxSteps := 2000000) (disch := omega) only [go_sem]; (repeat' (first | (refine hK _ ?_; clear hK hkp kp K) | (with_reducible refine And.intro ?_ ?_) | omega)))
            (repeat' (first | refine awp_seq ?_ | refine awp_block ?_ | refine awp_skip ?_ | refine awp_exit ?_ | ((first | refine rR (fun K kp hK hkp => ?_) | refine rD (id := 13) mixed 11 [0,1,2,3,4,5,6,7,8,9,10] (fun K kp hK hkp => ?_) | refine cR cc ?_ | refine cD cc ?_ | refine cR kc ?_ | refine cD kc ?_ | refine iG ?_ | refine iD ?_); simp (implicitDefEqProofs := false) (maxSteps := 2000000) (disch := omega) only [go_sem, d1, eC]; (repeat' (first | (refine hK _ ?_; clear hK hkp kp K) | (with_reducible refine And.intro ?_ ?_) | omega))) | ((first | refine aG (fun h => ?_) (fun h => ?_) | refine aD (fun h => ?_) (fun h => ?_) | refine aX (fun h => ?_) (fun h => ?_)) <;> simp only [h]) | refine awp_cond_t rfl ?_ | refine awp_cond_f rfl ?_ | ((refine awp_cond rfl (fun h => ?_) (fun h => ?_) <;> try simp only [ifs] at h) <;> (try (exfalso; omega))) | refine awp_ret ?_))
            (refine retA_is (by (simp (implicitDefEqProofs := false) (maxSteps := 2000000) (disch := omega) only [go_sem, Go.Proofs.Tryz.results10]); rfl) ?_; refine eN hE ?_; simp [oneA, ren, renL])
        · have k1 : (k != 1) = true := by simp; exact fun h => hkk (.inl h)
          have k0 : (k != 0) = true := by simp; exact fun h => hkk (.inr h)
          have hR2 : boundsR l ops tr = .error 4 := by rw [hR, if_pos ⟨fun h => hkk (.inl h), fun h => hkk (.inr h)⟩]
          rw [hR2]
          simp only [boundsA]
          (repeat' (first | refine awp_seq ?_ | refine awp_block ?_ | refine awp_skip ?_ | refine awp_exit ?_ | ((first | refine rR (fun K kp hK hkp => ?_) | refine rD (id := 13) mixed 11 [0,1,2,3,4,5,6,7,8,9,10] (fun K kp hK hkp => ?_) | refine cR cc ?_ | refine cD cc ?_ | refine cR kc ?_ | refine cD kc ?_ | refine iG ?_ | refine iD ?_); simp (implicitDefEqProofs := false) (maxSteps := 2000000) (disch := omega) only [go_sem, d1, k1, k0]; (repeat' (first | (refine hK _ ?_; clear hK hkp kp K) | (with_reducible refine And.intro ?_ ?_) | omega))) | ((first | refine aG (fun h => ?_) (fun h => ?_) | refine aD (fun h => ?_) (fun h => ?_) | refine aX (fun h => ?_) (fun h => ?_)) <;> simp only [h]) | refine awp_cond_t rfl ?_ | refine awp_cond_f rfl ?_ | ((refine awp_cond rfl (fun h => ?_) (fun h => ?_) <;> try simp only [ifs] at h) <;> (try (exfalso; omega))) | refine awp_ret ?_))
          (refine retA_is (by (simp (implicitDefEqProofs := false) (maxSteps := 2000000) (disch := omega) only [go_sem, Go.Proofs.Tryz.results10]); rfl) ?_; refine eN hE ?_; simp [oneA, ren, renL])
  · have b0 : (colsM l != 0) = true := by simpa using h0
    have hR : boundsR l ops tr = .error (colsM l) := by unfold boundsR; rw [if_pos h0]
    rw [hR]
    simp only [boundsA]
    (repeat' (first | refine awp_seq ?_ | refine awp_block ?_ | refine awp_skip ?_ | refine awp_exit ?_ | ((first | refine rR (fun K kp hK hkp => ?_) | refine rD (id := 13) mixed 11 [0,1,2,3,4,5,6,7,8,9,10] (fun K kp hK hkp => ?_) | refine cR cc ?_ | refine cD cc ?_ | refine iG ?_ | refine iD ?_); simp (implicitDefEqProofs := false) (maxSteps := 2000000) (disch := omega) only [go_sem, b0]; (repeat' (first | (refine hK _ ?_; clear hK hkp kp K) | (with_reducible refine And.intro ?_ ?_) | omega))) | ((first | refine aG (fun h => ?_) (fun h => ?_) | refine aD (fun h => ?_) (fun h => ?_) | refine aX (fun h => ?_) (fun h => ?_)) <;> simp only [h]) | refine awp_cond_t rfl ?_ | refine awp_cond_f rfl ?_ | ((refine awp_cond rfl (fun h => ?_) (fun h => ?_) <;> try simp only [ifs] at h) <;> (try (exfalso; omega))) | refine awp_ret ?_))
    (refine retA_is (by (simp (implicitDefEqProofs := false) (maxSteps := 2000000) (disch := omega) only [go_sem, Go.Proofs.Tryz.results10]); rfl) ?_; refine eN hE ?_; simp [oneA, ren, renL])
end Go.AM
/- Kinds: the reference's KindOf; the law ExprKinds. -/
namespace Go.AM
open Go Go.RowKit
open Go.Proofs.YtoecmmpjndcolaaGreatDoor (OP nameM litM exprM exprFrom stepM popsM)
attribute [local irreducible] AWP retA
set_option maxRecDepth 100000 in
theorem colsAndOps_con (G : List (Nat × List Value)) (l : List CO) (ops : List OP) (hl : l.length ≤ 1048576) (ho : ops.length ≤ 1048576) (hs : ∀ c ∈ l, okS c.nm) (hv : ∀ o ∈ ops, okO1 o) : Con Go.Proofs.Tryz.prog G 37 [.ro true 2 (l.map eC), .ro true 5 (ops.map eO)] [] 0 (Is (.r (.int .i64 (bothM l ops))) [] 0) No := by
  refine con_of_awp Go.Proofs.Tryz.func37 rfl (by kernel_rfl) (of_decide_eq_true (by kernel_rfl)) ?_; intro E hG hE; subst hG; simp only [ent]
  have cc := colsFault_con E.G l hl hs
  have ec := expressionFault_con E.G true ops ho hv
  (repeat' (first | refine awp_seq ?_ | refine awp_block ?_ | refine awp_skip ?_ | refine awp_exit ?_ | ((first | refine rR (fun K kp hK hkp => ?_) | refine cR cc ?_ | refine cR ec ?_ | refine iG ?_); simp (implicitDefEqProofs := false) (maxSteps := 2000000) (disch := omega) only [go_sem]; (repeat' (first | (refine hK _ ?_; clear hK hkp kp K) | (with_reducible refine And.intro ?_ ?_) | omega))) | ((first | refine aG (fun h => ?_) (fun h => ?_) | refine aD (fun h => ?_) (fun h => ?_) | refine aX (fun h => ?_) (fun h => ?_)) <;> simp only [h]) | refine awp_cond_t rfl ?_ | refine awp_cond_f rfl ?_ | ((refine awp_cond rfl (fun h => ?_) (fun h => ?_) <;> try simp only [ifs] at h) <;> (try (exfalso; omega))) | refine awp_ret ?_))
  all_goals (refine retA_is (by (simp (implicitDefEqProofs := false) (maxSteps := 2000000) (disch := omega) only [go_sem, Go.Proofs.Tryz.results37]); rfl) ?_; refine (embV_nil hE (by simp) ?_).s; clear hE cc ec; simp_all [oneA, ren, renL, bothM])
set_option maxRecDepth 100000 in
theorem kindOfRef_con (G : List (Nat × List Value)) (l : List CO) (ops : List OP) (tr : RT OP) (hl : l.length ≤ 1048576) (ho : ops.length ≤ 1048576) (hs : ∀ c ∈ l, okS c.nm) (hv : ∀ o ∈ ops, okO1 o) (ht : exprM ops = 0 → tr.wf arO ∧ tr.flat = ops) :
    Con Go.Proofs.Tryz.prog G 17 [.ro true 2 (l.map eC), .ro true 5 (ops.map eO)] [] 0 (Is (madeA (kindR l ops tr)) [] 0) No := by
  refine con_of_awp Go.Proofs.Tryz.func17 rfl (by kernel_rfl) (of_decide_eq_true (by kernel_rfl)) ?_; intro E hG hE; subst hG; simp only [ent]
  have cc := colsAndOps_con E.G l ops hl ho hs hv
  by_cases h0 : bothM l ops = 0
  · rw [h0] at cc
    have he : exprM ops = 0 := by
      unfold bothM at h0
      split at h0
      · rename_i h; exact (h h0).elim
      · exact h0
    obtain ⟨hw, hf⟩ := ht he
    obtain ⟨h40, hk, _⟩ := tree_of_expr he
    have kc := kindOfR_con E.G true true l hl tr hw (by rw [hf]; exact fun o ho => ⟨(hk o ho).1, (hk o ho).2.1⟩) (by rw [hf]; omega)
    rw [hf] at kc
    have hR : kindR l ops tr = evT (madeM l) 0 tr := by rw [kindR, if_neg (by simpa using h0)]
    rw [hR]
    cases hm : evT (madeM l) 0 tr with
    | error e =>
      rw [hm] at kc; simp only [madeA] at kc ⊢
      (repeat' (first | refine awp_seq ?_ | refine awp_block ?_ | refine awp_skip ?_ | refine awp_exit ?_ | ((first | refine rR (fun K kp hK hkp => ?_) | refine cR cc ?_ | refine cR kc ?_ | refine iG ?_); simp (implicitDefEqProofs := false) (maxSteps := 2000000) (disch := omega) only [go_sem]; (repeat' (first | (refine hK _ ?_; clear hK hkp kp K) | (with_reducible refine And.intro ?_ ?_) | omega))) | ((first | refine aG (fun h => ?_) (fun h => ?_) | refine aD (fun h => ?_) (fun h => ?_) | refine aX (fun h => ?_) (fun h => ?_)) <;> simp only [h]) | refine awp_cond_t rfl ?_ | refine awp_cond_f rfl ?_ | ((refine awp_cond rfl (fun h => ?_) (fun h => ?_) <;> try simp only [ifs] at h) <;> (try (exfalso; omega))) | refine awp_ret ?_))
      (refine retA_is (by (simp (implicitDefEqProofs := false) (maxSteps := 2000000) (disch := omega) only [go_sem, Go.Proofs.Tryz.results17]); rfl) ?_; refine eN hE ?_; simp [oneA, ren, renL])
    | ok k =>
      rw [hm] at kc; simp only [madeA] at kc ⊢
      (repeat' (first | refine awp_seq ?_ | refine awp_block ?_ | refine awp_skip ?_ | refine awp_exit ?_ | ((first | refine rR (fun K kp hK hkp => ?_) | refine cR cc ?_ | refine cR kc ?_ | refine iG ?_); simp (implicitDefEqProofs := false) (maxSteps := 2000000) (disch := omega) only [go_sem]; (repeat' (first | (refine hK _ ?_; clear hK hkp kp K) | (with_reducible refine And.intro ?_ ?_) | omega))) | ((first | refine aG (fun h => ?_) (fun h => ?_) | refine aD (fun h => ?_) (fun h => ?_) | refine aX (fun h => ?_) (fun h => ?_)) <;> simp only [h]) | refine awp_cond_t rfl ?_ | refine awp_cond_f rfl ?_ | ((refine awp_cond rfl (fun h => ?_) (fun h => ?_) <;> try simp only [ifs] at h) <;> (try (exfalso; omega))) | refine awp_ret ?_))
      (refine retA_is (by (simp (implicitDefEqProofs := false) (maxSteps := 2000000) (disch := omega) only [go_sem, Go.Proofs.Tryz.results17]); rfl) ?_; refine eN hE ?_; simp [oneA, ren, renL])
  · have b0 : (bothM l ops != 0) = true := by simpa using h0
    have hR : kindR l ops tr = .error (bothM l ops) := by rw [kindR, if_pos h0]
    rw [hR]; simp only [madeA]
    (repeat' (first | refine awp_seq ?_ | refine awp_block ?_ | refine awp_skip ?_ | refine awp_exit ?_ | ((first | refine rR (fun K kp hK hkp => ?_) | refine cR cc ?_ | refine iG ?_); simp (implicitDefEqProofs := false) (maxSteps := 2000000) (disch := omega) only [go_sem, b0]; (repeat' (first | (refine hK _ ?_; clear hK hkp kp K) | (with_reducible refine And.intro ?_ ?_) | omega))) | ((first | refine aG (fun h => ?_) (fun h => ?_) | refine aD (fun h => ?_) (fun h => ?_) | refine aX (fun h => ?_) (fun h => ?_)) <;> simp only [h]) | refine awp_cond_t rfl ?_ | refine awp_cond_f rfl ?_ | ((refine awp_cond rfl (fun h => ?_) (fun h => ?_) <;> try simp only [ifs] at h) <;> (try (exfalso; omega))) | refine awp_ret ?_))
    (refine retA_is (by (simp (implicitDefEqProofs := false) (maxSteps := 2000000) (disch := omega) only [go_sem, Go.Proofs.Tryz.results17]); rfl) ?_; refine eN hE ?_; simp [oneA, ren, renL])
end Go.AM
/- Bounds: the reference's BoundsOf: plain parts. -/
namespace Go.AM
open Go Go.RowKit
open Go.Proofs.YtoecmmpjndcolaaGreatDoor (OP nameM litM exprM exprFrom stepM popsM vcheck)
attribute [local irreducible] AWP retA
theorem kb_nb (G : List (Nat × List Value)) (t : Bool) (l m : List UInt8) : Con Go.Proofs.Tryz.prog G 25 [nbA l, .ro t 1 (m.map eByte)] [] 0 (Is (.r (.bool (Op.bytesLess l m))) [] 0) No := by
  cases l with
  | nil => exact (keyBefore_con G true t [] m).weak (by simp [wkL, wk, nbA])
  | cons x r => exact keyBefore_con G true t (x :: r) m
theorem kb_nb2 (G : List (Nat × List Value)) (t : Bool) (l m : List UInt8) : Con Go.Proofs.Tryz.prog G 25 [.ro t 1 (l.map eByte), nbA m] [] 0 (Is (.r (.bool (Op.bytesLess l m))) [] 0) No := by
  cases m with
  | nil => exact (keyBefore_con G t true l []).weak (by simp [wkL, wk, nbA])
  | cons x r => exact keyBefore_con G t true l (x :: r)
/-- What may be a part. -/
def okPt (ops : List OP) : Prop := okL ops ∧ ∃ n o, ops.length = n + 1 ∧ ops[n]? = some o ∧ n ≤ 1000
theorem parts_ok : ∀ {tr : RT OP}, okL tr.flat → tr.flat.length ≤ 1000 → ∀ x ∈ partsT tr, okPt x
  | .l o, hg, hn, x, hx => by
    simp only [partsT, List.mem_singleton] at hx; subst hx
    exact ⟨hg, 0, o, by simp [RT.flat], by simp [RT.flat], by omega⟩
  | .u o s, hg, hn, x, hx => by
    simp only [partsT, List.mem_singleton] at hx; subst hx
    exact ⟨hg, s.flat.length, o, by simp [RT.flat], by simp [RT.flat], by simp [RT.flat] at hn; omega⟩
  | .b o p q, hg, hn, x, hx => by
    have hln0 : (RT.b o p q).flat.length = p.flat.length + q.flat.length + 1 := by simp [RT.flat]; omega
    rw [partsT] at hx
    split at hx
    · rcases List.mem_append.1 hx with h | h
      · exact parts_ok (fun y hy => hg y (by simp [RT.flat, hy])) (by omega) x h
      · exact parts_ok (fun y hy => hg y (by simp [RT.flat, hy])) (by omega) x h
    · simp only [List.mem_singleton] at hx; subst hx
      exact ⟨hg, p.flat.length + q.flat.length, o, hln0, by simp only [RT.flat]; rw [← List.length_append]; exact List.getElem?_concat_length, by omega⟩
theorem say_lit {key : ByteArray} {nt : Bool} {l : List OP} {w : Int} {v : V} (h : sayM key nt l = some (w, v)) : ∃ o ∈ l, v = valO o := by
  match l, h with
  | [a, b, c], h =>
    rw [sayM] at h
    repeat' split at h
    all_goals first
      | (cases h; done)
      | (cases h; exact ⟨a, by simp, rfl⟩)
      | (cases h; exact ⟨b, by simp, rfl⟩)
theorem side_lit {key : ByteArray} {l : List OP} {w : Int} {v : V} (h : sideM key l = some (w, v)) : ∃ o ∈ l, v = valO o := by
  rw [sideM] at h
  split at h
  · cases h
  split at h
  · obtain ⟨o, ho, e⟩ := say_lit h
    exact ⟨o, List.dropLast_subset _ ho, e⟩
  · exact say_lit h
theorem say_w {key : ByteArray} {nt : Bool} {l : List OP} {w : Int} {v : V} (h : sayM key nt l = some (w, v)) : w = 0 ∨ w = 1 ∨ w = -1 := by
  match l, h with
  | [a, b, c], h =>
    rw [sayM] at h
    repeat' split at h
    all_goals first
      | (cases h; done)
      | (cases h; simp; done)
theorem side_w {key : ByteArray} {l : List OP} {w : Int} {v : V} (h : sideM key l = some (w, v)) : w = 0 ∨ w = 1 ∨ w = -1 := by
  rw [sideM] at h
  split at h
  · cases h
  split at h
  · exact say_w h
  · exact say_w h
end Go.AM
/- Bounds: the reference's BoundsOf, where the kind is a truth. -/
namespace Go.AM
open Go Go.RowKit
open Go.Proofs.YtoecmmpjndcolaaGreatDoor (OP nameM litM exprM exprFrom stepM popsM vcheck)
attribute [local irreducible] AWP retA
set_option maxRecDepth 100000 in
set_option maxHeartbeats 16000000 in
theorem boundsOf_one (G : List (Nat × List Value)) (l : List CO) (ops : List OP) (tr : RT OP) (c : CO) (r : List CO) (hlc : l = c :: r) (hl : l.length ≤ 1048576) (hgo : ∀ o ∈ ops, gV ⟨o.vk, o.vn, o.vs⟩) (hz0 : ops ≠ [])
    (cc : Con Go.Proofs.Tryz.prog G 21 [.ro true 2 (l.map eC)] [] 0 (Is (.r (.int .i64 0)) [] 0) No) (kc : Con Go.Proofs.Tryz.prog G 17 [.ro true 2 (l.map eC), .ro true 5 (ops.map eO)] [] 0 (Is (.tup [.r (.int .i64 1), .r (.int .i64 0)]) [] 0) No)
    (h40 : ops.length ≤ 40) (hk : ∀ o ∈ ops, 1 ≤ o.k ∧ o.k ≤ 11 ∧ litM o.vk o.vn o.vs = 0 ∧ (o.k = 2 → nameM o.nm = 0)) (hw : tr.wf arO) (hf : tr.flat = ops) :
    Con Go.Proofs.Tryz.prog G 11 [.ro true 2 (l.map eC), .ro true 5 (ops.map eO)] [] 0 (Is (boundsA (.ok (boundT c.nm ([], []) tr))) [] 0) No := by
  refine con_of_awp Go.Proofs.Tryz.func11 rfl (by kernel_rfl) (of_decide_eq_true (by kernel_rfl)) ?_; intro E hG hE; subst hG; simp only [ent]
  have d1 : ((ops.length : Int) == 0) = false := by simp; exact hz0
  have mc := musts_con E.G tr hw (by rw [hf]; exact fun o ho => ⟨(hk o ho).1, (hk o ho).2.1⟩) (by rw [hf]; omega)
  have pok := parts_ok (tr := tr) (by rw [hf]; exact fun o ho => ⟨hgo o ho, lit_check (hk o ho).2.2.1⟩) (by rw [hf]; omega)
  have plen := parts_len tr
  rw [hf] at mc plen
  rw [boundT]
  generalize partsT tr = ps at mc pok plen ⊢
  subst hlc
  (repeat' (first | refine awp_seq ?_ | refine awp_block ?_ | refine awp_skip ?_ | refine awp_exit ?_ | ((first | refine rR (fun K kp hK hkp => ?_) | refine cR cc ?_ | refine cD cc ?_ | refine cR kc ?_ | refine cD kc ?_ | refine cR mc ?_ | refine cD mc ?_ | refine iG ?_ | refine iD ?_); simp (implicitDefEqProofs := false) (maxSteps := 2000000) (disch := omega) only [go_sem, d1, eC]; (repeat' (first | (refine hK _ ?_; clear hK hkp kp K) | (with_reducible refine And.intro ?_ ?_) | omega))) | ((first | refine aG (fun h => ?_) (fun h => ?_) | refine aD (fun h => ?_) (fun h => ?_) | refine aX (fun h => ?_) (fun h => ?_)) <;> simp only [h]) | refine awp_cond_t rfl ?_ | refine awp_cond_f rfl ?_ | ((refine awp_cond rfl (fun h => ?_) (fun h => ?_) <;> try simp only [ifs] at h) <;> (try (exfalso; omega))) | refine awp_ret ?_))
  refine awp_loop (fun q : Nat × List UInt8 × List UInt8 => ⟨[(12, .r (.int .i64 q.1)), (9, nbA q.2.1), (10, nbA q.2.2), (11, .s 0 0 ps.length), (0, .ro true 2 ((c :: r).map eC))], [(0, .lst 24 1 (ps.map eP))], 1⟩) (fun q => q.1 ≤ ps.length ∧ (ps.drop q.1).foldl (updM c.nm) q.2 = ps.foldl (updM c.nm) ([], [])) (fun q => ps.length - q.1) (0, [], []) ?_ ?_ ?_
  · exact ⟨by simp, rfl⟩
  · (refine emb [0] ?_ ?_ rfl ?_ ?_ ?_ ?_ <;> simp [okM, okO, lk, ren, renL, renNd, by_, hE, nbA, eC] <;> (try omega))
  rintro ⟨i, lo, hi⟩ ⟨hil, hno⟩
  simp only at hil hno ⊢
  by_cases hlt : i < ps.length
  · obtain ⟨x, hx⟩ : ∃ x, ps[i]? = some x := ⟨ps[i], by simp [hlt]⟩
    obtain ⟨gl, n, o, hn, hxo, hnl⟩ := pok x (List.mem_of_getElem? hx)
    have sc := side_con E.G true c.nm x n o hn hxo hnl
    have hci : ((i : Int) < (ps.length : Int)) = True := eq_true (by omega)
    rw [drop_at hx, List.foldl_cons] at hno
    cases hsd : sideM c.nm x with
    | none =>
      have hU : updM c.nm (lo, hi) x = (lo, hi) := by rw [updM, hsd]
      rw [hU] at hno
      rw [hsd] at sc
      simp only [sideA, nilV, eV] at sc
      (repeat' (first | refine awp_seq ?_ | refine awp_block ?_ | refine awp_skip ?_ | refine awp_exit ?_ | ((first | refine rR (fun K kp hK hkp => ?_) | refine rU (id := 17) mixed 15 [⟨0, 0, [], [(0, 1)]⟩, ⟨0, 0, [0], [(0, 1)]⟩, ⟨0, 0, [0, 1], [(0, 1)]⟩, ⟨0, 0, [0, 1, 2], [(0, 1)]⟩, ⟨0, 0, [], [(0, 1)]⟩, ⟨0, 0, [], [(0, 1)]⟩, ⟨0, 0, [4, 5], [(0, 1)]⟩, ⟨0, 0, [4, 5, 6], [(0, 1)]⟩, ⟨0, 0, [0, 1, 2, 3, 4, 5, 6, 7], [(0, 1)]⟩, ⟨0, 0, [0, 1, 2, 3, 4, 5, 6, 7, 8], [(0, 1)]⟩, ⟨0, 0, [0, 1, 2, 3, 4, 5, 6, 7, 8, 9], [(0, 1)]⟩, ⟨0, 0, [0, 1, 2, 3, 4, 5, 6, 7, 8, 9], [(0, 1)]⟩, ⟨0, 0, [0, 1, 2, 3, 4, 5, 6, 7, 8, 9], [(0, 1)]⟩, ⟨0, 1, [], []⟩, ⟨1, 0, [0, 1, 2, 3, 4, 5, 6, 7, 8, 9, 10, 13], []⟩] 1 [54, 55, 56, 57, 58, 59, 60, 61, 62, 53, 63, 64, 65, 14, 13] [12] (fun K kp hK hkp => ?_) | refine cR sc ?_ | refine cD sc ?_ | refine cU sc ?_ | refine iG ?_ | refine iD ?_); simp (implicitDefEqProofs := false) (maxSteps := 2000000) (disch := omega) only [go_sem, hx, hci, eP, eC]; (repeat' (first | (refine hK _ ?_; clear hK hkp kp K) | (with_reducible refine And.intro ?_ ?_) | omega))) | ((first | refine aG (fun h => ?_) (fun h => ?_) | refine aD (fun h => ?_) (fun h => ?_) | refine aX (fun h => ?_) (fun h => ?_)) <;> simp only [h]) | refine awp_cond_t rfl ?_ | refine awp_cond_f rfl ?_ | ((refine awp_cond rfl (fun h => ?_) (fun h => ?_) <;> try simp only [ifs] at h) <;> (try (exfalso; omega))) | refine awp_ret ?_))
      ((first | (refine nextB ((i + 1, lo, hi)) ?_ ?_ ?_) | (refine nextA ((i + 1, lo, hi)) ?_ ?_ ?_)); rotate_left; (· (try dsimp only); (first | omega | (simp only [List.length_drop, List.length_cons, List.length_append]; omega) | (simp; done) | (simp; omega))); (· (refine emb [0] ?_ ?_ rfl ?_ ?_ ?_ ?_ <;> simp [okM, okO, lk, ren, renL, renNd, by_, hE, eC] <;> (try omega))))
      exact ⟨by omega, hno⟩
    | some wv =>
      obtain ⟨w, v⟩ := wv
      rw [hsd] at sc
      simp only [sideA, eV] at sc
      obtain ⟨oo, hoo, hvo⟩ := side_lit hsd
      obtain ⟨gvo, vco⟩ := gl oo hoo
      rw [← hvo] at gvo
      have hvc : vcheck v.k v.n v.s = 0 := by rw [hvo]; exact vco
      have kbc := keyBytes_con E.G false [v] (by simp) (fun u hu => by simp only [List.mem_singleton] at hu; subst hu; exact gvo)
      have hlen := encV_len hvc
      rw [enc_one hvc] at kbc
      obtain ⟨kb, hkb⟩ : ∃ kb, encV v = kb := ⟨_, rfl⟩
      have hne : kb ≠ [] := by rw [← hkb]; simp [encV]
      rw [hkb] at hlen kbc
      simp only [List.map_cons, List.map_nil, encA, eV] at kbc
      have hkn := nb_ne hne
      have hU : updM c.nm (lo, hi) x = (if w ≤ 0 ∧ Op.bytesLess lo kb = true then kb else lo, if 0 ≤ w ∧ (hi = [] ∨ Op.bytesLess kb hi = true) then kb else hi) := by rw [updM, hsd, ← hkb]
      have b1 := kb_nb E.G true lo kb
      have b2 := kb_nb2 E.G true kb hi
      have cp := bytesCopy_con E.G true kb (by omega)
      have hw3 := side_w hsd
      clear hsd
      by_cases hz : hi = []
      · subst hz
        have hzn : nbA [] = .r (.slice none 0 0) := rfl
        rw [hzn] at b2
        rcases hw3 with rfl | rfl | rfl
        all_goals
          (repeat' (first | refine awp_seq ?_ | refine awp_block ?_ | refine awp_skip ?_ | refine awp_exit ?_ | ((first | refine rR (fun K kp hK hkp => ?_) | refine rU (id := 17) mixed 15 [⟨0, 0, [], [(0, 1)]⟩, ⟨0, 0, [0], [(0, 1)]⟩, ⟨0, 0, [0, 1], [(0, 1)]⟩, ⟨0, 0, [0, 1, 2], [(0, 1)]⟩, ⟨0, 0, [], [(0, 1)]⟩, ⟨0, 0, [], [(0, 1)]⟩, ⟨0, 0, [4, 5], [(0, 1)]⟩, ⟨0, 0, [4, 5, 6], [(0, 1)]⟩, ⟨0, 0, [0, 1, 2, 3, 4, 5, 6, 7], [(0, 1)]⟩, ⟨0, 0, [0, 1, 2, 3, 4, 5, 6, 7, 8], [(0, 1)]⟩, ⟨0, 0, [0, 1, 2, 3, 4, 5, 6, 7, 8, 9], [(0, 1)]⟩, ⟨0, 0, [0, 1, 2, 3, 4, 5, 6, 7, 8, 9], [(0, 1)]⟩, ⟨0, 0, [0, 1, 2, 3, 4, 5, 6, 7, 8, 9], [(0, 1)]⟩, ⟨0, 1, [], []⟩, ⟨1, 0, [0, 1, 2, 3, 4, 5, 6, 7, 8, 9, 10, 13], []⟩] 1 [54, 55, 56, 57, 58, 59, 60, 61, 62, 53, 63, 64, 65, 14, 13] [12] (fun K kp hK hkp => ?_) | refine cR sc ?_ | refine cD sc ?_ | refine cU sc ?_ | refine cR kbc ?_ | refine cD kbc ?_ | refine cU kbc ?_ | refine cR b1 ?_ | refine cD b1 ?_ | refine cU b1 ?_ | refine cR b2 ?_ | refine cD b2 ?_ | refine cU b2 ?_ | refine cR cp ?_ | refine cD cp ?_ | refine cU cp ?_ | refine iG ?_ | refine iD ?_); simp (implicitDefEqProofs := false) (maxSteps := 2000000) (disch := omega) only [go_sem, hx, hci, eP, eC, hzn]; (repeat' (first | (refine hK _ ?_; clear hK hkp kp K) | (with_reducible refine And.intro ?_ ?_) | omega))) | ((first | refine aG (fun h => ?_) (fun h => ?_) | refine aD (fun h => ?_) (fun h => ?_) | refine aX (fun h => ?_) (fun h => ?_)) <;> simp only [h]) | refine awp_cond_t rfl ?_ | refine awp_cond_f rfl ?_ | ((refine awp_cond rfl (fun h => ?_) (fun h => ?_) <;> try simp only [ifs] at h) <;> (try (exfalso; omega))) | refine awp_ret ?_))
        all_goals clear sc kbc b1 b2 cp mc kc cc gl pok
        all_goals ((first | (refine nextB ((i + 1, updM c.nm (lo, []) x)) ?_ ?_ ?_) | (refine nextA ((i + 1, updM c.nm (lo, []) x)) ?_ ?_ ?_)); rotate_left; (· (try dsimp only); (first | omega | (simp only [List.length_drop, List.length_cons, List.length_append]; omega) | (simp; done) | (simp; omega))); (· (refine emb [0] ?_ ?_ rfl ?_ ?_ ?_ ?_ <;> simp [okM, okO, lk, ren, renL, renNd, by_, hE, eC, hkn, hzn, hU, *] <;> (try omega))))
        all_goals exact ⟨by omega, hno⟩
      · have hzn := nb_ne hz
        rw [hzn] at b2
        have g2 : ((hi.length : Int) == 0) = false := by simp [hz]
        rcases hw3 with rfl | rfl | rfl
        all_goals
          (repeat' (first | refine awp_seq ?_ | refine awp_block ?_ | refine awp_skip ?_ | refine awp_exit ?_ | ((first | refine rR (fun K kp hK hkp => ?_) | refine rU (id := 17) mixed 15 [⟨0, 0, [], [(0, 1)]⟩, ⟨0, 0, [0], [(0, 1)]⟩, ⟨0, 0, [0, 1], [(0, 1)]⟩, ⟨0, 0, [0, 1, 2], [(0, 1)]⟩, ⟨0, 0, [], [(0, 1)]⟩, ⟨0, 0, [], [(0, 1)]⟩, ⟨0, 0, [4, 5], [(0, 1)]⟩, ⟨0, 0, [4, 5, 6], [(0, 1)]⟩, ⟨0, 0, [0, 1, 2, 3, 4, 5, 6, 7], [(0, 1)]⟩, ⟨0, 0, [0, 1, 2, 3, 4, 5, 6, 7, 8], [(0, 1)]⟩, ⟨0, 0, [0, 1, 2, 3, 4, 5, 6, 7, 8, 9], [(0, 1)]⟩, ⟨0, 0, [0, 1, 2, 3, 4, 5, 6, 7, 8, 9], [(0, 1)]⟩, ⟨0, 0, [0, 1, 2, 3, 4, 5, 6, 7, 8, 9], [(0, 1)]⟩, ⟨0, 1, [], []⟩, ⟨1, 0, [0, 1, 2, 3, 4, 5, 6, 7, 8, 9, 10, 13], []⟩] 1 [54, 55, 56, 57, 58, 59, 60, 61, 62, 53, 63, 64, 65, 14, 13] [12] (fun K kp hK hkp => ?_) | refine cR sc ?_ | refine cD sc ?_ | refine cU sc ?_ | refine cR kbc ?_ | refine cD kbc ?_ | refine cU kbc ?_ | refine cR b1 ?_ | refine cD b1 ?_ | refine cU b1 ?_ | refine cR b2 ?_ | refine cD b2 ?_ | refine cU b2 ?_ | refine cR cp ?_ | refine cD cp ?_ | refine cU cp ?_ | refine iG ?_ | refine iD ?_); simp (implicitDefEqProofs := false) (maxSteps := 2000000) (disch := omega) only [go_sem, hx, hci, eP, eC, hzn, g2]; (repeat' (first | (refine hK _ ?_; clear hK hkp kp K) | (with_reducible refine And.intro ?_ ?_) | omega))) | ((first | refine aG (fun h => ?_) (fun h => ?_) | refine aD (fun h => ?_) (fun h => ?_) | refine aX (fun h => ?_) (fun h => ?_)) <;> simp only [h]) | refine awp_cond_t rfl ?_ | refine awp_cond_f rfl ?_ | ((refine awp_cond rfl (fun h => ?_) (fun h => ?_) <;> try simp only [ifs] at h) <;> (try (exfalso; omega))) | refine awp_ret ?_))
        all_goals clear sc kbc b1 b2 cp mc kc cc gl pok
        all_goals ((first | (refine nextB ((i + 1, updM c.nm (lo, hi) x)) ?_ ?_ ?_) | (refine nextA ((i + 1, updM c.nm (lo, hi) x)) ?_ ?_ ?_)); rotate_left; (· (try dsimp only); (first | omega | (simp only [List.length_drop, List.length_cons, List.length_append]; omega) | (simp; done) | (simp; omega))); (· (refine emb [0] ?_ ?_ rfl ?_ ?_ ?_ ?_ <;> simp [okM, okO, lk, ren, renL, renNd, by_, hE, eC, hkn, hzn, hU, *] <;> (try omega))))
        all_goals exact ⟨by omega, hno⟩
  · rw [List.drop_of_length_le (by omega), List.foldl_nil] at hno
    rw [← hno]
    simp only [boundsA]
    (repeat' (first | refine awp_seq ?_ | refine awp_block ?_ | refine awp_skip ?_ | refine awp_exit ?_ | ((first | refine rR (fun K kp hK hkp => ?_) | refine iG ?_ | refine iD ?_); simp (implicitDefEqProofs := false) (maxSteps := 2000000) (disch := omega) only [go_sem, eC]; (repeat' (first | (refine hK _ ?_; clear hK hkp kp K) | (with_reducible refine And.intro ?_ ?_) | omega))) | ((first | refine aG (fun h => ?_) (fun h => ?_) | refine aD (fun h => ?_) (fun h => ?_) | refine aX (fun h => ?_) (fun h => ?_)) <;> simp only [h]) | refine awp_cond_t rfl ?_ | refine awp_cond_f rfl ?_ | ((refine awp_cond rfl (fun h => ?_) (fun h => ?_) <;> try simp only [ifs] at h) <;> (try (exfalso; omega))) | refine awp_ret ?_))
    (refine retA_is (by (simp (implicitDefEqProofs := false) (maxSteps := 2000000) (disch := omega) only [go_sem, Go.Proofs.Tryz.results11]); rfl) ?_; refine eN hE ?_; simp [oneA, ren, renL])
end Go.AM
/- Bounds: the reference's BoundsOf, where the kind is not known. -/
namespace Go.AM
open Go Go.RowKit
open Go.Proofs.YtoecmmpjndcolaaGreatDoor (OP nameM litM exprM exprFrom stepM popsM vcheck)
attribute [local irreducible] AWP retA
set_option maxRecDepth 100000 in
set_option maxHeartbeats 16000000 in
theorem boundsOf_nought (G : List (Nat × List Value)) (l : List CO) (ops : List OP) (tr : RT OP) (c : CO) (r : List CO) (hlc : l = c :: r) (hl : l.length ≤ 1048576) (hgo : ∀ o ∈ ops, gV ⟨o.vk, o.vn, o.vs⟩) (hz0 : ops ≠ [])
    (cc : Con Go.Proofs.Tryz.prog G 21 [.ro true 2 (l.map eC)] [] 0 (Is (.r (.int .i64 0)) [] 0) No) (kc : Con Go.Proofs.Tryz.prog G 17 [.ro true 2 (l.map eC), .ro true 5 (ops.map eO)] [] 0 (Is (.tup [.r (.int .i64 0), .r (.int .i64 0)]) [] 0) No)
    (h40 : ops.length ≤ 40) (hk : ∀ o ∈ ops, 1 ≤ o.k ∧ o.k ≤ 11 ∧ litM o.vk o.vn o.vs = 0 ∧ (o.k = 2 → nameM o.nm = 0)) (hw : tr.wf arO) (hf : tr.flat = ops) :
    Con Go.Proofs.Tryz.prog G 11 [.ro true 2 (l.map eC), .ro true 5 (ops.map eO)] [] 0 (Is (boundsA (.ok (boundT c.nm ([], []) tr))) [] 0) No := by
  refine con_of_awp Go.Proofs.Tryz.func11 rfl (by kernel_rfl) (of_decide_eq_true (by kernel_rfl)) ?_; intro E hG hE; subst hG; simp only [ent]
  have d1 : ((ops.length : Int) == 0) = false := by simp; exact hz0
  have mc := musts_con E.G tr hw (by rw [hf]; exact fun o ho => ⟨(hk o ho).1, (hk o ho).2.1⟩) (by rw [hf]; omega)
  have pok := parts_ok (tr := tr) (by rw [hf]; exact fun o ho => ⟨hgo o ho, lit_check (hk o ho).2.2.1⟩) (by rw [hf]; omega)
  have plen := parts_len tr
  rw [hf] at mc plen
  rw [boundT]
  generalize partsT tr = ps at mc pok plen ⊢
  subst hlc
  (repeat' (first | refine awp_seq ?_ | refine awp_block ?_ | refine awp_skip ?_ | refine awp_exit ?_ | ((first | refine rR (fun K kp hK hkp => ?_) | refine cR cc ?_ | refine cD cc ?_ | refine cR kc ?_ | refine cD kc ?_ | refine cR mc ?_ | refine cD mc ?_ | refine iG ?_ | refine iD ?_); simp (implicitDefEqProofs := false) (maxSteps := 2000000) (disch := omega) only [go_sem, d1, eC]; (repeat' (first | (refine hK _ ?_; clear hK hkp kp K) | (with_reducible refine And.intro ?_ ?_) | omega))) | ((first | refine aG (fun h => ?_) (fun h => ?_) | refine aD (fun h => ?_) (fun h => ?_) | refine aX (fun h => ?_) (fun h => ?_)) <;> simp only [h]) | refine awp_cond_t rfl ?_ | refine awp_cond_f rfl ?_ | ((refine awp_cond rfl (fun h => ?_) (fun h => ?_) <;> try simp only [ifs] at h) <;> (try (exfalso; omega))) | refine awp_ret ?_))
  refine awp_loop (fun q : Nat × List UInt8 × List UInt8 => ⟨[(12, .r (.int .i64 q.1)), (9, nbA q.2.1), (10, nbA q.2.2), (11, .s 0 0 ps.length), (0, .ro true 2 ((c :: r).map eC))], [(0, .lst 24 1 (ps.map eP))], 1⟩) (fun q => q.1 ≤ ps.length ∧ (ps.drop q.1).foldl (updM c.nm) q.2 = ps.foldl (updM c.nm) ([], [])) (fun q => ps.length - q.1) (0, [], []) ?_ ?_ ?_
  · exact ⟨by simp, rfl⟩
  · (refine emb [0] ?_ ?_ rfl ?_ ?_ ?_ ?_ <;> simp [okM, okO, lk, ren, renL, renNd, by_, hE, nbA, eC] <;> (try omega))
  rintro ⟨i, lo, hi⟩ ⟨hil, hno⟩
  simp only at hil hno ⊢
  by_cases hlt : i < ps.length
  · obtain ⟨x, hx⟩ : ∃ x, ps[i]? = some x := ⟨ps[i], by simp [hlt]⟩
    obtain ⟨gl, n, o, hn, hxo, hnl⟩ := pok x (List.mem_of_getElem? hx)
    have sc := side_con E.G true c.nm x n o hn hxo hnl
    have hci : ((i : Int) < (ps.length : Int)) = True := eq_true (by omega)
    rw [drop_at hx, List.foldl_cons] at hno
    cases hsd : sideM c.nm x with
    | none =>
      have hU : updM c.nm (lo, hi) x = (lo, hi) := by rw [updM, hsd]
      rw [hU] at hno
      rw [hsd] at sc
      simp only [sideA, nilV, eV] at sc
      (repeat' (first | refine awp_seq ?_ | refine awp_block ?_ | refine awp_skip ?_ | refine awp_exit ?_ | ((first | refine rR (fun K kp hK hkp => ?_) | refine rU (id := 17) mixed 15 [⟨0, 0, [], [(0, 1)]⟩, ⟨0, 0, [0], [(0, 1)]⟩, ⟨0, 0, [0, 1], [(0, 1)]⟩, ⟨0, 0, [0, 1, 2], [(0, 1)]⟩, ⟨0, 0, [], [(0, 1)]⟩, ⟨0, 0, [], [(0, 1)]⟩, ⟨0, 0, [4, 5], [(0, 1)]⟩, ⟨0, 0, [4, 5, 6], [(0, 1)]⟩, ⟨0, 0, [0, 1, 2, 3, 4, 5, 6, 7], [(0, 1)]⟩, ⟨0, 0, [0, 1, 2, 3, 4, 5, 6, 7, 8], [(0, 1)]⟩, ⟨0, 0, [0, 1, 2, 3, 4, 5, 6, 7, 8, 9], [(0, 1)]⟩, ⟨0, 0, [0, 1, 2, 3, 4, 5, 6, 7, 8, 9], [(0, 1)]⟩, ⟨0, 0, [0, 1, 2, 3, 4, 5, 6, 7, 8, 9], [(0, 1)]⟩, ⟨0, 1, [], []⟩, ⟨1, 0, [0, 1, 2, 3, 4, 5, 6, 7, 8, 9, 10, 13], []⟩] 1 [54, 55, 56, 57, 58, 59, 60, 61, 62, 53, 63, 64, 65, 14, 13] [12] (fun K kp hK hkp => ?_) | refine cR sc ?_ | refine cD sc ?_ | refine cU sc ?_ | refine iG ?_ | refine iD ?_); simp (implicitDefEqProofs := false) (maxSteps := 2000000) (disch := omega) only [go_sem, hx, hci, eP, eC]; (repeat' (first | (refine hK _ ?_; clear hK hkp kp K) | (with_reducible refine And.intro ?_ ?_) | omega))) | ((first | refine aG (fun h => ?_) (fun h => ?_) | refine aD (fun h => ?_) (fun h => ?_) | refine aX (fun h => ?_) (fun h => ?_)) <;> simp only [h]) | refine awp_cond_t rfl ?_ | refine awp_cond_f rfl ?_ | ((refine awp_cond rfl (fun h => ?_) (fun h => ?_) <;> try simp only [ifs] at h) <;> (try (exfalso; omega))) | refine awp_ret ?_))
      ((first | (refine nextB ((i + 1, lo, hi)) ?_ ?_ ?_) | (refine nextA ((i + 1, lo, hi)) ?_ ?_ ?_)); rotate_left; (· (try dsimp only); (first | omega | (simp only [List.length_drop, List.length_cons, List.length_append]; omega) | (simp; done) | (simp; omega))); (· (refine emb [0] ?_ ?_ rfl ?_ ?_ ?_ ?_ <;> simp [okM, okO, lk, ren, renL, renNd, by_, hE, eC] <;> (try omega))))
      exact ⟨by omega, hno⟩
    | some wv =>
      obtain ⟨w, v⟩ := wv
      rw [hsd] at sc
      simp only [sideA, eV] at sc
      obtain ⟨oo, hoo, hvo⟩ := side_lit hsd
      obtain ⟨gvo, vco⟩ := gl oo hoo
      rw [← hvo] at gvo
      have hvc : vcheck v.k v.n v.s = 0 := by rw [hvo]; exact vco
      have kbc := keyBytes_con E.G false [v] (by simp) (fun u hu => by simp only [List.mem_singleton] at hu; subst hu; exact gvo)
      have hlen := encV_len hvc
      rw [enc_one hvc] at kbc
      obtain ⟨kb, hkb⟩ : ∃ kb, encV v = kb := ⟨_, rfl⟩
      have hne : kb ≠ [] := by rw [← hkb]; simp [encV]
      rw [hkb] at hlen kbc
      simp only [List.map_cons, List.map_nil, encA, eV] at kbc
      have hkn := nb_ne hne
      have hU : updM c.nm (lo, hi) x = (if w ≤ 0 ∧ Op.bytesLess lo kb = true then kb else lo, if 0 ≤ w ∧ (hi = [] ∨ Op.bytesLess kb hi = true) then kb else hi) := by rw [updM, hsd, ← hkb]
      have b1 := kb_nb E.G true lo kb
      have b2 := kb_nb2 E.G true kb hi
      have cp := bytesCopy_con E.G true kb (by omega)
      have hw3 := side_w hsd
      clear hsd
      by_cases hz : hi = []
      · subst hz
        have hzn : nbA [] = .r (.slice none 0 0) := rfl
        rw [hzn] at b2
        rcases hw3 with rfl | rfl | rfl
        all_goals
          (repeat' (first | refine awp_seq ?_ | refine awp_block ?_ | refine awp_skip ?_ | refine awp_exit ?_ | ((first | refine rR (fun K kp hK hkp => ?_) | refine rU (id := 17) mixed 15 [⟨0, 0, [], [(0, 1)]⟩, ⟨0, 0, [0], [(0, 1)]⟩, ⟨0, 0, [0, 1], [(0, 1)]⟩, ⟨0, 0, [0, 1, 2], [(0, 1)]⟩, ⟨0, 0, [], [(0, 1)]⟩, ⟨0, 0, [], [(0, 1)]⟩, ⟨0, 0, [4, 5], [(0, 1)]⟩, ⟨0, 0, [4, 5, 6], [(0, 1)]⟩, ⟨0, 0, [0, 1, 2, 3, 4, 5, 6, 7], [(0, 1)]⟩, ⟨0, 0, [0, 1, 2, 3, 4, 5, 6, 7, 8], [(0, 1)]⟩, ⟨0, 0, [0, 1, 2, 3, 4, 5, 6, 7, 8, 9], [(0, 1)]⟩, ⟨0, 0, [0, 1, 2, 3, 4, 5, 6, 7, 8, 9], [(0, 1)]⟩, ⟨0, 0, [0, 1, 2, 3, 4, 5, 6, 7, 8, 9], [(0, 1)]⟩, ⟨0, 1, [], []⟩, ⟨1, 0, [0, 1, 2, 3, 4, 5, 6, 7, 8, 9, 10, 13], []⟩] 1 [54, 55, 56, 57, 58, 59, 60, 61, 62, 53, 63, 64, 65, 14, 13] [12] (fun K kp hK hkp => ?_) | refine cR sc ?_ | refine cD sc ?_ | refine cU sc ?_ | refine cR kbc ?_ | refine cD kbc ?_ | refine cU kbc ?_ | refine cR b1 ?_ | refine cD b1 ?_ | refine cU b1 ?_ | refine cR b2 ?_ | refine cD b2 ?_ | refine cU b2 ?_ | refine cR cp ?_ | refine cD cp ?_ | refine cU cp ?_ | refine iG ?_ | refine iD ?_); simp (implicitDefEqProofs := false) (maxSteps := 2000000) (disch := omega) only [go_sem, hx, hci, eP, eC, hzn]; (repeat' (first | (refine hK _ ?_; clear hK hkp kp K) | (with_reducible refine And.intro ?_ ?_) | omega))) | ((first | refine aG (fun h => ?_) (fun h => ?_) | refine aD (fun h => ?_) (fun h => ?_) | refine aX (fun h => ?_) (fun h => ?_)) <;> simp only [h]) | refine awp_cond_t rfl ?_ | refine awp_cond_f rfl ?_ | ((refine awp_cond rfl (fun h => ?_) (fun h => ?_) <;> try simp only [ifs] at h) <;> (try (exfalso; omega))) | refine awp_ret ?_))
        all_goals clear sc kbc b1 b2 cp mc kc cc gl pok
        all_goals ((first | (refine nextB ((i + 1, updM c.nm (lo, []) x)) ?_ ?_ ?_) | (refine nextA ((i + 1, updM c.nm (lo, []) x)) ?_ ?_ ?_)); rotate_left; (· (try dsimp only); (first | omega | (simp only [List.length_drop, List.length_cons, List.length_append]; omega) | (simp; done) | (simp; omega))); (· (refine emb [0] ?_ ?_ rfl ?_ ?_ ?_ ?_ <;> simp [okM, okO, lk, ren, renL, renNd, by_, hE, eC, hkn, hzn, hU, *] <;> (try omega))))
        all_goals exact ⟨by omega, hno⟩
      · have hzn := nb_ne hz
        rw [hzn] at b2
        have g2 : ((hi.length : Int) == 0) = false := by simp [hz]
        rcases hw3 with rfl | rfl | rfl
        all_goals
          (repeat' (first | refine awp_seq ?_ | refine awp_block ?_ | refine awp_skip ?_ | refine awp_exit ?_ | ((first | refine rR (fun K kp hK hkp => ?_) | refine rU (id := 17) mixed 15 [⟨0, 0, [], [(0, 1)]⟩, ⟨0, 0, [0], [(0, 1)]⟩, ⟨0, 0, [0, 1], [(0, 1)]⟩, ⟨0, 0, [0, 1, 2], [(0, 1)]⟩, ⟨0, 0, [], [(0, 1)]⟩, ⟨0, 0, [], [(0, 1)]⟩, ⟨0, 0, [4, 5], [(0, 1)]⟩, ⟨0, 0, [4, 5, 6], [(0, 1)]⟩, ⟨0, 0, [0, 1, 2, 3, 4, 5, 6, 7], [(0, 1)]⟩, ⟨0, 0, [0, 1, 2, 3, 4, 5, 6, 7, 8], [(0, 1)]⟩, ⟨0, 0, [0, 1, 2, 3, 4, 5, 6, 7, 8, 9], [(0, 1)]⟩, ⟨0, 0, [0, 1, 2, 3, 4, 5, 6, 7, 8, 9], [(0, 1)]⟩, ⟨0, 0, [0, 1, 2, 3, 4, 5, 6, 7, 8, 9], [(0, 1)]⟩, ⟨0, 1, [], []⟩, ⟨1, 0, [0, 1, 2, 3, 4, 5, 6, 7, 8, 9, 10, 13], []⟩] 1 [54, 55, 56, 57, 58, 59, 60, 61, 62, 53, 63, 64, 65, 14, 13] [12] (fun K kp hK hkp => ?_) | refine cR sc ?_ | refine cD sc ?_ | refine cU sc ?_ | refine cR kbc ?_ | refine cD kbc ?_ | refine cU kbc ?_ | refine cR b1 ?_ | refine cD b1 ?_ | refine cU b1 ?_ | refine cR b2 ?_ | refine cD b2 ?_ | refine cU b2 ?_ | refine cR cp ?_ | refine cD cp ?_ | refine cU cp ?_ | refine iG ?_ | refine iD ?_); simp (implicitDefEqProofs := false) (maxSteps := 2000000) (disch := omega) only [go_sem, hx, hci, eP, eC, hzn, g2]; (repeat' (first | (refine hK _ ?_; clear hK hkp kp K) | (with_reducible refine And.intro ?_ ?_) | omega))) | ((first | refine aG (fun h => ?_) (fun h => ?_) | refine aD (fun h => ?_) (fun h => ?_) | refine aX (fun h => ?_) (fun h => ?_)) <;> simp only [h]) | refine awp_cond_t rfl ?_ | refine awp_cond_f rfl ?_ | ((refine awp_cond rfl (fun h => ?_) (fun h => ?_) <;> try simp only [ifs] at h) <;> (try (exfalso; omega))) | refine awp_ret ?_))
        all_goals clear sc kbc b1 b2 cp mc kc cc gl pok
        all_goals ((first | (refine nextB ((i + 1, updM c.nm (lo, hi) x)) ?_ ?_ ?_) | (refine nextA ((i + 1, updM c.nm (lo, hi) x)) ?_ ?_ ?_)); rotate_left; (· (try dsimp only); (first | omega | (simp only [List.length_drop, List.length_cons, List.length_append]; omega) | (simp; done) | (simp; omega))); (· (refine emb [0] ?_ ?_ rfl ?_ ?_ ?_ ?_ <;> simp [okM, okO, lk, ren, renL, renNd, by_, hE, eC, hkn, hzn, hU, *] <;> (try omega))))
        all_goals exact ⟨by omega, hno⟩
  · rw [List.drop_of_length_le (by omega), List.foldl_nil] at hno
    rw [← hno]
    simp only [boundsA]
    (repeat' (first | refine awp_seq ?_ | refine awp_block ?_ | refine awp_skip ?_ | refine awp_exit ?_ | ((first | refine rR (fun K kp hK hkp => ?_) | refine iG ?_ | refine iD ?_); simp (implicitDefEqProofs := false) (maxSteps := 2000000) (disch := omega) only [go_sem, eC]; (repeat' (first | (refine hK _ ?_; clear hK hkp kp K) | (with_reducible refine And.intro ?_ ?_) | omega))) | ((first | refine aG (fun h => ?_) (fun h => ?_) | refine aD (fun h => ?_) (fun h => ?_) | refine aX (fun h => ?_) (fun h => ?_)) <;> simp only [h]) | refine awp_cond_t rfl ?_ | refine awp_cond_f rfl ?_ | ((refine awp_cond rfl (fun h => ?_) (fun h => ?_) <;> try simp only [ifs] at h) <;> (try (exfalso; omega))) | refine awp_ret ?_))
    (refine retA_is (by (simp (implicitDefEqProofs := false) (maxSteps := 2000000) (disch := omega) only [go_sem, Go.Proofs.Tryz.results11]); rfl) ?_; refine eN hE ?_; simp [oneA, ren, renL])
end Go.AM
/- Bounds: the reference's BoundsOf. -/
namespace Go.AM
open Go Go.RowKit
open Go.Proofs.YtoecmmpjndcolaaGreatDoor (OP nameM litM exprM exprFrom stepM popsM vcheck)
attribute [local irreducible] AWP retA
set_option maxRecDepth 100000 in
set_option maxHeartbeats 16000000 in
theorem boundsOf_con (G : List (Nat × List Value)) (l : List CO) (ops : List OP) (tr : RT OP) (hl : l.length ≤ 1048576) (ho : ops.length ≤ 1048576) (hs : ∀ c ∈ l, okS c.nm) (hv : ∀ o ∈ ops, okO1 o) (hgo : ∀ o ∈ ops, gV ⟨o.vk, o.vn, o.vs⟩) (ht : exprM ops = 0 → tr.wf arO ∧ tr.flat = ops) :
    Con Go.Proofs.Tryz.prog G 11 [.ro true 2 (l.map eC), .ro true 5 (ops.map eO)] [] 0 (Is (boundsA (boundsR l ops tr)) [] 0) No := by
  have cc := colsFault_con G l hl hs
  by_cases h0 : colsM l = 0
  · rw [h0] at cc
    obtain ⟨c, r, hlc⟩ := cols_head h0
    by_cases hz : ops = []
    · have hR : boundsR l ops tr = .ok ([], []) := by unfold boundsR; rw [if_neg (by simpa using h0), hz]
      rw [hR]
      simp only [boundsA, nbA]
      subst hz
      refine con_of_awp Go.Proofs.Tryz.func11 rfl (by kernel_rfl) (of_decide_eq_true (by kernel_rfl)) ?_; intro E hG hE; subst hG; simp only [ent]
      (repeat' (first | refine awp_seq ?_ | refine awp_block ?_ | refine awp_skip ?_ | refine awp_exit ?_ | ((first | refine rR (fun K kp hK hkp => ?_) | refine cR cc ?_ | refine cD cc ?_ | refine iG ?_ | refine iD ?_); simp (implicitDefEqProofs := false) (maxSteps := 2000000) (disch := omega) only [go_sem]; (repeat' (first | (refine hK _ ?_; clear hK hkp kp K) | (with_reducible refine And.intro ?_ ?_) | omega))) | ((first | refine aG (fun h => ?_) (fun h => ?_) | refine aD (fun h => ?_) (fun h => ?_) | refine aX (fun h => ?_) (fun h => ?_)) <;> simp only [h]) | refine awp_cond_t rfl ?_ | refine awp_cond_f rfl ?_ | ((refine awp_cond rfl (fun h => ?_) (fun h => ?_) <;> try simp only [ifs] at h) <;> (try (exfalso; omega))) | refine awp_ret ?_))
      (refine retA_is (by (simp (implicitDefEqProofs := false) (maxSteps := 2000000) (disch := omega) only [go_sem, Go.Proofs.Tryz.results11]); rfl) ?_; refine eN hE ?_; simp [oneA, ren, renL])
    · have d1 : ((ops.length : Int) == 0) = false := by simp; exact hz
      have hR : boundsR l ops tr = match kindR l ops tr with
        | .error e => .error e
        | .ok k => if k ≠ 1 ∧ k ≠ 0 then .error 4 else .ok (boundT c.nm ([], []) tr) := by
        unfold boundsR
        rw [if_neg (by simpa using h0), hlc]
        cases ops with
        | nil => exact (hz rfl).elim
        | cons x y => rfl
      have kc := kindOfRef_con G l ops tr hl ho hs hv ht
      cases hm : kindR l ops tr with
      | error e =>
        have he : (e != 0) = true := by simp [kindB_err hm]
        have he2 : (e == 0) = false := by simp [kindB_err hm]
        rw [hm] at kc hR
        rw [hR]
        simp only [madeA, boundsA] at kc ⊢
        refine con_of_awp Go.Proofs.Tryz.func11 rfl (by kernel_rfl) (of_decide_eq_true (by kernel_rfl)) ?_; intro E hG hE; subst hG; simp only [ent]
        (repeat' (first | refine awp_seq ?_ | refine awp_block ?_ | refine awp_skip ?_ | refine awp_exit ?_ | ((first | refine rR (fun K kp hK hkp => ?_) | refine cR cc ?_ | refine cD cc ?_ | refine cR kc ?_ | refine cD kc ?_ | refine iG ?_ | refine iD ?_); simp (implicitDefEqProofs := false) (maxSteps := 2000000) (disch := omega) only [go_sem, d1, he, he2]; (repeat' (first | (refine hK _ ?_; clear hK hkp kp K) | (with_reducible refine And.intro ?_ ?_) | omega))) | ((first | refine aG (fun h => ?_) (fun h => ?_) | refine aD (fun h => ?_) (fun h => ?_) | refine aX (fun h => ?_) (fun h => ?_)) <;> simp only [h]) | refine awp_cond_t rfl ?_ | refine awp_cond_f rfl ?_ | ((refine awp_cond rfl (fun h => ?_) (fun h => ?_) <;> try simp only [ifs] at h) <;> (try (exfalso; omega))) | refine awp_ret ?_))
        (refine retA_is (by (simp (implicitDefEqProofs := false) (maxSteps := 2000000) (disch := omega) only [go_sem, Go.Proofs.Tryz.results11]); rfl) ?_; refine eN hE ?_; simp [oneA, ren, renL])
      | ok k =>
        obtain ⟨e1, e2⟩ := kindB_ok hm
        obtain ⟨hw, hf⟩ := ht e1
        obtain ⟨h40, hk, _⟩ := tree_of_expr e1
        rw [hm] at kc hR
        simp only [madeA] at kc hR
        by_cases hkk : k = 1 ∨ k = 0
        · have hR2 : boundsR l ops tr = .ok (boundT c.nm ([], []) tr) := by rw [hR, if_neg (by rcases hkk with h | h <;> simp [h])]
          rw [hR2]
          rcases hkk with rfl | rfl
          · exact boundsOf_one G l ops tr c r hlc hl hgo hz cc kc h40 hk hw hf
          · exact boundsOf_nought G l ops tr c r hlc hl hgo hz cc kc h40 hk hw hf
        · have k1 : (k != 1) = true := by simp; exact fun h => hkk (.inl h)
          have k0 : (k != 0) = true := by simp; exact fun h => hkk (.inr h)
          have hR2 : boundsR l ops tr = .error 4 := by rw [hR, if_pos ⟨fun h => hkk (.inl h), fun h => hkk (.inr h)⟩]
          rw [hR2]
          simp only [boundsA]
          refine con_of_awp Go.Proofs.Tryz.func11 rfl (by kernel_rfl) (of_decide_eq_true (by kernel_rfl)) ?_; intro E hG hE; subst hG; simp only [ent]
          (repeat' (first | refine awp_seq ?_ | refine awp_block ?_ | refine awp_skip ?_ | refine awp_exit ?_ | ((first | refine rR (fun K kp hK hkp => ?_) | refine cR cc ?_ | refine cD cc ?_ | refine cR kc ?_ | refine cD kc ?_ | refine iG ?_ | refine iD ?_); simp (implicitDefEqProofs := false) (maxSteps := 2000000) (disch := omega) only [go_sem, d1, k1, k0]; (repeat' (first | (refine hK _ ?_; clear hK hkp kp K) | (with_reducible refine And.intro ?_ ?_) | omega))) | ((first | refine aG (fun h => ?_) (fun h => ?_) | refine aD (fun h => ?_) (fun h => ?_) | refine aX (fun h => ?_) (fun h => ?_)) <;> simp only [h]) | refine awp_cond_t rfl ?_ | refine awp_cond_f rfl ?_ | ((refine awp_cond rfl (fun h => ?_) (fun h => ?_) <;> try simp only [ifs] at h) <;> (try (exfalso; omega))) | refine awp_ret ?_))
          (refine retA_is (by (simp (implicitDefEqProofs := false) (maxSteps := 2000000) (disch := omega) only [go_sem, Go.Proofs.Tryz.results11]); rfl) ?_; refine eN hE ?_; simp [oneA, ren, renL])
  · have b0 : (colsM l != 0) = true := by simpa using h0
    have hR : boundsR l ops tr = .error (colsM l) := by unfold boundsR; rw [if_pos h0]
    rw [hR]
    simp only [boundsA]
    refine con_of_awp Go.Proofs.Tryz.func11 rfl (by kernel_rfl) (of_decide_eq_true (by kernel_rfl)) ?_; intro E hG hE; subst hG; simp only [ent]
    (repeat' (first | refine awp_seq ?_ | refine awp_block ?_ | refine awp_skip ?_ | refine awp_exit ?_ | ((first | refine rR (fun K kp hK hkp => ?_) | refine cR cc ?_ | refine cD cc ?_ | refine iG ?_ | refine iD ?_); simp (implicitDefEqProofs := false) (maxSteps := 2000000) (disch := omega) only [go_sem, b0]; (repeat' (first | (refine hK _ ?_; clear hK hkp kp K) | (with_reducible refine And.intro ?_ ?_) | omega))) | ((first | refine aG (fun h => ?_) (fun h => ?_) | refine aD (fun h => ?_) (fun h => ?_) | refine aX (fun h => ?_) (fun h => ?_)) <;> simp only [h]) | refine awp_cond_t rfl ?_ | refine awp_cond_f rfl ?_ | ((refine awp_cond rfl (fun h => ?_) (fun h => ?_) <;> try simp only [ifs] at h) <;> (try (exfalso; omega))) | refine awp_ret ?_))
    (refine retA_is (by (simp (implicitDefEqProofs := false) (maxSteps := 2000000) (disch := omega) only [go_sem, Go.Proofs.Tryz.results11]); rfl) ?_; refine eN hE ?_; simp [oneA, ren, renL])
end Go.AM
/- The law ExprBounds. -/
namespace Go.AM
open Go Go.RowKit
open Go.Proofs.YtoecmmpjndcolaaGreatDoor (OP nameM litM exprM exprFrom stepM popsM)
attribute [local irreducible] AWP retA
set_option maxRecDepth 100000 in
set_option maxHeartbeats 4000000 in
theorem sameOb_con (G : List (Nat × List Value)) (t t' : Bool) (l : List OP) (hl : l.length ≤ 1048576) : Con Go.Proofs.Tryz.prog G 12 [.ro t 5 (l.map eO), .ro t' 5 (l.map eO)] [] 0 (Is (.r (.bool true)) [] 0) No := by
  refine con_of_awp Go.Proofs.Tryz.func12 rfl (by kernel_rfl) (of_decide_eq_true (by kernel_rfl)) ?_; intro E hG hE; subst hG; simp only [ent]
  (repeat' (first | refine awp_seq ?_ | refine awp_block ?_ | refine awp_skip ?_ | refine awp_exit ?_ | ((first | refine rR (fun K kp hK hkp => ?_) | refine rD (id := 6) mixed 9 [0,1,2,3,4,5,6,7,8] (fun K kp hK hkp => ?_) | refine iG ?_ | refine iD ?_); simp (implicitDefEqProofs := false) (maxSteps := 2000000) (disch := omega) only [go_sem, bne_self_eq_false]; (repeat' (first | (refine hK _ ?_; clear hK hkp kp K) | (with_reducible refine And.intro ?_ ?_) | omega))) | ((first | refine aG (fun h => ?_) (fun h => ?_) | refine aD (fun h => ?_) (fun h => ?_) | refine aX (fun h => ?_) (fun h => ?_)) <;> simp only [h]) | refine awp_cond_t rfl ?_ | refine awp_cond_f rfl ?_ | ((refine awp_cond rfl (fun h => ?_) (fun h => ?_) <;> try simp only [ifs] at h) <;> (try (exfalso; omega))) | refine awp_ret ?_))
  refine awp_loop (fun k : Nat => ⟨[(5, .r (.int .i64 k)), (0, .ro t 5 (l.map eO)), (1, .ro t' 5 (l.map eO))], [], 0⟩) (fun k => k ≤ l.length) (fun k => l.length - k) 0 ?_ ?_ ?_
  · simp
  · (refine emb [] ?_ ?_ rfl ?_ ?_ ?_ ?_ <;> simp [okM, okO, lk, ren, renL, renNd, by_, hE] <;> (try omega))
  intro k hk
  by_cases hlt : k < l.length
  · obtain ⟨x, hx⟩ : ∃ x, l[k]? = some x := ⟨l[k], by simp [hlt]⟩
    have d1 : decide ((k : Int) < (l.length : Int)) = true := decide_eq_true (by omega)
    (repeat' (first | refine awp_seq ?_ | refine awp_block ?_ | refine awp_skip ?_ | refine awp_exit ?_ | ((first | refine rR (fun K kp hK hkp => ?_) | refine rD (id := 6) mixed 9 [0,1,2,3,4,5,6,7,8] (fun K kp hK hkp => ?_) | refine iG ?_ | refine iD ?_); simp (implicitDefEqProofs := false) (maxSteps := 2000000) (disch := omega) only [go_sem, hx, eO, d1, beq_self_eq_true, Bool.and_self, Bool.and_true, Bool.not_true]; (repeat' (first | (refine hK _ ?_; clear hK hkp kp K) | (with_reducible refine And.intro ?_ ?_) | omega))) | ((first | refine aG (fun h => ?_) (fun h => ?_) | refine aD (fun h => ?_) (fun h => ?_) | refine aX (fun h => ?_) (fun h => ?_)) <;> simp only [h]) | refine awp_cond_t rfl ?_ | refine awp_cond_f rfl ?_ | ((refine awp_cond rfl (fun h => ?_) (fun h => ?_) <;> try simp only [ifs] at h) <;> (try (exfalso; omega))) | refine awp_ret ?_))
    ((first | (refine nextB (k + 1) ?_ ?_ ?_) | (refine nextA (k + 1) ?_ ?_ ?_)); rotate_left; (· (try dsimp only); (first | omega | (simp only [List.length_drop, List.length_cons, List.length_append]; omega) | (simp; done) | (simp; omega))); (· (refine emb [] ?_ ?_ rfl ?_ ?_ ?_ ?_ <;> simp [okM, okO, lk, ren, renL, renNd, by_, hE] <;> (try omega))))
    omega
  · have d1 : decide ((k : Int) < (l.length : Int)) = false := decide_eq_false (by omega)
    (repeat' (first | refine awp_seq ?_ | refine awp_block ?_ | refine awp_skip ?_ | refine awp_exit ?_ | ((first | refine rR (fun K kp hK hkp => ?_) | refine rD (id := 6) mixed 9 [0,1,2,3,4,5,6,7,8] (fun K kp hK hkp => ?_) | refine iG ?_ | refine iD ?_); simp (implicitDefEqProofs := false) (maxSteps := 2000000) (disch := omega) only [go_sem, d1]; (repeat' (first | (refine hK _ ?_; clear hK hkp kp K) | (with_reducible refine And.intro ?_ ?_) | omega))) | ((first | refine aG (fun h => ?_) (fun h => ?_) | refine aD (fun h => ?_) (fun h => ?_) | refine aX (fun h => ?_) (fun h => ?_)) <;> simp only [h]) | refine awp_cond_t rfl ?_ | refine awp_cond_f rfl ?_ | ((refine awp_cond rfl (fun h => ?_) (fun h => ?_) <;> try simp only [ifs] at h) <;> (try (exfalso; omega))) | refine awp_ret ?_))
    (refine retA_is (by (simp (implicitDefEqProofs := false) (maxSteps := 2000000) (disch := omega) only [go_sem, Go.Proofs.Tryz.results12]); rfl) ?_; refine eN hE ?_; simp [oneA, ren, renL])
theorem elems_nb (st : AS) (l : List UInt8) : elemsOf st 1 (nbA l) = some (l.map eByte) := by
  cases l with
  | nil => rfl
  | cons x r => simp [nbA, elemsOf]
theorem unb_nil : unb [] = some [] := rfl
set_option maxRecDepth 100000 in
theorem lawBounds_con {G : List (Nat × List Value)} (T : Tabs G) (HR : RepCon G) (l : List CO) (ops : List OP) (hl : l.length ≤ 1048576) (ho : ops.length ≤ 1048576) (hs : ∀ c ∈ l, okS c.nm) (hv : ∀ o ∈ ops, okO1 o) (hgo : ∀ o ∈ ops, gV ⟨o.vk, o.vn, o.vs⟩) : Con Go.Proofs.Tryz.prog G 4 [.ro true 2 (l.map eC), .ro true 5 (ops.map eO)] [] 0 (Is (.r (.bool true)) [] 0) No := by
  refine con_of_awp Go.Proofs.Tryz.func4 rfl (by kernel_rfl) (of_decide_eq_true (by kernel_rfl)) ?_; intro E hG hE; subst hG; simp only [ent]
  obtain ⟨tr, ht⟩ : ∃ tr : RT OP, exprM ops = 0 → tr.wf arO ∧ tr.flat = ops := by
    by_cases he : exprM ops = 0
    · obtain ⟨_, _, tr, h1, h2⟩ := tree_of_expr he; exact ⟨tr, fun _ => ⟨h1, h2⟩⟩
    · exact ⟨.l ⟨0, 0, 0, ⟨#[]⟩, ⟨#[]⟩⟩, fun h => (he h).elim⟩
  have pc := bounds_con T HR l ops tr hl ho hs hv hgo ht
  have rc := boundsOf_con E.G l ops tr hl ho hs hv hgo ht
  have sc := sameOb_con E.G true true ops ho
  cases hm : boundsR l ops tr with
  | error e =>
    rw [hm] at pc rc; simp only [boundsA] at pc rc
    (repeat' (first | refine awp_seq ?_ | refine awp_block ?_ | refine awp_skip ?_ | refine awp_exit ?_ | ((first | refine rR (fun K kp hK hkp => ?_) | refine cR (cols_copy _ _ _ hl) ?_ | refine cR (ops_copy _ _ _ ho) ?_ | refine cR pc ?_ | refine cR rc ?_ | refine cR sc ?_ | refine iG ?_); simp (implicitDefEqProofs := false) (maxSteps := 2000000) (disch := omega) only [go_sem, beq_self_eq_true, unb_nil]; (repeat' (first | (refine hK _ ?_; clear hK hkp kp K) | (with_reducible refine And.intro ?_ ?_) | omega))) | ((first | refine aG (fun h => ?_) (fun h => ?_) | refine aD (fun h => ?_) (fun h => ?_) | refine aX (fun h => ?_) (fun h => ?_)) <;> simp only [h]) | refine awp_cond_t rfl ?_ | refine awp_cond_f rfl ?_ | ((refine awp_cond rfl (fun h => ?_) (fun h => ?_) <;> try simp only [ifs] at h) <;> (try (exfalso; omega))) | refine awp_ret ?_))
    (refine retA_is (by (simp (implicitDefEqProofs := false) (maxSteps := 2000000) (disch := omega) only [go_sem, Go.Proofs.Tryz.results4]); rfl) ?_; refine eN hE ?_; simp [oneA, ren, renL])
  | ok ab =>
    obtain ⟨a, b⟩ := ab
    rw [hm] at pc rc; simp only [boundsA] at pc rc
    by_cases ha : a = []
    · subst ha
      by_cases hb : b = []
      · subst hb
        simp only [nbA] at pc rc
        (repeat' (first | refine awp_seq ?_ | refine awp_block ?_ | refine awp_skip ?_ | refine awp_exit ?_ | ((first | refine rR (fun K kp hK hkp => ?_) | refine cR (cols_copy _ _ _ hl) ?_ | refine cR (ops_copy _ _ _ ho) ?_ | refine cR pc ?_ | refine cR rc ?_ | refine cR sc ?_ | refine iG ?_); simp (implicitDefEqProofs := false) (maxSteps := 2000000) (disch := omega) only [go_sem, unb_map, beq_self_eq_true, unb_nil]; (repeat' (first | (refine hK _ ?_; clear hK hkp kp K) | (with_reducible refine And.intro ?_ ?_) | omega))) | ((first | refine aG (fun h => ?_) (fun h => ?_) | refine aD (fun h => ?_) (fun h => ?_) | refine aX (fun h => ?_) (fun h => ?_)) <;> simp only [h]) | refine awp_cond_t rfl ?_ | refine awp_cond_f rfl ?_ | ((refine awp_cond rfl (fun h => ?_) (fun h => ?_) <;> try simp only [ifs] at h) <;> (try (exfalso; omega))) | refine awp_ret ?_))
        (refine retA_is (by (simp (implicitDefEqProofs := false) (maxSteps := 2000000) (disch := omega) only [go_sem, Go.Proofs.Tryz.results4]); rfl) ?_; refine eN hE ?_; simp [oneA, ren, renL])
      · rw [nb_ne hb] at pc rc
        simp only [nbA] at pc rc
        (repeat' (first | refine awp_seq ?_ | refine awp_block ?_ | refine awp_skip ?_ | refine awp_exit ?_ | ((first | refine rR (fun K kp hK hkp => ?_) | refine cR (cols_copy _ _ _ hl) ?_ | refine cR (ops_copy _ _ _ ho) ?_ | refine cR pc ?_ | refine cR rc ?_ | refine cR sc ?_ | refine iG ?_); simp (implicitDefEqProofs := false) (maxSteps := 2000000) (disch := omega) only [go_sem, unb_map, beq_self_eq_true, unb_nil]; (repeat' (first | (refine hK _ ?_; clear hK hkp kp K) | (with_reducible refine And.intro ?_ ?_) | omega))) | ((first | refine aG (fun h => ?_) (fun h => ?_) | refine aD (fun h => ?_) (fun h => ?_) | refine aX (fun h => ?_) (fun h => ?_)) <;> simp only [h]) | refine awp_cond_t rfl ?_ | refine awp_cond_f rfl ?_ | ((refine awp_cond rfl (fun h => ?_) (fun h => ?_) <;> try simp only [ifs] at h) <;> (try (exfalso; omega))) | refine awp_ret ?_))
        (refine retA_is (by (simp (implicitDefEqProofs := false) (maxSteps := 2000000) (disch := omega) only [go_sem, Go.Proofs.Tryz.results4]); rfl) ?_; refine eN hE ?_; simp [oneA, ren, renL])
    · rw [nb_ne ha] at pc rc
      by_cases hb : b = []
      · subst hb
        simp only [nbA] at pc rc
        (repeat' (first | refine awp_seq ?_ | refine awp_block ?_ | refine awp_skip ?_ | refine awp_exit ?_ | ((first | refine rR (fun K kp hK hkp => ?_) | refine cR (cols_copy _ _ _ hl) ?_ | refine cR (ops_copy _ _ _ ho) ?_ | refine cR pc ?_ | refine cR rc ?_ | refine cR sc ?_ | refine iG ?_); simp (implicitDefEqProofs := false) (maxSteps := 2000000) (disch := omega) only [go_sem, unb_map, beq_self_eq_true, unb_nil]; (repeat' (first | (refine hK _ ?_; clear hK hkp kp K) | (with_reducible refine And.intro ?_ ?_) | omega))) | ((first | refine aG (fun h => ?_) (fun h => ?_) | refine aD (fun h => ?_) (fun h => ?_) | refine aX (fun h => ?_) (fun h => ?_)) <;> simp only [h]) | refine awp_cond_t rfl ?_ | refine awp_cond_f rfl ?_ | ((refine awp_cond rfl (fun h => ?_) (fun h => ?_) <;> try simp only [ifs] at h) <;> (try (exfalso; omega))) | refine awp_ret ?_))
        (refine retA_is (by (simp (implicitDefEqProofs := false) (maxSteps := 2000000) (disch := omega) only [go_sem, Go.Proofs.Tryz.results4]); rfl) ?_; refine eN hE ?_; simp [oneA, ren, renL])
      · rw [nb_ne hb] at pc rc
        (repeat' (first | refine awp_seq ?_ | refine awp_block ?_ | refine awp_skip ?_ | refine awp_exit ?_ | ((first | refine rR (fun K kp hK hkp => ?_) | refine cR (cols_copy _ _ _ hl) ?_ | refine cR (ops_copy _ _ _ ho) ?_ | refine cR pc ?_ | refine cR rc ?_ | refine cR sc ?_ | refine iG ?_); simp (implicitDefEqProofs := false) (maxSteps := 2000000) (disch := omega) only [go_sem, unb_map, beq_self_eq_true, unb_nil]; (repeat' (first | (refine hK _ ?_; clear hK hkp kp K) | (with_reducible refine And.intro ?_ ?_) | omega))) | ((first | refine aG (fun h => ?_) (fun h => ?_) | refine aD (fun h => ?_) (fun h => ?_) | refine aX (fun h => ?_) (fun h => ?_)) <;> simp only [h]) | refine awp_cond_t rfl ?_ | refine awp_cond_f rfl ?_ | ((refine awp_cond rfl (fun h => ?_) (fun h => ?_) <;> try simp only [ifs] at h) <;> (try (exfalso; omega))) | refine awp_ret ?_))
        (refine retA_is (by (simp (implicitDefEqProofs := false) (maxSteps := 2000000) (disch := omega) only [go_sem, Go.Proofs.Tryz.results4]); rfl) ?_; refine eN hE ?_; simp [oneA, ren, renL])
end Go.AM
/- What the listed variables hold, with what the library reads of its own. -/
namespace Go.Proofs.YtoecmmpjndcolaaGreatDoor
open Go.ChangeShapes Go.WideShapes Go.ChangeAt Go.RowKit Go.AM
theorem maxLen_any (W : World) (h : W.ShapedOpen Tryz.prog) : ∃ m, W.cell? ⟨1, 0, none⟩ = some (.int .i64 m) :=
  Go.Proofs.cell_of_shapedOpen_int (zero := #[.int .i64 0]) (t := 3) h (of_decide_eq_true (by kernel_rfl)) (by kernel_rfl) rfl (by kernel_rfl) (by kernel_rfl) Tryz.underlying3
def GM (m : Int) : List (Nat × List Value) := (1, [.int .i64 m]) :: GT
theorem tabsGM (m : Int) : Tabs (GM m) := ⟨by simp [GM, GT], by simp [GM, GT], rfl⟩
theorem globs_m {W : World} {m : Int} (hm : W.cell? ⟨1, 0, none⟩ = some (.int .i64 m)) (h : Globs GT W) : Globs (GM m) W := by
  intro g cs hg
  rcases List.mem_cons.1 hg with hg | hg
  · cases hg
    refine ⟨World.block_lt_of_cell? _ _ hm, fun j u hu => ?_⟩
    cases j with
    | zero => simp at hu; subst hu; exact hm
    | succ j => simp at hu
  · exact h g cs hg
theorem tabs_five {W : World} (h : laidMetH Tryz.prog [("unicode/utf8.acceptRanges", Rows.laid_unicode_utf8_acceptRanges), ("padlock/lex.marks", Rows.laid_padlock_lex_marks), ("padlock/parse.words", Rows.laid_padlock_parse_words), ("padlock/parse.types", Rows.laid_padlock_parse_types), ("unicode/utf8.first", Rows.laid_unicode_utf8_first)] W) : Globs GT W := by
  obtain ⟨ps, h, _⟩ := h
  obtain ⟨_, _, _, _, _, _, _, _, _, _, h, _⟩ := h
  obtain ⟨h1, h2, q, h3⟩ := marks_head h
  obtain ⟨h4, h5, q2, h6⟩ := words_head h3
  obtain ⟨h7, h8, _⟩ := types_head h6
  intro g cs hg
  simp only [GT, List.mem_cons, Prod.mk.injEq, List.not_mem_nil, or_false] at hg
  rcases hg with ⟨rfl, rfl⟩ | ⟨rfl, rfl⟩ | ⟨rfl, rfl⟩
  · refine ⟨h8, fun j u hu => ?_⟩
    have hj : j < 4 := by have := (List.getElem?_eq_some_iff.1 hu).1; simpa [typesV] using this
    rw [h7 j hj, ← hu]
    match j, hj with
    | 0, _ => rfl
    | 1, _ => rfl
    | 2, _ => rfl
    | 3, _ => rfl
  · refine ⟨h2, fun j u hu => ?_⟩
    have hj := (List.getElem?_eq_some_iff.1 hu).1
    rw [List.length_map] at hj
    rw [h1 j hj, ← hu, List.getElem?_map, List.getD, List.getElem?_eq_getElem hj]; rfl
  · refine ⟨h5, fun j u hu => ?_⟩
    have hj := (List.getElem?_eq_some_iff.1 hu).1
    rw [List.length_map] at hj
    rw [h4 j hj, ← hu, List.getElem?_map, List.getD, List.getElem?_eq_getElem hj]; rfl
end Go.Proofs.YtoecmmpjndcolaaGreatDoor
