/- Texts of the law LexCuts, part 4: lemmas; what is proved stands in the last text. -/
import Derived.Test.YteebiklebedneaaDoorZz3
import Derived.Test.YteebiklebedneaaDoorRows
import Derived.WalkKit
import Derived.ProofKit
import Derived.OpenShut
import Derived.ShutString
import Derived.ChangeOld
import Derived.Below
import Derived.Lib.SmallJoins
import Derived.Test.YteebiklebedneaaDoorZz1
import Derived.JoinedCond
import Derived.SizedLaws
import Derived.Deep.Strs
import Derived.Test.YteebiklebedneaaDoorCards
import Derived.Test.YteebiklebedneaaDoorTie
import Derived.Deep.DeepHandedRow
import Derived.Lib.LaidTab
import Derived.Shelf.Vars
set_option linter.unusedSimpArgs false
set_option linter.unusedVariables false
/- The reference's tokenAt: marks and texts. -/
namespace Go.AM
open Go Go.RowKit
open Go.Proofs.YteebiklebedneaaDoor (letB digB wrdB)
attribute [local irreducible] AWP retA
theorem str_nil {m : List UInt8} (h : m ≠ []) : ((⟨m.toArray⟩ : ByteArray).toList == (⟨#[]⟩ : ByteArray).toList) = false := by
  rw [beq_eq_false_iff_ne]
  intro h1
  have h2 : (⟨m.toArray⟩ : ByteArray).toList = [] := by rw [h1]; exact List.length_eq_zero_iff.1 (by rw [Go.Proofs.YteebiklebedneaaDoor.toList_len]; rfl)
  have h3 := Go.Proofs.YteebiklebedneaaDoor.size_nil h2
  rw [ba_size] at h3
  exact h (List.length_eq_zero_iff.1 h3)
set_option maxRecDepth 100000 in
set_option maxHeartbeats 8000000 in
theorem tok_mark (G : List (Nat × List Value)) (l : List UInt8) (hl : l.length ≤ 1048576) (at_ : Nat) (c : UInt8) (hc : l[at_]? = some c) (h1 : letB c.toNat = false) (h2 : digB c.toNat = false) (h3 : c ≠ 39) : Con Go.Proofs.Tryd.prog G 44 [.r (.string ⟨l.toArray⟩), .r (.int .i64 at_)] [] 0
    (Is (refR at_ (markE (marksB.find? fun m => isPre m (l.drop at_)))) [] 0) No := by
  have hlt := (List.getElem?_eq_some_iff.1 hc).1
  have hb : (⟨l.toArray⟩ : ByteArray)[at_]? = some c := by rw [ba_get]; exact hc
  have zs : l.toArray.size = l.length := List.size_toArray
  have e39 : ((c.toNat : Int) != 39) = true := by
    rw [bne_iff_ne]; intro h; exact h3 (UInt8.toNat_inj.1 (show c.toNat = (39 : UInt8).toNat by have : (39 : UInt8).toNat = 39 := rfl; omega))
  have lc := wordB_con G c
  rw [h1] at lc
  have dc := numB_con G c
  rw [h2] at dc
  have mc := markAt_con G l hl at_ hlt
  rw [mark_same]
  obtain ⟨m, hm⟩ : ∃ m, markR (l.drop at_) = m := ⟨_, rfl⟩
  rw [hm] at mc ⊢
  have hml : m.length ≤ 2 := by
    rw [← hm]
    match l.drop at_ with
    | [] => simp [markR]
    | [c] => simp only [markR]; split <;> simp
    | c :: d :: r => simp only [markR]; split <;> (try split) <;> simp
  by_cases hn : m = []
  · subst hn
    rw [if_pos rfl]
    refine con_of_awp Go.Proofs.Tryd.func44 rfl (by kernel_rfl) (of_decide_eq_true (by kernel_rfl)) ?_; intro E hG hE; subst hG; simp only [ent]
    (repeat' (first | refine awp_seq ?_ | refine awp_block ?_ | refine awp_skip ?_ | refine awp_exit ?_ | ((first | refine rR (fun K kp hK hkp => ?_) | refine cR lc ?_ | refine cR dc ?_ | refine cR mc ?_ | refine iG ?_); simp (implicitDefEqProofs := false) (maxSteps := 2000000) (disch := omega) only [go_sem, eT, hb, zs, e39, beq_self_eq_true]; (repeat' (first | (refine hK _ ?_; clear hK hkp kp K) | (with_reducible refine And.intro ?_ ?_) | omega))) | ((first | refine aG (fun h => ?_) (fun h => ?_) | refine aD (fun h => ?_) (fun h => ?_) | refine aX (fun h => ?_) (fun h => ?_)) <;> simp only [h]) | refine awp_cond_t rfl ?_ | refine awp_cond_f rfl ?_ | ((refine awp_cond rfl (fun h => ?_) (fun h => ?_) <;> try simp only [ifs] at h) <;> (try (exfalso; omega))) | refine awp_ret ?_))
    (refine retA_is (by (simp (implicitDefEqProofs := false) (maxSteps := 2000000) (disch := omega) only [go_sem, Go.Proofs.Tryd.results44, refR, markE, eT]); rfl) ?_; refine eN hE ?_; simp [oneA, ren, renL, refR, markE, eT])
  · rw [if_neg hn]
    have e0 := str_nil hn
    have zm : m.toArray.size = m.length := List.size_toArray
    obtain ⟨a2, ha2⟩ : ∃ a2, at_ + m.length = a2 := ⟨_, rfl⟩
    have e2 : (at_ : Int) + (m.length : Int) = (a2 : Int) := by omega
    refine con_of_awp Go.Proofs.Tryd.func44 rfl (by kernel_rfl) (of_decide_eq_true (by kernel_rfl)) ?_; intro E hG hE; subst hG; simp only [ent]
    (repeat' (first | refine awp_seq ?_ | refine awp_block ?_ | refine awp_skip ?_ | refine awp_exit ?_ | ((first | refine rR (fun K kp hK hkp => ?_) | refine cR lc ?_ | refine cR dc ?_ | refine cR mc ?_ | refine iG ?_); simp (implicitDefEqProofs := false) (maxSteps := 2000000) (disch := omega) only [go_sem, eT, hb, zs, e39, e0, zm, e2]; (repeat' (first | (refine hK _ ?_; clear hK hkp kp K) | (with_reducible refine And.intro ?_ ?_) | omega))) | ((first | refine aG (fun h => ?_) (fun h => ?_) | refine aD (fun h => ?_) (fun h => ?_) | refine aX (fun h => ?_) (fun h => ?_)) <;> simp only [h]) | refine awp_cond_t rfl ?_ | refine awp_cond_f rfl ?_ | ((refine awp_cond rfl (fun h => ?_) (fun h => ?_) <;> try simp only [ifs] at h) <;> (try (exfalso; omega))) | refine awp_ret ?_))
    (refine retA_is (by (simp (implicitDefEqProofs := false) (maxSteps := 2000000) (disch := omega) only [go_sem, Go.Proofs.Tryd.results44, refR, markE, eT, ha2]); rfl) ?_; refine eN hE ?_; simp [oneA, ren, renL, refR, markE, eT, ha2])
set_option maxRecDepth 100000 in
set_option maxHeartbeats 16000000 in
theorem tok_text (G : List (Nat × List Value)) (l : List UInt8) (hl : l.length ≤ 1048576) (at_ : Nat) (c : UInt8) (hc : l[at_]? = some c) (h1 : letB c.toNat = false) (h2 : digB c.toNat = false) (h3 : c = 39) : Con Go.Proofs.Tryd.prog G 44 [.r (.string ⟨l.toArray⟩), .r (.int .i64 at_)] [] 0
    (Is (refR at_ (textE (textM (l.drop (at_ + 1))))) [] 0) No := by
  have hlt := (List.getElem?_eq_some_iff.1 hc).1
  have hb : (⟨l.toArray⟩ : ByteArray)[at_]? = some c := by rw [ba_get]; exact hc
  have zs : l.toArray.size = l.length := List.size_toArray
  have e39 : ((c.toNat : Int) != 39) = false := by rw [h3]; rfl
  have lc := wordB_con G c
  rw [h1] at lc
  have dc := numB_con G c
  rw [h2] at dc
  obtain ⟨R, hR⟩ : ∃ R, textM (l.drop (at_ + 1)) = R := ⟨_, rfl⟩
  rw [hR]
  obtain ⟨a1, ha1⟩ : ∃ a1, at_ + 1 = a1 := ⟨_, rfl⟩
  rw [ha1] at hR
  have e1 : (at_ : Int) + 1 = (a1 : Int) := by omega
  refine con_of_awp Go.Proofs.Tryd.func44 rfl (by kernel_rfl) (of_decide_eq_true (by kernel_rfl)) ?_; intro E hG hE; subst hG; simp only [ent]
  (repeat' (first | refine awp_seq ?_ | refine awp_block ?_ | refine awp_skip ?_ | refine awp_exit ?_ | ((first | refine rR (fun K kp hK hkp => ?_) | refine cR lc ?_ | refine cR dc ?_ | refine iG ?_); simp (implicitDefEqProofs := false) (maxSteps := 2000000) (disch := omega) only [go_sem, eT, hb, zs, e39, e1]; (repeat' (first | (refine hK _ ?_; clear hK hkp kp K) | (with_reducible refine And.intro ?_ ?_) | omega))) | ((first | refine aG (fun h => ?_) (fun h => ?_) | refine aD (fun h => ?_) (fun h => ?_) | refine aX (fun h => ?_) (fun h => ?_)) <;> simp only [h]) | refine awp_cond_t rfl ?_ | refine awp_cond_f rfl ?_ | ((refine awp_cond rfl (fun h => ?_) (fun h => ?_) <;> try simp only [ifs] at h) <;> (try (exfalso; omega))) | refine awp_ret ?_))
  (refine AWP.emb (emb_nil 12 5 1 ?_) ?_; (· rfl); dsimp only)
  refine awp_loop (fun d : Nat × List UInt8 => ⟨[(13, .r (.int .i64 d.1)), (12, .s 1 0 d.2.length), (4, .p 0 0 0), (1, .r (.int .i64 at_)), (0, .r (.string ⟨l.toArray⟩))], [(0, .box 66 (eT ⟨0, ⟨#[]⟩, 0⟩)), (1, .lst 5 1 (d.2.map eByte))], 2⟩) (fun d => a1 ≤ d.1 ∧ d.1 ≤ l.length ∧ d.2.length ≤ d.1 ∧ (textM (l.drop d.1)).map (onT d.2 (d.1 - a1)) = R) (fun d => l.length - d.1) (a1, []) ?_ ?_ ?_
  · refine ⟨Nat.le_refl _, by omega, by simp, ?_⟩
    rw [← hR]
    cases textM (l.drop a1) <;> simp [onT]
  · (refine emb [0, 1] ?_ ?_ rfl ?_ ?_ ?_ ?_ <;> simp [okM, okO, lk, ren, renL, renNd, by_, hE, eT] <;> (try omega) <;> (try (intro i hi; first | (rcases (by omega : i = 0 ∨ i = 1 ∨ i = 2) with rfl | rfl | rfl <;> rfl) | (rcases (by omega : i = 0 ∨ i = 1) with rfl | rfl <;> rfl))))
  rintro ⟨j, acc⟩ ⟨hj1, hj2, hal, ht⟩
  simp only at hj1 hj2 hal ht ⊢
  by_cases hjl : j < l.length
  · have d1 : decide ((j : Int) < (l.length : Int)) = true := decide_eq_true (by omega)
    obtain ⟨x, hx⟩ : ∃ x, l[j]? = some x := ⟨l[j], by simp [hjl]⟩
    have hbx : (⟨l.toArray⟩ : ByteArray)[j]? = some x := by rw [ba_get]; exact hx
    rw [drop_cons hx] at ht
    obtain ⟨j1, hj⟩ : ∃ j1, j + 1 = j1 := ⟨_, rfl⟩
    have f1 : (j : Int) + 1 = (j1 : Int) := by omega
    obtain ⟨j2, hjj⟩ : ∃ j2, j1 + 1 = j2 := ⟨_, rfl⟩
    have f2 : (j1 : Int) + 1 = (j2 : Int) := by omega
    rw [hj] at ht
    by_cases hx39 : x = 39
    · have ex : ((x.toNat : Int) == 39) = true := by rw [hx39]; rfl
      rw [hx39] at ht
      by_cases hlt2 : j1 < l.length
      · have d2 : decide ((j1 : Int) < (l.length : Int)) = true := decide_eq_true (by omega)
        obtain ⟨d, hd⟩ : ∃ d, l[j1]? = some d := ⟨l[j1], by simp [hlt2]⟩
        have hbd : (⟨l.toArray⟩ : ByteArray)[j1]? = some d := by rw [ba_get]; exact hd
        by_cases hd39 : d = 39
        · have ed : ((d.toNat : Int) == 39) = true := by rw [hd39]; rfl
          rw [drop_cons hd, hd39, hjj, text_two, onT_two, ← hx39, show j - a1 + 2 = j2 - a1 by omega] at ht
          (repeat' (first | refine awp_seq ?_ | refine awp_block ?_ | refine awp_skip ?_ | refine awp_exit ?_ | ((first | refine rR (fun K kp hK hkp => ?_) | refine iG ?_); simp (implicitDefEqProofs := false) (maxSteps := 2000000) (disch := omega) only [go_sem, eT, d1, d2, zs, hbx, hbd, ex, ed, f1, f2]; (repeat' (first | (refine hK _ ?_; clear hK hkp kp K) | (with_reducible refine And.intro ?_ ?_) | omega))) | ((first | refine aG (fun h => ?_) (fun h => ?_) | refine aD (fun h => ?_) (fun h => ?_) | refine aX (fun h => ?_) (fun h => ?_)) <;> simp only [h]) | refine awp_cond_t rfl ?_ | refine awp_cond_f rfl ?_ | ((refine awp_cond rfl (fun h => ?_) (fun h => ?_) <;> try simp only [ifs] at h) <;> (try (exfalso; omega))) | refine awp_ret ?_))
          ((first | (refine nextB ((j2, acc ++ [x])) ?_ ?_ ?_) | (refine nextA ((j2, acc ++ [x])) ?_ ?_ ?_) | (refine nextE ((j2, acc ++ [x])) ?_ ?_ ?_)); rotate_left; (· (try dsimp only); (first | omega | (simp only [List.length_drop, List.length_cons, List.length_append]; omega) | (simp; done) | (simp; omega))); (· (refine emb [0, 3] ?_ ?_ rfl ?_ ?_ ?_ ?_ <;> simp [okM, okO, lk, ren, renL, renNd, by_, hE, eT, eByte] <;> (try omega) <;> (try (intro i hi; first | (rcases (by omega : i = 0 ∨ i = 1 ∨ i = 2) with rfl | rfl | rfl <;> rfl) | (rcases (by omega : i = 0 ∨ i = 1) with rfl | rfl <;> rfl))))))
          exact ⟨by simp only; omega, by simp only; omega, by simp; omega, ht⟩
        · have ed : ((d.toNat : Int) == 39) = false := by
            rw [beq_eq_false_iff_ne]; intro h; exact hd39 (UInt8.toNat_inj.1 (show d.toNat = (39 : UInt8).toNat by have : (39 : UInt8).toNat = 39 := rfl; omega))
          rw [text_end (by rw [List.getElem?_drop]; simpa [hd] using hd39)] at ht
          simp only [Option.map_some, onT, List.append_nil] at ht
          subst ht
          (repeat' (first | refine awp_seq ?_ | refine awp_block ?_ | refine awp_skip ?_ | refine awp_exit ?_ | ((first | refine rR (fun K kp hK hkp => ?_) | refine iG ?_); simp (implicitDefEqProofs := false) (maxSteps := 2000000) (disch := omega) only [go_sem, eT, d1, d2, zs, hbx, hbd, ex, ed, f1, f2, unb_map]; (repeat' (first | (refine hK _ ?_; clear hK hkp kp K) | (with_reducible refine And.intro ?_ ?_) | omega))) | ((first | refine aG (fun h => ?_) (fun h => ?_) | refine aD (fun h => ?_) (fun h => ?_) | refine aX (fun h => ?_) (fun h => ?_)) <;> simp only [h]) | refine awp_cond_t rfl ?_ | refine awp_cond_f rfl ?_ | ((refine awp_cond rfl (fun h => ?_) (fun h => ?_) <;> try simp only [ifs] at h) <;> (try (exfalso; omega))) | refine awp_ret ?_))
          (refine retA_is (by (simp (implicitDefEqProofs := false) (maxSteps := 2000000) (disch := omega) only [go_sem, Go.Proofs.Tryd.results44, refR, textE, eT]); rfl) ?_; refine eN hE ?_; simp [oneA, ren, renL, refR, textE, eT])
          omega
      · have d2 : decide ((j1 : Int) < (l.length : Int)) = false := decide_eq_false (by omega)
        rw [text_end (by rw [List.getElem?_drop, List.getElem?_eq_none (by omega)]; simp)] at ht
        simp only [Option.map_some, onT, List.append_nil] at ht
        subst ht
        (repeat' (first | refine awp_seq ?_ | refine awp_block ?_ | refine awp_skip ?_ | refine awp_exit ?_ | ((first | refine rR (fun K kp hK hkp => ?_) | refine iG ?_); simp (implicitDefEqProofs := false) (maxSteps := 2000000) (disch := omega) only [go_sem, eT, d1, d2, zs, hbx, ex, f1, f2, unb_map]; (repeat' (first | (refine hK _ ?_; clear hK hkp kp K) | (with_reducible refine And.intro ?_ ?_) | omega))) | ((first | refine aG (fun h => ?_) (fun h => ?_) | refine aD (fun h => ?_) (fun h => ?_) | refine aX (fun h => ?_) (fun h => ?_)) <;> simp only [h]) | refine awp_cond_t rfl ?_ | refine awp_cond_f rfl ?_ | ((refine awp_cond rfl (fun h => ?_) (fun h => ?_) <;> try simp only [ifs] at h) <;> (try (exfalso; omega))) | refine awp_ret ?_))
        (refine retA_is (by (simp (implicitDefEqProofs := false) (maxSteps := 2000000) (disch := omega) only [go_sem, Go.Proofs.Tryd.results44, refR, textE, eT]); rfl) ?_; refine eN hE ?_; simp [oneA, ren, renL, refR, textE, eT])
        omega
    · have ex : ((x.toNat : Int) == 39) = false := by
        rw [beq_eq_false_iff_ne]; intro h; exact hx39 (UInt8.toNat_inj.1 (show x.toNat = (39 : UInt8).toNat by have : (39 : UInt8).toNat = 39 := rfl; omega))
      rw [text_else hx39, onT_one, show j - a1 + 1 = j1 - a1 by omega] at ht
      by_cases hlt2 : j1 < l.length
      · have d2 : decide ((j1 : Int) < (l.length : Int)) = true := decide_eq_true (by omega)
        obtain ⟨d, hd⟩ : ∃ d, l[j1]? = some d := ⟨l[j1], by simp [hlt2]⟩
        have hbd : (⟨l.toArray⟩ : ByteArray)[j1]? = some d := by rw [ba_get]; exact hd
        (repeat' (first | refine awp_seq ?_ | refine awp_block ?_ | refine awp_skip ?_ | refine awp_exit ?_ | ((first | refine rR (fun K kp hK hkp => ?_) | refine iG ?_); simp (implicitDefEqProofs := false) (maxSteps := 2000000) (disch := omega) only [go_sem, eT, d1, d2, zs, hbx, hbd, ex, f1, f2]; (repeat' (first | (refine hK _ ?_; clear hK hkp kp K) | (with_reducible refine And.intro ?_ ?_) | omega))) | ((first | refine aG (fun h => ?_) (fun h => ?_) | refine aD (fun h => ?_) (fun h => ?_) | refine aX (fun h => ?_) (fun h => ?_)) <;> simp only [h]) | refine awp_cond_t rfl ?_ | refine awp_cond_f rfl ?_ | ((refine awp_cond rfl (fun h => ?_) (fun h => ?_) <;> try simp only [ifs] at h) <;> (try (exfalso; omega))) | refine awp_ret ?_))
        ((first | (refine nextB ((j1, acc ++ [x])) ?_ ?_ ?_) | (refine nextA ((j1, acc ++ [x])) ?_ ?_ ?_) | (refine nextE ((j1, acc ++ [x])) ?_ ?_ ?_)); rotate_left; (· (try dsimp only); (first | omega | (simp only [List.length_drop, List.length_cons, List.length_append]; omega) | (simp; done) | (simp; omega))); (· (refine emb [0, 3] ?_ ?_ rfl ?_ ?_ ?_ ?_ <;> simp [okM, okO, lk, ren, renL, renNd, by_, hE, eT, eByte] <;> (try omega) <;> (try (intro i hi; first | (rcases (by omega : i = 0 ∨ i = 1 ∨ i = 2) with rfl | rfl | rfl <;> rfl) | (rcases (by omega : i = 0 ∨ i = 1) with rfl | rfl <;> rfl))))))
        exact ⟨by simp only; omega, by simp only; omega, by simp; omega, ht⟩
      · have d2 : decide ((j1 : Int) < (l.length : Int)) = false := decide_eq_false (by omega)
        (repeat' (first | refine awp_seq ?_ | refine awp_block ?_ | refine awp_skip ?_ | refine awp_exit ?_ | ((first | refine rR (fun K kp hK hkp => ?_) | refine iG ?_); simp (implicitDefEqProofs := false) (maxSteps := 2000000) (disch := omega) only [go_sem, eT, d1, d2, zs, hbx, ex, f1, f2]; (repeat' (first | (refine hK _ ?_; clear hK hkp kp K) | (with_reducible refine And.intro ?_ ?_) | omega))) | ((first | refine aG (fun h => ?_) (fun h => ?_) | refine aD (fun h => ?_) (fun h => ?_) | refine aX (fun h => ?_) (fun h => ?_)) <;> simp only [h]) | refine awp_cond_t rfl ?_ | refine awp_cond_f rfl ?_ | ((refine awp_cond rfl (fun h => ?_) (fun h => ?_) <;> try simp only [ifs] at h) <;> (try (exfalso; omega))) | refine awp_ret ?_))
        ((first | (refine nextB ((j1, acc ++ [x])) ?_ ?_ ?_) | (refine nextA ((j1, acc ++ [x])) ?_ ?_ ?_) | (refine nextE ((j1, acc ++ [x])) ?_ ?_ ?_)); rotate_left; (· (try dsimp only); (first | omega | (simp only [List.length_drop, List.length_cons, List.length_append]; omega) | (simp; done) | (simp; omega))); (· (refine emb [0, 3] ?_ ?_ rfl ?_ ?_ ?_ ?_ <;> simp [okM, okO, lk, ren, renL, renNd, by_, hE, eT, eByte] <;> (try omega) <;> (try (intro i hi; first | (rcases (by omega : i = 0 ∨ i = 1 ∨ i = 2) with rfl | rfl | rfl <;> rfl) | (rcases (by omega : i = 0 ∨ i = 1) with rfl | rfl <;> rfl))))))
        exact ⟨by simp only; omega, by simp only; omega, by simp; omega, ht⟩
  · have d1 : decide ((j : Int) < (l.length : Int)) = false := decide_eq_false (by omega)
    rw [List.drop_of_length_le (by omega)] at ht
    simp only [textM, Option.map_none] at ht
    subst ht
    (repeat' (first | refine awp_seq ?_ | refine awp_block ?_ | refine awp_skip ?_ | refine awp_exit ?_ | ((first | refine rR (fun K kp hK hkp => ?_) | refine iG ?_); simp (implicitDefEqProofs := false) (maxSteps := 2000000) (disch := omega) only [go_sem, eT, d1, zs]; (repeat' (first | (refine hK _ ?_; clear hK hkp kp K) | (with_reducible refine And.intro ?_ ?_) | omega))) | ((first | refine aG (fun h => ?_) (fun h => ?_) | refine aD (fun h => ?_) (fun h => ?_) | refine aX (fun h => ?_) (fun h => ?_)) <;> simp only [h]) | refine awp_cond_t rfl ?_ | refine awp_cond_f rfl ?_ | ((refine awp_cond rfl (fun h => ?_) (fun h => ?_) <;> try simp only [ifs] at h) <;> (try (exfalso; omega))) | refine awp_ret ?_))
    (refine retA_is (by (simp (implicitDefEqProofs := false) (maxSteps := 2000000) (disch := omega) only [go_sem, Go.Proofs.Tryd.results44, refR, textE, eT]); rfl) ?_; refine eN hE ?_; simp [oneA, ren, renL, refR, textE, eT])
end Go.AM
/- The reference's tokenAt: numbers. -/
namespace Go.AM
open Go Go.RowKit
open Go.Proofs.YteebiklebedneaaDoor (letB digB wrdB)
attribute [local irreducible] AWP retA
theorem decV_app (l : List UInt8) (d : UInt8) : decV (l ++ [d]) = 10 * decV l + (d.toNat - 48) := by simp [decV]
theorem take_next {l : List UInt8} {a k : Nat} {d : UInt8} (h : l[k]? = some d) (ha : a ≤ k) : (l.drop a).take (k + 1 - a) = (l.drop a).take (k - a) ++ [d] := by
  rw [show k + 1 - a = (k - a) + 1 by omega, List.take_add_one, List.getElem?_drop, show a + (k - a) = k by omega, h]; rfl
structure NumOk (l : List UInt8) (at_ k : Nat) (val : Int) (over : Bool) : Prop where
  lo : 0 ≤ val
  hi : val ≤ 9223372036854775807
  no : over = false → val = (decV ((l.drop at_).take (k - at_)) : Int)
  yes : over = true → 9223372036854775807 < decV ((l.drop at_).take (k - at_))
set_option maxRecDepth 100000 in
set_option maxHeartbeats 16000000 in
theorem tok_num (G : List (Nat × List Value)) (l : List UInt8) (hl : l.length ≤ 1048576) (at_ : Nat) (c : UInt8) (hc : l[at_]? = some c) (h1 : letB c.toNat = false) (h2 : digB c.toNat = true) (n : Nat) (hn : spanP digB (l.drop at_) = n) : Con Go.Proofs.Tryd.prog G 44 [.r (.string ⟨l.toArray⟩), .r (.int .i64 at_)] [] 0
    (Is (refR at_ (if (l[at_ + n]?.map fun d => letB d.toNat) = some true then .error 6
      else if 9223372036854775807 < decV ((l.drop at_).take n) then .error 5
      else .ok (⟨2, ⟨#[]⟩, decV ((l.drop at_).take n)⟩, n))) [] 0) No := by
  have hlt := (List.getElem?_eq_some_iff.1 hc).1
  have hb : (⟨l.toArray⟩ : ByteArray)[at_]? = some c := by rw [ba_get]; exact hc
  have zs : l.toArray.size = l.length := List.size_toArray
  have lc := wordB_con G c
  rw [h1] at lc
  have dc := numB_con G c
  rw [h2] at dc
  have hnl := spanP_le digB (l.drop at_)
  rw [hn, List.length_drop] at hnl
  refine con_of_awp Go.Proofs.Tryd.func44 rfl (by kernel_rfl) (of_decide_eq_true (by kernel_rfl)) ?_; intro E hG hE; subst hG; simp only [ent]
  (repeat' (first | refine awp_seq ?_ | refine awp_block ?_ | refine awp_skip ?_ | refine awp_exit ?_ | ((first | refine rR (fun K kp hK hkp => ?_) | refine cR lc ?_ | refine cR dc ?_ | refine iG ?_); simp (implicitDefEqProofs := false) (maxSteps := 2000000) (disch := omega) only [go_sem, eT, hb, zs]; (repeat' (first | (refine hK _ ?_; clear hK hkp kp K) | (with_reducible refine And.intro ?_ ?_) | omega))) | ((first | refine aG (fun h => ?_) (fun h => ?_) | refine aD (fun h => ?_) (fun h => ?_) | refine aX (fun h => ?_) (fun h => ?_)) <;> simp only [h]) | refine awp_cond_t rfl ?_ | refine awp_cond_f rfl ?_ | ((refine awp_cond rfl (fun h => ?_) (fun h => ?_) <;> try simp only [ifs] at h) <;> (try (exfalso; omega))) | refine awp_ret ?_))
  refine awp_loop (fun d : Nat × Int × Bool => ⟨[(7, .r (.int .i64 d.1)), (8, .r (.int .i64 d.2.1)), (9, .r (.bool d.2.2)), (4, .p 0 0 0), (1, .r (.int .i64 at_)), (0, .r (.string ⟨l.toArray⟩))], [(0, .box 66 (eT ⟨0, ⟨#[]⟩, 0⟩))], 1⟩) (fun d => at_ ≤ d.1 ∧ d.1 ≤ l.length ∧ d.1 + spanP digB (l.drop d.1) = at_ + n ∧ NumOk l at_ d.1 d.2.1 d.2.2) (fun d => l.length - d.1) (at_, 0, false) ?_ ?_ ?_
  · exact ⟨Nat.le_refl _, by omega, by rw [hn], ⟨Int.le_refl _, by simp only; omega, fun _ => by simp [decV], fun h => by simp at h⟩⟩
  · (refine emb [0] ?_ ?_ rfl ?_ ?_ ?_ ?_ <;> simp [okM, okO, lk, ren, renL, renNd, by_, hE, eT] <;> (try omega) <;> (try (intro i hi; first | (rcases (by omega : i = 0 ∨ i = 1 ∨ i = 2) with rfl | rfl | rfl <;> rfl) | (rcases (by omega : i = 0 ∨ i = 1) with rfl | rfl <;> rfl))))
  rintro ⟨k, val, over⟩ ⟨hk1, hk2, hs, ok⟩
  simp only at hk1 hk2 hs ok ⊢
  obtain ⟨v0, v1, vn, vy⟩ := ok
  by_cases hgo : ∃ d, l[k]? = some d ∧ digB d.toNat = true
  · obtain ⟨d, hd, hdig⟩ := hgo
    have hkl := (List.getElem?_eq_some_iff.1 hd).1
    have d1 : decide ((k : Int) < (l.length : Int)) = true := decide_eq_true (by omega)
    have hbd : (⟨l.toArray⟩ : ByteArray)[k]? = some d := by rw [ba_get]; exact hd
    have nd := numB_con E.G d
    rw [hdig] at nd
    rw [spanP_yes hd hdig] at hs
    have hdn := dig_nat hdig
    obtain ⟨dn, hdn2⟩ : ∃ dn, d.toNat - 48 = dn := ⟨_, rfl⟩
    have w1 : IntKind.u8.wrap ((d.toNat : Int) - 48) = (dn : Int) := by rw [u8_wrap]; omega
    obtain ⟨q, hq⟩ : ∃ q : Int, (9223372036854775807 - (dn : Int)) / 10 = q := ⟨_, rfl⟩
    have w2 : IntKind.i64.wrap ((9223372036854775807 - (dn : Int)).tdiv 10) = q := by
      rw [Int.tdiv_eq_ediv_of_nonneg (by omega), wrapA (by omega) (by omega), hq]
    have hdec := decV_app ((l.drop at_).take (k - at_)) d
    rw [← take_next hd hk1, hdn2] at hdec
    by_cases hv : val > q
    · have d3 : decide (val > q) = true := decide_eq_true hv
      (repeat' (first | refine awp_seq ?_ | refine awp_block ?_ | refine awp_skip ?_ | refine awp_exit ?_ | ((first | refine rR (fun K kp hK hkp => ?_) | refine cR nd ?_ | refine iG ?_); simp (implicitDefEqProofs := false) (maxSteps := 2000000) (disch := omega) only [go_sem, eT, d1, hbd, zs, w1, w2, d3]; (repeat' (first | (refine hK _ ?_; clear hK hkp kp K) | (with_reducible refine And.intro ?_ ?_) | omega))) | ((first | refine aG (fun h => ?_) (fun h => ?_) | refine aD (fun h => ?_) (fun h => ?_) | refine aX (fun h => ?_) (fun h => ?_)) <;> simp only [h]) | refine awp_cond_t rfl ?_ | refine awp_cond_f rfl ?_ | ((refine awp_cond rfl (fun h => ?_) (fun h => ?_) <;> try simp only [ifs] at h) <;> (try (exfalso; omega))) | refine awp_ret ?_))
      ((first | (refine nextB ((k + 1, (dn : Int), true)) ?_ ?_ ?_) | (refine nextA ((k + 1, (dn : Int), true)) ?_ ?_ ?_) | (refine nextE ((k + 1, (dn : Int), true)) ?_ ?_ ?_)); rotate_left; (· (try dsimp only); (first | omega | (simp only [List.length_drop, List.length_cons, List.length_append]; omega) | (simp; done) | (simp; omega))); (· (refine emb [0] ?_ ?_ rfl ?_ ?_ ?_ ?_ <;> simp [okM, okO, lk, ren, renL, renNd, by_, hE, eT] <;> (try omega) <;> (try (intro i hi; first | (rcases (by omega : i = 0 ∨ i = 1 ∨ i = 2) with rfl | rfl | rfl <;> rfl) | (rcases (by omega : i = 0 ∨ i = 1) with rfl | rfl <;> rfl))))))
      refine ⟨by simp only; omega, hkl, hs, ⟨by simp only; omega, by simp only; omega, fun h => by simp at h, fun _ => ?_⟩⟩
      simp only
      rw [hdec]
      cases over
      · have := vn rfl; omega
      · have := vy rfl; omega
    · have d3 : decide (val > q) = false := decide_eq_false hv
      (repeat' (first | refine awp_seq ?_ | refine awp_block ?_ | refine awp_skip ?_ | refine awp_exit ?_ | ((first | refine rR (fun K kp hK hkp => ?_) | refine cR nd ?_ | refine iG ?_); simp (implicitDefEqProofs := false) (maxSteps := 2000000) (disch := omega) only [go_sem, eT, d1, hbd, zs, w1, w2, d3]; (repeat' (first | (refine hK _ ?_; clear hK hkp kp K) | (with_reducible refine And.intro ?_ ?_) | omega))) | ((first | refine aG (fun h => ?_) (fun h => ?_) | refine aD (fun h => ?_) (fun h => ?_) | refine aX (fun h => ?_) (fun h => ?_)) <;> simp only [h]) | refine awp_cond_t rfl ?_ | refine awp_cond_f rfl ?_ | ((refine awp_cond rfl (fun h => ?_) (fun h => ?_) <;> try simp only [ifs] at h) <;> (try (exfalso; omega))) | refine awp_ret ?_))
      ((first | (refine nextB ((k + 1, 10 * val + (dn : Int), over)) ?_ ?_ ?_) | (refine nextA ((k + 1, 10 * val + (dn : Int), over)) ?_ ?_ ?_) | (refine nextE ((k + 1, 10 * val + (dn : Int), over)) ?_ ?_ ?_)); rotate_left; (· (try dsimp only); (first | omega | (simp only [List.length_drop, List.length_cons, List.length_append]; omega) | (simp; done) | (simp; omega))); (· (refine emb [0] ?_ ?_ rfl ?_ ?_ ?_ ?_ <;> simp [okM, okO, lk, ren, renL, renNd, by_, hE, eT] <;> (try omega) <;> (try (intro i hi; first | (rcases (by omega : i = 0 ∨ i = 1 ∨ i = 2) with rfl | rfl | rfl <;> rfl) | (rcases (by omega : i = 0 ∨ i = 1) with rfl | rfl <;> rfl))))))
      refine ⟨by simp only; omega, hkl, hs, ⟨by simp only; omega, by simp only; omega, fun h => ?_, fun h => ?_⟩⟩
      · simp only; rw [hdec]; have := vn h; omega
      · simp only; rw [hdec]; have := vy h; omega
  · have hkn : k = at_ + n := by
      by_cases hkl : k < l.length
      · obtain ⟨d, hd⟩ : ∃ d, l[k]? = some d := ⟨l[k], by simp [hkl]⟩
        have hno : digB d.toNat = false := by
          cases hq : digB d.toNat
          · rfl
          · exact absurd ⟨d, hd, hq⟩ hgo
        rw [spanP_no hd hno] at hs; omega
      · rw [List.drop_of_length_le (by omega)] at hs
        simp only [spanP, Nat.add_zero] at hs; exact hs
    rw [show k - at_ = n by omega] at vn vy
    by_cases hkl : k < l.length
    · have d1 : decide ((k : Int) < (l.length : Int)) = true := decide_eq_true (by omega)
      obtain ⟨d, hd⟩ : ∃ d, l[k]? = some d := ⟨l[k], by simp [hkl]⟩
      have hno : digB d.toNat = false := by
        cases hq : digB d.toNat
        · rfl
        · exact absurd ⟨d, hd, hq⟩ hgo
      have hbd : (⟨l.toArray⟩ : ByteArray)[k]? = some d := by rw [ba_get]; exact hd
      have nd := numB_con E.G d
      rw [hno] at nd
      have ld := wordB_con E.G d
      rw [← hkn, hd]
      cases hld : letB d.toNat
      · rw [hld] at ld
        rw [if_neg (by simp [hld])]
        cases over
        · have hv := vn rfl
          rw [if_neg (by omega)]
          (repeat' (first | refine awp_seq ?_ | refine awp_block ?_ | refine awp_skip ?_ | refine awp_exit ?_ | ((first | refine rR (fun K kp hK hkp => ?_) | refine cR nd ?_ | refine cR ld ?_ | refine iG ?_); simp (implicitDefEqProofs := false) (maxSteps := 2000000) (disch := omega) only [go_sem, eT, d1, hbd, zs]; (repeat' (first | (refine hK _ ?_; clear hK hkp kp K) | (with_reducible refine And.intro ?_ ?_) | omega))) | ((first | refine aG (fun h => ?_) (fun h => ?_) | refine aD (fun h => ?_) (fun h => ?_) | refine aX (fun h => ?_) (fun h => ?_)) <;> simp only [h]) | refine awp_cond_t rfl ?_ | refine awp_cond_f rfl ?_ | ((refine awp_cond rfl (fun h => ?_) (fun h => ?_) <;> try simp only [ifs] at h) <;> (try (exfalso; omega))) | refine awp_ret ?_))
          (refine retA_is (by (simp (implicitDefEqProofs := false) (maxSteps := 2000000) (disch := omega) only [go_sem, Go.Proofs.Tryd.results44, refR, eT]); rfl) ?_; refine eN hE ?_; simp [oneA, ren, renL, refR, eT])
          exact ⟨hv, by omega⟩
        · have hv := vy rfl
          rw [if_pos hv]
          (repeat' (first | refine awp_seq ?_ | refine awp_block ?_ | refine awp_skip ?_ | refine awp_exit ?_ | ((first | refine rR (fun K kp hK hkp => ?_) | refine cR nd ?_ | refine cR ld ?_ | refine iG ?_); simp (implicitDefEqProofs := false) (maxSteps := 2000000) (disch := omega) only [go_sem, eT, d1, hbd, zs]; (repeat' (first | (refine hK _ ?_; clear hK hkp kp K) | (with_reducible refine And.intro ?_ ?_) | omega))) | ((first | refine aG (fun h => ?_) (fun h => ?_) | refine aD (fun h => ?_) (fun h => ?_) | refine aX (fun h => ?_) (fun h => ?_)) <;> simp only [h]) | refine awp_cond_t rfl ?_ | refine awp_cond_f rfl ?_ | ((refine awp_cond rfl (fun h => ?_) (fun h => ?_) <;> try simp only [ifs] at h) <;> (try (exfalso; omega))) | refine awp_ret ?_))
          (refine retA_is (by (simp (implicitDefEqProofs := false) (maxSteps := 2000000) (disch := omega) only [go_sem, Go.Proofs.Tryd.results44, refR, eT]); rfl) ?_; refine eN hE ?_; simp [oneA, ren, renL, refR, eT])
      · rw [hld] at ld
        rw [if_pos (by simp [hld])]
        (repeat' (first | refine awp_seq ?_ | refine awp_block ?_ | refine awp_skip ?_ | refine awp_exit ?_ | ((first | refine rR (fun K kp hK hkp => ?_) | refine cR nd ?_ | refine cR ld ?_ | refine iG ?_); simp (implicitDefEqProofs := false) (maxSteps := 2000000) (disch := omega) only [go_sem, eT, d1, hbd, zs]; (repeat' (first | (refine hK _ ?_; clear hK hkp kp K) | (with_reducible refine And.intro ?_ ?_) | omega))) | ((first | refine aG (fun h => ?_) (fun h => ?_) | refine aD (fun h => ?_) (fun h => ?_) | refine aX (fun h => ?_) (fun h => ?_)) <;> simp only [h]) | refine awp_cond_t rfl ?_ | refine awp_cond_f rfl ?_ | ((refine awp_cond rfl (fun h => ?_) (fun h => ?_) <;> try simp only [ifs] at h) <;> (try (exfalso; omega))) | refine awp_ret ?_))
        (refine retA_is (by (simp (implicitDefEqProofs := false) (maxSteps := 2000000) (disch := omega) only [go_sem, Go.Proofs.Tryd.results44, refR, eT]); rfl) ?_; refine eN hE ?_; simp [oneA, ren, renL, refR, eT])
    · have d1 : decide ((k : Int) < (l.length : Int)) = false := decide_eq_false (by omega)
      rw [← hkn, List.getElem?_eq_none (by omega), if_neg (by simp)]
      cases over
      · have hv := vn rfl
        rw [if_neg (by omega)]
        (repeat' (first | refine awp_seq ?_ | refine awp_block ?_ | refine awp_skip ?_ | refine awp_exit ?_ | ((first | refine rR (fun K kp hK hkp => ?_) | refine iG ?_); simp (implicitDefEqProofs := false) (maxSteps := 2000000) (disch := omega) only [go_sem, eT, d1, zs]; (repeat' (first | (refine hK _ ?_; clear hK hkp kp K) | (with_reducible refine And.intro ?_ ?_) | omega))) | ((first | refine aG (fun h => ?_) (fun h => ?_) | refine aD (fun h => ?_) (fun h => ?_) | refine aX (fun h => ?_) (fun h => ?_)) <;> simp only [h]) | refine awp_cond_t rfl ?_ | refine awp_cond_f rfl ?_ | ((refine awp_cond rfl (fun h => ?_) (fun h => ?_) <;> try simp only [ifs] at h) <;> (try (exfalso; omega))) | refine awp_ret ?_))
        (refine retA_is (by (simp (implicitDefEqProofs := false) (maxSteps := 2000000) (disch := omega) only [go_sem, Go.Proofs.Tryd.results44, refR, eT]); rfl) ?_; refine eN hE ?_; simp [oneA, ren, renL, refR, eT])
        exact ⟨hv, by omega⟩
      · have hv := vy rfl
        rw [if_pos hv]
        (repeat' (first | refine awp_seq ?_ | refine awp_block ?_ | refine awp_skip ?_ | refine awp_exit ?_ | ((first | refine rR (fun K kp hK hkp => ?_) | refine iG ?_); simp (implicitDefEqProofs := false) (maxSteps := 2000000) (disch := omega) only [go_sem, eT, d1, zs]; (repeat' (first | (refine hK _ ?_; clear hK hkp kp K) | (with_reducible refine And.intro ?_ ?_) | omega))) | ((first | refine aG (fun h => ?_) (fun h => ?_) | refine aD (fun h => ?_) (fun h => ?_) | refine aX (fun h => ?_) (fun h => ?_)) <;> simp only [h]) | refine awp_cond_t rfl ?_ | refine awp_cond_f rfl ?_ | ((refine awp_cond rfl (fun h => ?_) (fun h => ?_) <;> try simp only [ifs] at h) <;> (try (exfalso; omega))) | refine awp_ret ?_))
        (refine retA_is (by (simp (implicitDefEqProofs := false) (maxSteps := 2000000) (disch := omega) only [go_sem, Go.Proofs.Tryd.results44, refR, eT]); rfl) ?_; refine eN hE ?_; simp [oneA, ren, renL, refR, eT])
end Go.AM
/- The reference's TokensOf. -/
namespace Go.AM
open Go Go.RowKit
open Go.Proofs.YteebiklebedneaaDoor (letB digB wrdB)
attribute [local irreducible] AWP retA
theorem tokAt_con (G : List (Nat × List Value)) (l : List UInt8) (hl : l.length ≤ 1048576) (at_ : Nat) (ha : at_ < l.length) : Con Go.Proofs.Tryd.prog G 44 [.r (.string ⟨l.toArray⟩), .r (.int .i64 at_)] [] 0 (Is (refR at_ (oneM (l.drop at_))) [] 0) No := by
  obtain ⟨c, hc⟩ : ∃ c, l[at_]? = some c := ⟨l[at_], by simp [ha]⟩
  have hdc := drop_cons hc
  have key : oneM (l.drop at_) = oneM (c :: l.drop (at_ + 1)) := by rw [hdc]
  rw [key, oneM, ← hdc]
  by_cases h1 : letB c.toNat = true
  · rw [if_pos h1]; exact tok_word G l hl at_ c hc h1
  have h1 : letB c.toNat = false := by simpa using h1
  rw [if_neg (by simp [h1])]
  by_cases h2 : digB c.toNat = true
  · rw [if_pos h2]
    have := tok_num G l hl at_ c hc h1 h2 _ rfl
    rw [← List.getElem?_drop] at this
    exact this
  have h2 : digB c.toNat = false := by simpa using h2
  rw [if_neg (by simp [h2])]
  by_cases h3 : c = 39
  · rw [if_pos h3]
    have := tok_text G l hl at_ c hc h1 h2 h3
    exact this
  · rw [if_neg h3]
    have := tok_mark G l hl at_ c hc h1 h2 h3
    revert this
    cases List.find? (fun m => isPre m (l.drop at_)) marksB <;> exact id
theorem cut_skip {l : List UInt8} {k : Nat} {c : UInt8} (hc : l[k]? = some c) (hb : blankB c.toNat = true) (f : Nat) (acc : List TK0) : cutF (f + 1) (l.drop k) k acc = cutF (f + 1) (l.drop (k + 1)) (k + 1) acc := by
  have hs := spanP_yes hc hb
  have e : ∀ s : Nat, (l.drop k).drop s = l.drop (k + s) := fun s => by rw [List.drop_drop]
  have e' : ∀ s : Nat, (l.drop (k + 1)).drop s = l.drop (k + 1 + s) := fun s => by rw [List.drop_drop]
  rw [cutF, cutF, e, e', hs]
set_option maxRecDepth 100000 in
set_option maxHeartbeats 16000000 in
theorem TokensOf_con (G : List (Nat × List Value)) (l : List UInt8) (hl : l.length ≤ 1048576) : Con Go.Proofs.Tryd.prog G 18 [.r (.string ⟨l.toArray⟩)] [] 0 (Is (cutA (cutM l)) [] 0) No := by
  have zs : l.toArray.size = l.length := List.size_toArray
  by_cases hc : 400 < l.length
  · have d1 : decide ((l.length : Int) > 400) = true := decide_eq_true (by omega)
    rw [show cutM l = ([], 0, 1) by simp [cutM, hc]]
    refine con_of_awp Go.Proofs.Tryd.func18 rfl (by kernel_rfl) (of_decide_eq_true (by kernel_rfl)) ?_; intro E hG hE; subst hG; simp only [ent]
    (repeat' (first | refine awp_seq ?_ | refine awp_block ?_ | refine awp_skip ?_ | refine awp_exit ?_ | ((first | refine rR (fun K kp hK hkp => ?_) | refine iG ?_); simp (implicitDefEqProofs := false) (maxSteps := 2000000) (disch := omega) only [go_sem, zs, d1]; (repeat' (first | (refine hK _ ?_; clear hK hkp kp K) | (with_reducible refine And.intro ?_ ?_) | omega))) | ((first | refine aG (fun h => ?_) (fun h => ?_) | refine aD (fun h => ?_) (fun h => ?_) | refine aX (fun h => ?_) (fun h => ?_)) <;> simp only [h]) | refine awp_cond_t rfl ?_ | refine awp_cond_f rfl ?_ | ((refine awp_cond rfl (fun h => ?_) (fun h => ?_) <;> try simp only [ifs] at h) <;> (try (exfalso; omega))) | refine awp_ret ?_))
    (refine retA_is (by (simp (implicitDefEqProofs := false) (maxSteps := 2000000) (disch := omega) only [go_sem, Go.Proofs.Tryd.results18, cutA]); rfl) ?_; refine eN hE ?_; simp [oneA, ren, renL, cutA])
  have d1 : decide ((l.length : Int) > 400) = false := decide_eq_false (by omega)
  obtain ⟨R, hR⟩ : ∃ R, cutF (l.length + 1) l 0 [] = R := ⟨_, rfl⟩
  rw [show cutM l = R by rw [cutM, if_neg hc, hR]]
  refine con_of_awp Go.Proofs.Tryd.func18 rfl (by kernel_rfl) (of_decide_eq_true (by kernel_rfl)) ?_; intro E hG hE; subst hG; simp only [ent]
  (repeat' (first | refine awp_seq ?_ | refine awp_block ?_ | refine awp_skip ?_ | refine awp_exit ?_ | ((first | refine rR (fun K kp hK hkp => ?_) | refine iG ?_); simp (implicitDefEqProofs := false) (maxSteps := 2000000) (disch := omega) only [go_sem, zs, d1]; (repeat' (first | (refine hK _ ?_; clear hK hkp kp K) | (with_reducible refine And.intro ?_ ?_) | omega))) | ((first | refine aG (fun h => ?_) (fun h => ?_) | refine aD (fun h => ?_) (fun h => ?_) | refine aX (fun h => ?_) (fun h => ?_)) <;> simp only [h]) | refine awp_cond_t rfl ?_ | refine awp_cond_f rfl ?_ | ((refine awp_cond rfl (fun h => ?_) (fun h => ?_) <;> try simp only [ifs] at h) <;> (try (exfalso; omega))) | refine awp_ret ?_))
  (refine AWP.emb (emb_nil 5 66 3 ?_) ?_; (· rfl); dsimp only)
  refine awp_loop (fun d : Nat × List TK0 => ⟨[(6, .r (.int .i64 d.1)), (5, .s 0 0 d.2.length), (0, .r (.string ⟨l.toArray⟩))], [(0, .lst 66 3 (d.2.map eT))], 1⟩) (fun d => d.1 ≤ l.length ∧ d.2.length ≤ 100 ∧ ∃ f, l.length - d.1 < f ∧ cutF f (l.drop d.1) d.1 d.2 = R) (fun d => l.length - d.1) (0, []) ?_ ?_ ?_
  · exact ⟨Nat.zero_le _, by simp, l.length + 1, by simp, hR⟩
  · (refine emb [0] ?_ ?_ rfl ?_ ?_ ?_ ?_ <;> simp [okM, okO, lk, ren, renL, renNd, by_, hE] <;> (try omega) <;> (try (intro i hi; first | (rcases (by omega : i = 0 ∨ i = 1 ∨ i = 2) with rfl | rfl | rfl <;> rfl) | (rcases (by omega : i = 0 ∨ i = 1) with rfl | rfl <;> rfl))))
  rintro ⟨k, acc⟩ ⟨ha, hn, f, hf, hq⟩
  simp only at ha hn hf hq ⊢
  obtain ⟨f, rfl⟩ : ∃ g, f = g + 1 := ⟨f - 1, by omega⟩
  by_cases hkl : k < l.length
  · have d2 : decide ((k : Int) < (l.length : Int)) = true := decide_eq_true (by omega)
    obtain ⟨c, hcc⟩ : ∃ c, l[k]? = some c := ⟨l[k], by simp [hkl]⟩
    have hb : (⟨l.toArray⟩ : ByteArray)[k]? = some c := by rw [ba_get]; exact hcc
    by_cases hbl : blankB c.toNat = true
    · rw [cut_skip hcc hbl] at hq
      unfold blankB at hbl
      cases b32 : ((c.toNat : Int) == 32)
      · cases b9 : ((c.toNat : Int) == 9)
        · cases b13 : ((c.toNat : Int) == 13)
          · have b10 : ((c.toNat : Int) == 10) = true := by simpa [b32, b9, b13] using hbl
            (repeat' (first | refine awp_seq ?_ | refine awp_block ?_ | refine awp_skip ?_ | refine awp_exit ?_ | ((first | refine rR (fun K kp hK hkp => ?_) | refine iG ?_); simp (implicitDefEqProofs := false) (maxSteps := 2000000) (disch := omega) only [go_sem, zs, d2, hb, b32, b9, b13, b10]; (repeat' (first | (refine hK _ ?_; clear hK hkp kp K) | (with_reducible refine And.intro ?_ ?_) | omega))) | ((first | refine aG (fun h => ?_) (fun h => ?_) | refine aD (fun h => ?_) (fun h => ?_) | refine aX (fun h => ?_) (fun h => ?_)) <;> simp only [h]) | refine awp_cond_t rfl ?_ | refine awp_cond_f rfl ?_ | ((refine awp_cond rfl (fun h => ?_) (fun h => ?_) <;> try simp only [ifs] at h) <;> (try (exfalso; omega))) | refine awp_ret ?_))
            ((first | (refine nextB ((k + 1, acc)) ?_ ?_ ?_) | (refine nextA ((k + 1, acc)) ?_ ?_ ?_) | (refine nextE ((k + 1, acc)) ?_ ?_ ?_)); rotate_left; (· (try dsimp only); (first | omega | (simp only [List.length_drop, List.length_cons, List.length_append]; omega) | (simp; done) | (simp; omega))); (· (refine emb [0] ?_ ?_ rfl ?_ ?_ ?_ ?_ <;> simp [okM, okO, lk, ren, renL, renNd, by_, hE] <;> (try omega) <;> (try (intro i hi; first | (rcases (by omega : i = 0 ∨ i = 1 ∨ i = 2) with rfl | rfl | rfl <;> rfl) | (rcases (by omega : i = 0 ∨ i = 1) with rfl | rfl <;> rfl))))))
            exact ⟨hkl, hn, f + 1, by simp only; omega, hq⟩
          ·
            (repeat' (first | refine awp_seq ?_ | refine awp_block ?_ | refine awp_skip ?_ | refine awp_exit ?_ | ((first | refine rR (fun K kp hK hkp => ?_) | refine iG ?_); simp (implicitDefEqProofs := false) (maxSteps := 2000000) (disch := omega) only [go_sem, zs, d2, hb, b32, b9, b13]; (repeat' (first | (refine hK _ ?_; clear hK hkp kp K) | (with_reducible refine And.intro ?_ ?_) | omega))) | ((first | refine aG (fun h => ?_) (fun h => ?_) | refine aD (fun h => ?_) (fun h => ?_) | refine aX (fun h => ?_) (fun h => ?_)) <;> simp only [h]) | refine awp_cond_t rfl ?_ | refine awp_cond_f rfl ?_ | ((refine awp_cond rfl (fun h => ?_) (fun h => ?_) <;> try simp only [ifs] at h) <;> (try (exfalso; omega))) | refine awp_ret ?_))
            ((first | (refine nextB ((k + 1, acc)) ?_ ?_ ?_) | (refine nextA ((k + 1, acc)) ?_ ?_ ?_) | (refine nextE ((k + 1, acc)) ?_ ?_ ?_)); rotate_left; (· (try dsimp only); (first | omega | (simp only [List.length_drop, List.length_cons, List.length_append]; omega) | (simp; done) | (simp; omega))); (· (refine emb [0] ?_ ?_ rfl ?_ ?_ ?_ ?_ <;> simp [okM, okO, lk, ren, renL, renNd, by_, hE] <;> (try omega) <;> (try (intro i hi; first | (rcases (by omega : i = 0 ∨ i = 1 ∨ i = 2) with rfl | rfl | rfl <;> rfl) | (rcases (by omega : i = 0 ∨ i = 1) with rfl | rfl <;> rfl))))))
            exact ⟨hkl, hn, f + 1, by simp only; omega, hq⟩
        ·
          (repeat' (first | refine awp_seq ?_ | refine awp_block ?_ | refine awp_skip ?_ | refine awp_exit ?_ | ((first | refine rR (fun K kp hK hkp => ?_) | refine iG ?_); simp (implicitDefEqProofs := false) (maxSteps := 2000000) (disch := omega) only [go_sem, zs, d2, hb, b32, b9]; (repeat' (first | (refine hK _ ?_; clear hK hkp kp K) | (with_reducible refine And.intro ?_ ?_) | omega))) | ((first | refine aG (fun h => ?_) (fun h => ?_) | refine aD (fun h => ?_) (fun h => ?_) | refine aX (fun h => ?_) (fun h => ?_)) <;> simp only [h]) | refine awp_cond_t rfl ?_ | refine awp_cond_f rfl ?_ | ((refine awp_cond rfl (fun h => ?_) (fun h => ?_) <;> try simp only [ifs] at h) <;> (try (exfalso; omega))) | refine awp_ret ?_))
          ((first | (refine nextB ((k + 1, acc)) ?_ ?_ ?_) | (refine nextA ((k + 1, acc)) ?_ ?_ ?_) | (refine nextE ((k + 1, acc)) ?_ ?_ ?_)); rotate_left; (· (try dsimp only); (first | omega | (simp only [List.length_drop, List.length_cons, List.length_append]; omega) | (simp; done) | (simp; omega))); (· (refine emb [0] ?_ ?_ rfl ?_ ?_ ?_ ?_ <;> simp [okM, okO, lk, ren, renL, renNd, by_, hE] <;> (try omega) <;> (try (intro i hi; first | (rcases (by omega : i = 0 ∨ i = 1 ∨ i = 2) with rfl | rfl | rfl <;> rfl) | (rcases (by omega : i = 0 ∨ i = 1) with rfl | rfl <;> rfl))))))
          exact ⟨hkl, hn, f + 1, by simp only; omega, hq⟩
      ·
        (repeat' (first | refine awp_seq ?_ | refine awp_block ?_ | refine awp_skip ?_ | refine awp_exit ?_ | ((first | refine rR (fun K kp hK hkp => ?_) | refine iG ?_); simp (implicitDefEqProofs := false) (maxSteps := 2000000) (disch := omega) only [go_sem, zs, d2, hb, b32]; (repeat' (first | (refine hK _ ?_; clear hK hkp kp K) | (with_reducible refine And.intro ?_ ?_) | omega))) | ((first | refine aG (fun h => ?_) (fun h => ?_) | refine aD (fun h => ?_) (fun h => ?_) | refine aX (fun h => ?_) (fun h => ?_)) <;> simp only [h]) | refine awp_cond_t rfl ?_ | refine awp_cond_f rfl ?_ | ((refine awp_cond rfl (fun h => ?_) (fun h => ?_) <;> try simp only [ifs] at h) <;> (try (exfalso; omega))) | refine awp_ret ?_))
        ((first | (refine nextB ((k + 1, acc)) ?_ ?_ ?_) | (refine nextA ((k + 1, acc)) ?_ ?_ ?_) | (refine nextE ((k + 1, acc)) ?_ ?_ ?_)); rotate_left; (· (try dsimp only); (first | omega | (simp only [List.length_drop, List.length_cons, List.length_append]; omega) | (simp; done) | (simp; omega))); (· (refine emb [0] ?_ ?_ rfl ?_ ?_ ?_ ?_ <;> simp [okM, okO, lk, ren, renL, renNd, by_, hE] <;> (try omega) <;> (try (intro i hi; first | (rcases (by omega : i = 0 ∨ i = 1 ∨ i = 2) with rfl | rfl | rfl <;> rfl) | (rcases (by omega : i = 0 ∨ i = 1) with rfl | rfl <;> rfl))))))
        exact ⟨hkl, hn, f + 1, by simp only; omega, hq⟩
    · have hbl : blankB c.toNat = false := by simpa using hbl
      have hs := spanP_no hcc hbl
      rw [cutF, hs, List.drop_zero, Nat.add_zero, if_neg (by rw [drop_cons hcc]; simp)] at hq
      unfold blankB at hbl
      simp only [Bool.or_eq_false_iff] at hbl
      obtain ⟨⟨⟨b32, b9⟩, b13⟩, b10⟩ := hbl
      by_cases hfull : acc.length = 100
      · have b2 : ((acc.length : Int) == 100) = true := by rw [beq_iff_eq]; omega
        rw [if_pos hfull] at hq
        subst hq
        (repeat' (first | refine awp_seq ?_ | refine awp_block ?_ | refine awp_skip ?_ | refine awp_exit ?_ | ((first | refine rR (fun K kp hK hkp => ?_) | refine iG ?_); simp (implicitDefEqProofs := false) (maxSteps := 2000000) (disch := omega) only [go_sem, zs, d2, hb, b32, b9, b13, b10, b2]; (repeat' (first | (refine hK _ ?_; clear hK hkp kp K) | (with_reducible refine And.intro ?_ ?_) | omega))) | ((first | refine aG (fun h => ?_) (fun h => ?_) | refine aD (fun h => ?_) (fun h => ?_) | refine aX (fun h => ?_) (fun h => ?_)) <;> simp only [h]) | refine awp_cond_t rfl ?_ | refine awp_cond_f rfl ?_ | ((refine awp_cond rfl (fun h => ?_) (fun h => ?_) <;> try simp only [ifs] at h) <;> (try (exfalso; omega))) | refine awp_ret ?_))
        (refine retA_is (by (simp (implicitDefEqProofs := false) (maxSteps := 2000000) (disch := omega) only [go_sem, Go.Proofs.Tryd.results18, cutA]); rfl) ?_; refine eN hE ?_; simp [oneA, ren, renL, cutA])
      · have b2 : ((acc.length : Int) == 100) = false := by rw [beq_eq_false_iff_ne]; omega
        rw [if_neg hfull] at hq
        have oc := tokAt_con E.G l hl k hkl
        cases ho : oneM (l.drop k) with
        | error e =>
          have he := one_err ho
          have b3 : (e != 0) = true := by simpa using he
          rw [ho] at oc hq
          simp only [refR, eT] at oc
          simp only at hq
          subst hq
          (repeat' (first | refine awp_seq ?_ | refine awp_block ?_ | refine awp_skip ?_ | refine awp_exit ?_ | ((first | refine rR (fun K kp hK hkp => ?_) | refine cR oc ?_ | refine iG ?_); simp (implicitDefEqProofs := false) (maxSteps := 2000000) (disch := omega) only [go_sem, zs, d2, hb, b32, b9, b13, b10, b2, b3]; (repeat' (first | (refine hK _ ?_; clear hK hkp kp K) | (with_reducible refine And.intro ?_ ?_) | omega))) | ((first | refine aG (fun h => ?_) (fun h => ?_) | refine aD (fun h => ?_) (fun h => ?_) | refine aX (fun h => ?_) (fun h => ?_)) <;> simp only [h]) | refine awp_cond_t rfl ?_ | refine awp_cond_f rfl ?_ | ((refine awp_cond rfl (fun h => ?_) (fun h => ?_) <;> try simp only [ifs] at h) <;> (try (exfalso; omega))) | refine awp_ret ?_))
          (refine retA_is (by (simp (implicitDefEqProofs := false) (maxSteps := 2000000) (disch := omega) only [go_sem, Go.Proofs.Tryd.results18, cutA, he]); rfl) ?_; refine eN hE ?_; simp [oneA, ren, renL, cutA, he])
        | ok x =>
          obtain ⟨hp1, hp2⟩ := one_ok ho
          rw [List.length_drop] at hp2
          rw [ho] at oc hq
          simp only [refR, eT] at oc
          simp only at hq
          obtain ⟨a3, ha3⟩ : ∃ a3, k + x.2 = a3 := ⟨_, rfl⟩
          rw [ha3] at oc
          rw [List.drop_drop, ha3] at hq
          (repeat' (first | refine awp_seq ?_ | refine awp_block ?_ | refine awp_skip ?_ | refine awp_exit ?_ | ((first | refine rR (fun K kp hK hkp => ?_) | refine cR oc ?_ | refine iG ?_); simp (implicitDefEqProofs := false) (maxSteps := 2000000) (disch := omega) only [go_sem, zs, d2, hb, b32, b9, b13, b10, b2]; (repeat' (first | (refine hK _ ?_; clear hK hkp kp K) | (with_reducible refine And.intro ?_ ?_) | omega))) | ((first | refine aG (fun h => ?_) (fun h => ?_) | refine aD (fun h => ?_) (fun h => ?_) | refine aX (fun h => ?_) (fun h => ?_)) <;> simp only [h]) | refine awp_cond_t rfl ?_ | refine awp_cond_f rfl ?_ | ((refine awp_cond rfl (fun h => ?_) (fun h => ?_) <;> try simp only [ifs] at h) <;> (try (exfalso; omega))) | refine awp_ret ?_))
          ((first | (refine nextB ((a3, acc ++ [x.1])) ?_ ?_ ?_) | (refine nextA ((a3, acc ++ [x.1])) ?_ ?_ ?_) | (refine nextE ((a3, acc ++ [x.1])) ?_ ?_ ?_)); rotate_left; (· (try dsimp only); (first | omega | (simp only [List.length_drop, List.length_cons, List.length_append]; omega) | (simp; done) | (simp; omega))); (· (refine emb [3] ?_ ?_ rfl ?_ ?_ ?_ ?_ <;> simp [okM, okO, lk, ren, renL, renNd, by_, hE, eT] <;> (try omega) <;> (try (intro i hi; first | (rcases (by omega : i = 0 ∨ i = 1 ∨ i = 2) with rfl | rfl | rfl <;> rfl) | (rcases (by omega : i = 0 ∨ i = 1) with rfl | rfl <;> rfl))))))
          exact ⟨by simp only; omega, by simp; omega, f, by simp only; omega, hq⟩
  · obtain rfl : k = l.length := by omega
    have d2 : decide ((l.length : Int) < (l.length : Int)) = false := decide_eq_false (by omega)
    rw [List.drop_length, cutF, spanP, List.drop_zero, if_pos rfl] at hq
    subst hq
    (repeat' (first | refine awp_seq ?_ | refine awp_block ?_ | refine awp_skip ?_ | refine awp_exit ?_ | ((first | refine rR (fun K kp hK hkp => ?_) | refine iG ?_); simp (implicitDefEqProofs := false) (maxSteps := 2000000) (disch := omega) only [go_sem, zs, d2]; (repeat' (first | (refine hK _ ?_; clear hK hkp kp K) | (with_reducible refine And.intro ?_ ?_) | omega))) | ((first | refine aG (fun h => ?_) (fun h => ?_) | refine aD (fun h => ?_) (fun h => ?_) | refine aX (fun h => ?_) (fun h => ?_)) <;> simp only [h]) | refine awp_cond_t rfl ?_ | refine awp_cond_f rfl ?_ | ((refine awp_cond rfl (fun h => ?_) (fun h => ?_) <;> try simp only [ifs] at h) <;> (try (exfalso; omega))) | refine awp_ret ?_))
    (refine retA_is (by (simp (implicitDefEqProofs := false) (maxSteps := 2000000) (disch := omega) only [go_sem, Go.Proofs.Tryd.results18, cutA]); rfl) ?_; refine embS_frz (by simp only [oneA]; simp (implicitDefEqProofs := false) (maxSteps := 2000000) (disch := omega) only [go_sem, cutA]; rfl) ?_; refine (embV_nil hE (by simp) ?_).s; simp [oneA, ren, renL, cutA])
end Go.AM
/- Lists that are copied. -/
namespace Go.AM
open Go Go.RowKit
open Go.Proofs.YteebiklebedneaaDoor (OP nameM litM exprM marksS wordsS StrsAt str SlAt)
attribute [local irreducible] AWP retA
theorem values_copy (G : List (Nat × List Value)) (t : Bool) (l : List V) (hl : l.length ≤ 1048576) : Con Go.Proofs.Tryd.prog G 9 [.ro t 3 (l.map eV)] [] 0 (Is (.ro true 3 (l.map eV)) [] 0) No := by
  refine con_of_awp Go.Proofs.Tryd.func9 rfl (by kernel_rfl) (of_decide_eq_true (by kernel_rfl)) ?_; intro E hG hE; subst hG; simp only [ent]
  (repeat' (first | refine awp_seq ?_ | refine awp_block ?_ | refine awp_skip ?_ | refine awp_exit ?_ | ((first | refine rR (fun K kp hK hkp => ?_) | refine iG ?_); simp (implicitDefEqProofs := false) (maxSteps := 2000000) (disch := omega) only [go_sem]; (repeat' (first | (refine hK _ ?_; clear hK hkp kp K) | (with_reducible refine And.intro ?_ ?_) | omega))) | ((first | refine aG (fun h => ?_) (fun h => ?_) | refine aD (fun h => ?_) (fun h => ?_) | refine aX (fun h => ?_) (fun h => ?_)) <;> simp only [h]) | refine awp_cond_t rfl ?_ | refine awp_cond_f rfl ?_ | ((refine awp_cond rfl (fun h => ?_) (fun h => ?_) <;> try simp only [ifs] at h) <;> (try (exfalso; omega))) | refine awp_ret ?_))
  (refine retA_is (by (simp (implicitDefEqProofs := false) (maxSteps := 2000000) (disch := omega) only [go_sem, Go.Proofs.Tryd.results9]); rfl) ?_; refine embS_frz (by simp only [oneA]; simp (implicitDefEqProofs := false) (maxSteps := 2000000) (disch := omega) only [go_sem]; rfl) ?_; refine (embV_nil hE (by simp) ?_).s; simp [oneA, ren, renL])
@[simp] theorem ptA_eO (a : OP) : (∀ x, x ∈ eO a → PT x) = True := eq_true (by intro x hx; simp [eO] at hx; rcases hx with rfl | rfl | rfl | rfl | rfl <;> exact .r _)
instance : PTf eO := ⟨fun a => of_eq_true (ptA_eO a)⟩
end Go.AM
namespace Go.Proofs.YteebiklebedneaaDoor
open Go.RowKit Go.AM
end Go.Proofs.YteebiklebedneaaDoor
/- Statements: what the program checks of them. -/
namespace Go.AM
open Go Go.RowKit
open Go.Proofs.YteebiklebedneaaDoor (OP nameM litM exprM marksS wordsS StrsAt str SlAt)
attribute [local irreducible] AWP retA
def emp (s : ByteArray) : Bool := s.toList == ByteArray.toList ⟨#[]⟩
def hasN (s : ST) : Bool := decide ((s.names.length : Int) > 0)
def pickM (s : ST) : Int :=
  if 6 < s.names.length then 1 else if s.lim < -1 then 3 else if (s.count && hasN s) || (s.down && emp s.ord) then 6
  else if namesM s.names ≠ 0 then namesM s.names else if whereM s.wh ≠ 0 then whereM s.wh else if emp s.ord then 0 else nameM s.ord
/-- What is asked of a statement's texts and lists: what all that come in have. -/
structure okST (s : ST) : Prop where
  tab : okS s.tab
  cols : ∀ c ∈ s.cols, okS c.nm
  row : ∀ v ∈ s.row, okS v.s
  names : ∀ n ∈ s.names, okS n
  wh : ∀ o ∈ s.wh, okO1 o
  ord : okS s.ord
  set : okS s.set
  to : ∀ o ∈ s.to, okO1 o
  lc : s.cols.length ≤ 1048576
  lr : s.row.length ≤ 1048576
  ln : s.names.length ≤ 1048576
  lw : s.wh.length ≤ 1048576
  lt : s.to.length ≤ 1048576

end Go.AM
/- Statements: what is the same is found the same; copies. -/
namespace Go.AM
open Go Go.RowKit
open Go.Proofs.YteebiklebedneaaDoor (OP nameM litM exprM marksS wordsS StrsAt str SlAt letB wrdB digB bt vcheck popsM)
attribute [local irreducible] AWP retA
set_option maxRecDepth 100000 in
set_option maxHeartbeats 4000000 in
theorem sameT_con (G : List (Nat × List Value)) (t t' : Bool) (l : List TK0) (hl : l.length ≤ 1048576) : Con Go.Proofs.Tryd.prog G 16 [.ro t 3 (l.map eT), .ro t' 3 (l.map eT)] [] 0 (Is (.r (.bool true)) [] 0) No := by
  refine con_of_awp Go.Proofs.Tryd.func16 rfl (by kernel_rfl) (of_decide_eq_true (by kernel_rfl)) ?_; intro E hG hE; subst hG; simp only [ent]
  (repeat' (first | refine awp_seq ?_ | refine awp_block ?_ | refine awp_skip ?_ | refine awp_exit ?_ | ((first | refine rR (fun K kp hK hkp => ?_) | refine rD (id := 6) mixed 9 [0,1,2,3,4,5,6,7,8] (fun K kp hK hkp => ?_) | refine iG ?_ | refine iD ?_); simp (implicitDefEqProofs := false) (maxSteps := 2000000) (disch := omega) only [go_sem, bne_self_eq_false]; (repeat' (first | (refine hK _ ?_; clear hK hkp kp K) | (with_reducible refine And.intro ?_ ?_) | omega))) | ((first | refine aG (fun h => ?_) (fun h => ?_) | refine aD (fun h => ?_) (fun h => ?_) | refine aX (fun h => ?_) (fun h => ?_)) <;> simp only [h]) | refine awp_cond_t rfl ?_ | refine awp_cond_f rfl ?_ | ((refine awp_cond rfl (fun h => ?_) (fun h => ?_) <;> try simp only [ifs] at h) <;> (try (exfalso; omega))) | refine awp_ret ?_))
  refine awp_loop (fun k : Nat => ⟨[(5, .r (.int .i64 k)), (0, .ro t 3 (l.map eT)), (1, .ro t' 3 (l.map eT))], [], 0⟩) (fun k => k ≤ l.length) (fun k => l.length - k) 0 ?_ ?_ ?_
  · simp
  · (refine emb [] ?_ ?_ rfl ?_ ?_ ?_ ?_ <;> simp [okM, okO, lk, ren, renL, renNd, by_, hE] <;> (try omega) <;> (try (intro i hi; first | (rcases (by omega : i = 0 ∨ i = 1 ∨ i = 2) with rfl | rfl | rfl <;> rfl) | (rcases (by omega : i = 0 ∨ i = 1) with rfl | rfl <;> rfl))))
  intro k hk
  by_cases hlt : k < l.length
  · obtain ⟨x, hx⟩ : ∃ x, l[k]? = some x := ⟨l[k], by simp [hlt]⟩
    have d1 : decide ((k : Int) < (l.length : Int)) = true := decide_eq_true (by omega)
    (repeat' (first | refine awp_seq ?_ | refine awp_block ?_ | refine awp_skip ?_ | refine awp_exit ?_ | ((first | refine rR (fun K kp hK hkp => ?_) | refine rD (id := 6) mixed 9 [0,1,2,3,4,5,6,7,8] (fun K kp hK hkp => ?_) | refine iG ?_ | refine iD ?_); simp (implicitDefEqProofs := false) (maxSteps := 2000000) (disch := omega) only [go_sem, hx, eT, d1, beq_self_eq_true, Bool.and_self, Bool.and_true, Bool.not_true]; (repeat' (first | (refine hK _ ?_; clear hK hkp kp K) | (with_reducible refine And.intro ?_ ?_) | omega))) | ((first | refine aG (fun h => ?_) (fun h => ?_) | refine aD (fun h => ?_) (fun h => ?_) | refine aX (fun h => ?_) (fun h => ?_)) <;> simp only [h]) | refine awp_cond_t rfl ?_ | refine awp_cond_f rfl ?_ | ((refine awp_cond rfl (fun h => ?_) (fun h => ?_) <;> try simp only [ifs] at h) <;> (try (exfalso; omega))) | refine awp_ret ?_))
    ((first | (refine nextB (k + 1) ?_ ?_ ?_) | (refine nextA (k + 1) ?_ ?_ ?_) | (refine nextE (k + 1) ?_ ?_ ?_)); rotate_left; (· (try dsimp only); (first | omega | (simp only [List.length_drop, List.length_cons, List.length_append]; omega) | (simp; done) | (simp; omega))); (· (refine emb [] ?_ ?_ rfl ?_ ?_ ?_ ?_ <;> simp [okM, okO, lk, ren, renL, renNd, by_, hE] <;> (try omega) <;> (try (intro i hi; first | (rcases (by omega : i = 0 ∨ i = 1 ∨ i = 2) with rfl | rfl | rfl <;> rfl) | (rcases (by omega : i = 0 ∨ i = 1) with rfl | rfl <;> rfl))))))
    omega
  · have d1 : decide ((k : Int) < (l.length : Int)) = false := decide_eq_false (by omega)
    (repeat' (first | refine awp_seq ?_ | refine awp_block ?_ | refine awp_skip ?_ | refine awp_exit ?_ | ((first | refine rR (fun K kp hK hkp => ?_) | refine rD (id := 6) mixed 9 [0,1,2,3,4,5,6,7,8] (fun K kp hK hkp => ?_) | refine iG ?_ | refine iD ?_); simp (implicitDefEqProofs := false) (maxSteps := 2000000) (disch := omega) only [go_sem, d1]; (repeat' (first | (refine hK _ ?_; clear hK hkp kp K) | (with_reducible refine And.intro ?_ ?_) | omega))) | ((first | refine aG (fun h => ?_) (fun h => ?_) | refine aD (fun h => ?_) (fun h => ?_) | refine aX (fun h => ?_) (fun h => ?_)) <;> simp only [h]) | refine awp_cond_t rfl ?_ | refine awp_cond_f rfl ?_ | ((refine awp_cond rfl (fun h => ?_) (fun h => ?_) <;> try simp only [ifs] at h) <;> (try (exfalso; omega))) | refine awp_ret ?_))
    (refine retA_is (by (simp (implicitDefEqProofs := false) (maxSteps := 2000000) (disch := omega) only [go_sem, Go.Proofs.Tryd.results16]); rfl) ?_; refine eN hE ?_; simp [oneA, ren, renL])
set_option maxRecDepth 100000 in
set_option maxHeartbeats 4000000 in
theorem sameVv_con (G : List (Nat × List Value)) (t t' : Bool) (l : List V) (hl : l.length ≤ 1048576) : Con Go.Proofs.Tryd.prog G 12 [.ro t 3 (l.map eV), .ro t' 3 (l.map eV)] [] 0 (Is (.r (.bool true)) [] 0) No := by
  refine con_of_awp Go.Proofs.Tryd.func12 rfl (by kernel_rfl) (of_decide_eq_true (by kernel_rfl)) ?_; intro E hG hE; subst hG; simp only [ent]
  (repeat' (first | refine awp_seq ?_ | refine awp_block ?_ | refine awp_skip ?_ | refine awp_exit ?_ | ((first | refine rR (fun K kp hK hkp => ?_) | refine rD (id := 6) mixed 9 [0,1,2,3,4,5,6,7,8] (fun K kp hK hkp => ?_) | refine iG ?_ | refine iD ?_); simp (implicitDefEqProofs := false) (maxSteps := 2000000) (disch := omega) only [go_sem, bne_self_eq_false]; (repeat' (first | (refine hK _ ?_; clear hK hkp kp K) | (with_reducible refine And.intro ?_ ?_) | omega))) | ((first | refine aG (fun h => ?_) (fun h => ?_) | refine aD (fun h => ?_) (fun h => ?_) | refine aX (fun h => ?_) (fun h => ?_)) <;> simp only [h]) | refine awp_cond_t rfl ?_ | refine awp_cond_f rfl ?_ | ((refine awp_cond rfl (fun h => ?_) (fun h => ?_) <;> try simp only [ifs] at h) <;> (try (exfalso; omega))) | refine awp_ret ?_))
  refine awp_loop (fun k : Nat => ⟨[(5, .r (.int .i64 k)), (0, .ro t 3 (l.map eV)), (1, .ro t' 3 (l.map eV))], [], 0⟩) (fun k => k ≤ l.length) (fun k => l.length - k) 0 ?_ ?_ ?_
  · simp
  · (refine emb [] ?_ ?_ rfl ?_ ?_ ?_ ?_ <;> simp [okM, okO, lk, ren, renL, renNd, by_, hE] <;> (try omega) <;> (try (intro i hi; first | (rcases (by omega : i = 0 ∨ i = 1 ∨ i = 2) with rfl | rfl | rfl <;> rfl) | (rcases (by omega : i = 0 ∨ i = 1) with rfl | rfl <;> rfl))))
  intro k hk
  by_cases hlt : k < l.length
  · obtain ⟨x, hx⟩ : ∃ x, l[k]? = some x := ⟨l[k], by simp [hlt]⟩
    have d1 : decide ((k : Int) < (l.length : Int)) = true := decide_eq_true (by omega)
    (repeat' (first | refine awp_seq ?_ | refine awp_block ?_ | refine awp_skip ?_ | refine awp_exit ?_ | ((first | refine rR (fun K kp hK hkp => ?_) | refine rD (id := 6) mixed 9 [0,1,2,3,4,5,6,7,8] (fun K kp hK hkp => ?_) | refine iG ?_ | refine iD ?_); simp (implicitDefEqProofs := false) (maxSteps := 2000000) (disch := omega) only [go_sem, hx, eV, d1, beq_self_eq_true, Bool.and_self, Bool.and_true, Bool.not_true]; (repeat' (first | (refine hK _ ?_; clear hK hkp kp K) | (with_reducible refine And.intro ?_ ?_) | omega))) | ((first | refine aG (fun h => ?_) (fun h => ?_) | refine aD (fun h => ?_) (fun h => ?_) | refine aX (fun h => ?_) (fun h => ?_)) <;> simp only [h]) | refine awp_cond_t rfl ?_ | refine awp_cond_f rfl ?_ | ((refine awp_cond rfl (fun h => ?_) (fun h => ?_) <;> try simp only [ifs] at h) <;> (try (exfalso; omega))) | refine awp_ret ?_))
    ((first | (refine nextB (k + 1) ?_ ?_ ?_) | (refine nextA (k + 1) ?_ ?_ ?_) | (refine nextE (k + 1) ?_ ?_ ?_)); rotate_left; (· (try dsimp only); (first | omega | (simp only [List.length_drop, List.length_cons, List.length_append]; omega) | (simp; done) | (simp; omega))); (· (refine emb [] ?_ ?_ rfl ?_ ?_ ?_ ?_ <;> simp [okM, okO, lk, ren, renL, renNd, by_, hE] <;> (try omega) <;> (try (intro i hi; first | (rcases (by omega : i = 0 ∨ i = 1 ∨ i = 2) with rfl | rfl | rfl <;> rfl) | (rcases (by omega : i = 0 ∨ i = 1) with rfl | rfl <;> rfl))))))
    omega
  · have d1 : decide ((k : Int) < (l.length : Int)) = false := decide_eq_false (by omega)
    (repeat' (first | refine awp_seq ?_ | refine awp_block ?_ | refine awp_skip ?_ | refine awp_exit ?_ | ((first | refine rR (fun K kp hK hkp => ?_) | refine rD (id := 6) mixed 9 [0,1,2,3,4,5,6,7,8] (fun K kp hK hkp => ?_) | refine iG ?_ | refine iD ?_); simp (implicitDefEqProofs := false) (maxSteps := 2000000) (disch := omega) only [go_sem, d1]; (repeat' (first | (refine hK _ ?_; clear hK hkp kp K) | (with_reducible refine And.intro ?_ ?_) | omega))) | ((first | refine aG (fun h => ?_) (fun h => ?_) | refine aD (fun h => ?_) (fun h => ?_) | refine aX (fun h => ?_) (fun h => ?_)) <;> simp only [h]) | refine awp_cond_t rfl ?_ | refine awp_cond_f rfl ?_ | ((refine awp_cond rfl (fun h => ?_) (fun h => ?_) <;> try simp only [ifs] at h) <;> (try (exfalso; omega))) | refine awp_ret ?_))
    (refine retA_is (by (simp (implicitDefEqProofs := false) (maxSteps := 2000000) (disch := omega) only [go_sem, Go.Proofs.Tryd.results12]); rfl) ?_; refine eN hE ?_; simp [oneA, ren, renL])
end Go.AM
/- The law LexCuts. -/
namespace Go.AM
open Go Go.RowKit
attribute [local irreducible] AWP retA
theorem cutF_len : ∀ (f : Nat) (r : List UInt8) (a : Nat) (acc : List TK0), acc.length ≤ 100 → (cutF f r a acc).1.length ≤ 100
  | 0, r, a, acc, h => by simp [cutF]
  | f + 1, r, a, acc, h => by
    rw [cutF]
    split
    · exact h
    · split
      · simp
      · rename_i hne
        split
        · simp
        · exact cutF_len f _ _ _ (by simp; omega)
set_option maxRecDepth 100000 in
set_option maxHeartbeats 8000000 in
theorem lawCuts_con {G : List (Nat × List Value)} (T : LexT G) (l : List UInt8) (hl : l.length ≤ 1048576) : Con Go.Proofs.Tryd.prog G 5 [.r (.string ⟨l.toArray⟩)] [] 0 (Is (.r (.bool true)) [] 0) No := by
  have pc := Cut_con T l hl
  have rc := TokensOf_con G l hl
  have hlen : (cutM l).1.length ≤ 100 := by
    unfold cutM
    split
    · simp
    · exact cutF_len _ _ _ _ (by simp)
  obtain ⟨R, hR⟩ : ∃ R, cutM l = R := ⟨_, rfl⟩
  rw [hR] at pc rc hlen
  by_cases he : R.2.2 = 0
  · have sc := sameT_con G true true R.1 (by omega)
    simp only [cutA, he, if_true] at pc rc
    refine con_of_awp Go.Proofs.Tryd.func5 rfl (by kernel_rfl) (of_decide_eq_true (by kernel_rfl)) ?_; intro E hG hE; subst hG; simp only [ent]
    (repeat' (first | refine awp_seq ?_ | refine awp_block ?_ | refine awp_skip ?_ | refine awp_exit ?_ | ((first | refine rR (fun K kp hK hkp => ?_) | refine cR pc ?_ | refine cR rc ?_ | refine cR sc ?_ | refine iG ?_); simp (implicitDefEqProofs := false) (maxSteps := 2000000) (disch := omega) only [go_sem, beq_self_eq_true]; (repeat' (first | (refine hK _ ?_; clear hK hkp kp K) | (with_reducible refine And.intro ?_ ?_) | omega))) | ((first | refine aG (fun h => ?_) (fun h => ?_) | refine aD (fun h => ?_) (fun h => ?_) | refine aX (fun h => ?_) (fun h => ?_)) <;> simp only [h]) | refine awp_cond_t rfl ?_ | refine awp_cond_f rfl ?_ | ((refine awp_cond rfl (fun h => ?_) (fun h => ?_) <;> try simp only [ifs] at h) <;> (try (exfalso; omega))) | refine awp_ret ?_))
    (refine retA_is (by (simp (implicitDefEqProofs := false) (maxSteps := 2000000) (disch := omega) only [go_sem, Go.Proofs.Tryd.results5]); rfl) ?_; refine eN hE ?_; simp [oneA, ren, renL])
  · have sc := (sameT_con G true true [] (by simp)).weak (xs := [.r (.slice none 0 0), .r (.slice none 0 0)]) (by simp [wkL, wk])
    simp only [cutA, he, if_false] at pc rc
    refine con_of_awp Go.Proofs.Tryd.func5 rfl (by kernel_rfl) (of_decide_eq_true (by kernel_rfl)) ?_; intro E hG hE; subst hG; simp only [ent]
    (repeat' (first | refine awp_seq ?_ | refine awp_block ?_ | refine awp_skip ?_ | refine awp_exit ?_ | ((first | refine rR (fun K kp hK hkp => ?_) | refine cR pc ?_ | refine cR rc ?_ | refine cR sc ?_ | refine iG ?_); simp (implicitDefEqProofs := false) (maxSteps := 2000000) (disch := omega) only [go_sem, beq_self_eq_true]; (repeat' (first | (refine hK _ ?_; clear hK hkp kp K) | (with_reducible refine And.intro ?_ ?_) | omega))) | ((first | refine aG (fun h => ?_) (fun h => ?_) | refine aD (fun h => ?_) (fun h => ?_) | refine aX (fun h => ?_) (fun h => ?_)) <;> simp only [h]) | refine awp_cond_t rfl ?_ | refine awp_cond_f rfl ?_ | ((refine awp_cond rfl (fun h => ?_) (fun h => ?_) <;> try simp only [ifs] at h) <;> (try (exfalso; omega))) | refine awp_ret ?_))
    (refine retA_is (by (simp (implicitDefEqProofs := false) (maxSteps := 2000000) (disch := omega) only [go_sem, Go.Proofs.Tryd.results5]); rfl) ?_; refine eN hE ?_; simp [oneA, ren, renL])
end Go.AM
/- How arguments that came in read: lemmas out of the kit's readings, in the walks' own terms. -/
namespace Go.Proofs.YteebiklebedneaaDoor
open Go.ChangeShapes Go.WideShapes Go.ChangeAt Go.RowKit
theorem own : ownKnob Tryd.prog.godebug = none := by kernel_rfl
theorem laidOut : laidOutB Tryd.prog = true := by kernel_rfl
theorem cellsValue : Tryd.prog.cellsOf 57 = 3 := by kernel_rfl
set_option maxRecDepth 100000 in
/-- A struct api.Value that came in: its three fields. -/
theorem open_value {H : Type} {enc : TypeId × Value → H} {w : World} {base : Nat} {spare : Nat → Bool} {held : Bool} {b0 : Nat} {v : Value} {d : DataW H} {p : List MemPlace}
    (hv : Value.okWide Tryd.prog w .any b0 57 v) (h : DataW.Trod enc Tryd.prog w base spare held 57 v d p) :
    ∃ (k n : Int) (s : ByteArray), v = .agg #[.int .i64 k, .int .i64 n, .string s] ∧ (Lit.int .i64 k).wf = true ∧ (Lit.int .i64 n).wf = true ∧ s.size ≤ maxLen := by
  obtain ⟨c0, c1, c2, y0, y1, y2, m, rfl, _, _, h0, h1, h2⟩ := Joins.open_agg3 Tryd.underlying57 (by kernel_rfl) cellsValue hv h
  obtain ⟨k, e0, _, w0⟩ := DataW.trod_int Tryd.underlying3 h0
  obtain ⟨n, e1, _, w1⟩ := DataW.trod_int Tryd.underlying3 h1
  obtain ⟨s, e2, _, w2⟩ := DataW.trod_string Tryd.underlying9 h2
  simp at e0 e1 e2
  subst e0 e1 e2
  exact ⟨k, n, s, rfl, w0, w1, w2⟩
set_option maxRecDepth 100000 in
theorem open_i64 {H : Type} {enc : TypeId × Value → H} {w : World} {base : Nat} {spare : Nat → Bool} {held : Bool} {b0 : Nat} {v : Value} {d : DataW H} {p : List MemPlace}
    (hv : Value.okWide Tryd.prog w .any b0 3 v) (h : DataW.Trod enc Tryd.prog w base spare held 3 v d p) : ∃ n : Int, v = .int .i64 n ∧ (Lit.int .i64 n).wf = true := by
  obtain ⟨n, rfl, _, _, w0⟩ := open_int Tryd.underlying3 hv h
  exact ⟨n, rfl, w0⟩
theorem i64_bd {n : Int} (h : (Lit.int .i64 n).wf = true) : -9223372036854775808 ≤ n ∧ n ≤ 9223372036854775807 := by
  simp [Lit.wf, IntKind.min, IntKind.max, IntKind.signed, IntKind.bits] at h
  omega
end Go.Proofs.YteebiklebedneaaDoor
/- How bytes that came in read; bulk. -/
namespace Go.Proofs.YteebiklebedneaaDoor
open Go.ChangeShapes Go.WideShapes Go.ChangeAt Go.RowKit Go.AM
theorem bulk_one {H : Type} (d : DataW H) : 1 ≤ Rows.uptoBulk d := by
  cases d with
  | lit l => cases l <;> simp [Rows.uptoBulk]
  | nil => simp [Rows.uptoBulk]
  | ptr d => simp [Rows.uptoBulk]
  | slice elems spare => simp [Rows.uptoBulk]
  | agg parts => simp [Rows.uptoBulk]
  | iface t d => simp [Rows.uptoBulk]
  | map entries => simp [Rows.uptoBulk]
  | held h => simp [Rows.uptoBulk]
theorem bulk_length {H : Type} : ∀ l : List (DataW H), l.length ≤ Rows.uptoBulkAll l
  | [] => by simp [Rows.uptoBulkAll]
  | x :: r => by have := bulk_one x; have := bulk_length r; simp only [Rows.uptoBulkAll, List.length_cons]; omega
theorem bulk_slice {H : Type} (ds rest : List (DataW H)) : ds.length + 1 ≤ Rows.uptoBulk (.slice ds rest) := by
  have := bulk_length ds
  simp only [Rows.uptoBulk]; omega
theorem bulk_bound {H : Type} {l : List (DataW H)} (hk : Rows.uptoSmall H l = true) : Rows.uptoBulkAll l ≤ 1048576 := of_decide_eq_true hk
theorem bulk_of {H α : Type} {l : List α} {R : α → DataW H → Prop} {d : DataW H} (h : (l = [] ∧ d = .nil) ∨ ∃ ds rest, d = .slice ds rest ∧ ds.length = l.length ∧ ∀ (i : Nat) y, l[i]? = some y → ∃ d, ds[i]? = some d ∧ R y d) : l.length ≤ Rows.uptoBulk d := by
  rcases h with ⟨rfl, _⟩ | ⟨ds, rest, rfl, h, _⟩
  · exact Nat.zero_le _
  · have := bulk_slice ds rest; omega
end Go.Proofs.YteebiklebedneaaDoor
/- How values that came in read. -/
namespace Go.Proofs.YteebiklebedneaaDoor
open Go.ChangeShapes Go.WideShapes Go.ChangeAt Go.RowKit Go.AM
theorem cellsVal : Tryd.prog.cellsOf 57 = 3 := by kernel_rfl
set_option maxRecDepth 100000 in
theorem leaf_val {H : Type} {E : TypeId × Value → H} {w : World} {base : Nat} {spare : Nat → Bool} {held : Bool} (fuel : Nat) (cs : List Value) (x : DataW H × List MemPlace)
    (h : DataW.trod E Tryd.prog w base spare held fuel 57 cs = some x) : ∃ y : V, Reps w (zAll w) [] (eV y) cs ∧ (∀ v ∈ cs, v.oneCell' = true) ∧ y.s.size ≤ maxLen := by
  obtain ⟨y0, y1, y2, n, _, hl, h0, h1, h2⟩ := Deep.trod_struct3 Tryd.underlying57 h
  rw [cellsVal] at hl
  obtain ⟨c0, c1, c2, rfl⟩ : ∃ a b c, cs = [a, b, c] := by
    match cs, hl with
    | [a, b, c], _ => exact ⟨a, b, c, rfl⟩
  obtain ⟨k, e0, _, _⟩ := DataW.trod_int Tryd.underlying3 h0
  obtain ⟨m, e1, _, _⟩ := DataW.trod_int Tryd.underlying3 h1
  obtain ⟨s, e2, _, w0⟩ := DataW.trod_string Tryd.underlying9 h2
  rw [show Tryd.prog.cellsOf 3 = 1 by kernel_rfl] at e0 e1
  rw [show Tryd.prog.cellsOf 9 = 1 by kernel_rfl] at e2
  simp at e0 e1 e2
  subst e0 e1 e2
  exact ⟨⟨k, m, s⟩, .cons (.r _ _) (.cons (.r _ _) (.cons (.r _ _) .nil)), by simp [Value.oneCell'], w0⟩
set_option maxRecDepth 100000 in
/-- Values that came in. -/
theorem open_values {H : Type} {E : TypeId × Value → H} {w : World} {base : Nat} {spare : Nat → Bool} {held : Bool} {b0 : Nat} {v : Value} {d : DataW H} {p : List MemPlace}
    (hv : Value.okWide Tryd.prog w .any b0 22 v) (h : DataW.Trod E Tryd.prog w base spare held 22 v d p) :
    ∃ l : List V, Rep w (zAll w) [] (.ro true 3 (l.map eV)) v ∧ l.length ≤ Rows.uptoBulk d ∧ ∀ c ∈ l, c.s.size ≤ maxLen := by
  obtain ⟨f, hf⟩ := h
  obtain ⟨u, l, h1, h2, _, h3⟩ := open_ro eV (fun y _ => y.s.size ≤ maxLen) true Tryd.underlying22 cellsVal (by omega) leaf_val hf
  obtain ⟨a', n', c', rfl⟩ := okWide_slice Tryd.underlying22 hv
  obtain rfl : Value.slice a' n' c' = u := List.head_eq_of_cons_eq (show [Value.slice a' n' c'] = [u] from h1)
  refine ⟨l, h2, bulk_of h3, fun c hc => ?_⟩
  obtain ⟨i, hi⟩ := List.mem_iff_getElem?.1 hc
  rcases h3 with ⟨rfl, _⟩ | ⟨ds, rest, _, _, h6⟩
  · simp at hi
  · exact (h6 i c hi).choose_spec.2
end Go.Proofs.YteebiklebedneaaDoor
/- How values that came in read, with their bounds; what the library reads of its own. -/
namespace Go.Proofs.YteebiklebedneaaDoor
open Go.ChangeShapes Go.WideShapes Go.ChangeAt Go.RowKit Go.AM
theorem lit_in {n : Int} (h : (Lit.int .i64 n).wf = true) : inI n := by
  simp only [Lit.wf, Bool.and_eq_true, decide_eq_true_eq] at h
  exact ⟨h.1, h.2⟩
set_option maxRecDepth 100000 in
theorem leaf_valI {H : Type} {E : TypeId × Value → H} {w : World} {base : Nat} {spare : Nat → Bool} {held : Bool} (fuel : Nat) (cs : List Value) (x : DataW H × List MemPlace)
    (h : DataW.trod E Tryd.prog w base spare held fuel 57 cs = some x) : ∃ y : V, Reps w (zAll w) [] (eV y) cs ∧ (∀ v ∈ cs, v.oneCell' = true) ∧ gV y := by
  obtain ⟨y0, y1, y2, n, _, hl, h0, h1, h2⟩ := Deep.trod_struct3 Tryd.underlying57 h
  rw [cellsVal] at hl
  obtain ⟨c0, c1, c2, rfl⟩ : ∃ a b c, cs = [a, b, c] := by
    match cs, hl with
    | [a, b, c], _ => exact ⟨a, b, c, rfl⟩
  obtain ⟨k, e0, _, _⟩ := DataW.trod_int Tryd.underlying3 h0
  obtain ⟨m, e1, _, wm⟩ := DataW.trod_int Tryd.underlying3 h1
  obtain ⟨s, e2, _, w0⟩ := DataW.trod_string Tryd.underlying9 h2
  rw [show Tryd.prog.cellsOf 3 = 1 by kernel_rfl] at e0 e1
  rw [show Tryd.prog.cellsOf 9 = 1 by kernel_rfl] at e2
  simp at e0 e1 e2
  subst e0 e1 e2
  exact ⟨⟨k, m, s⟩, .cons (.r _ _) (.cons (.r _ _) (.cons (.r _ _) .nil)), by simp [Value.oneCell'], w0, lit_in wm⟩
set_option maxRecDepth 100000 in
/-- Values that came in. -/
theorem open_valuesI {H : Type} {E : TypeId × Value → H} {w : World} {base : Nat} {spare : Nat → Bool} {held : Bool} {b0 : Nat} {v : Value} {d : DataW H} {p : List MemPlace}
    (hv : Value.okWide Tryd.prog w .any b0 22 v) (h : DataW.Trod E Tryd.prog w base spare held 22 v d p) :
    ∃ l : List V, Rep w (zAll w) [] (.ro true 3 (l.map eV)) v ∧ l.length ≤ Rows.uptoBulk d ∧ ∀ c ∈ l, gV c := by
  obtain ⟨f, hf⟩ := h
  obtain ⟨u, l, h1, h2, _, h3⟩ := open_ro eV (fun y _ => gV y) true Tryd.underlying22 cellsVal (by omega) leaf_valI hf
  obtain ⟨a', n', c', rfl⟩ := okWide_slice Tryd.underlying22 hv
  obtain rfl : Value.slice a' n' c' = u := List.head_eq_of_cons_eq (show [Value.slice a' n' c'] = [u] from h1)
  refine ⟨l, h2, bulk_of h3, fun c hc => ?_⟩
  obtain ⟨i, hi⟩ := List.mem_iff_getElem?.1 hc
  rcases h3 with ⟨rfl, _⟩ | ⟨ds, rest, _, _, h6⟩
  · simp at hi
  · exact (h6 i c hi).choose_spec.2

set_option maxRecDepth 100000 in
theorem maxLen_any (W : World) (h : W.ShapedOpen Tryd.prog) : ∃ m, W.cell? ⟨3, 0, none⟩ = some (.int .i64 m) :=
  Go.Proofs.cell_of_shapedOpen_int (zero := #[.int .i64 0]) (t := 3) h (of_decide_eq_true (by kernel_rfl)) (by kernel_rfl) rfl (by kernel_rfl) (by kernel_rfl) Tryd.underlying3
theorem globs_max {W : World} {m : Int} (hm : W.cell? ⟨3, 0, none⟩ = some (.int .i64 m)) : Globs [(3, [.int .i64 m])] W := by
  intro g cs hg
  rw [List.mem_singleton] at hg
  cases hg
  refine ⟨World.block_lt_of_cell? _ _ hm, fun j u hu => ?_⟩
  cases j with
  | zero => simp at hu; subst hu; exact hm
  | succ j => simp at hu
end Go.Proofs.YteebiklebedneaaDoor
/- How arguments and the listed tables read: the seat of lex and parse. -/
namespace Go.Proofs.YteebiklebedneaaDoor
open Go.ChangeShapes Go.WideShapes Go.ChangeAt Go.RowKit
theorem cellsToken : Tryd.prog.cellsOf 66 = 3 := by kernel_rfl
set_option maxRecDepth 100000 in
theorem open_token {H : Type} {enc : TypeId × Value → H} {w : World} {base : Nat} {spare : Nat → Bool} {held : Bool} {b0 : Nat} {v : Value} {d : DataW H} {p : List MemPlace}
    (hv : Value.okWide Tryd.prog w .any b0 66 v) (h : DataW.Trod enc Tryd.prog w base spare held 66 v d p) :
    ∃ (k : Int) (s : ByteArray) (n : Int), v = .agg #[.int .i64 k, .string s, .int .i64 n] ∧ (Lit.int .i64 k).wf = true ∧ (Lit.int .i64 n).wf = true ∧ s.size ≤ maxLen := by
  obtain ⟨c0, c1, c2, y0, y1, y2, m, rfl, _, _, h0, h1, h2⟩ := Joins.open_agg3 Tryd.underlying66 (by kernel_rfl) cellsToken hv h
  obtain ⟨k, e0, _, w0⟩ := DataW.trod_int Tryd.underlying3 h0
  obtain ⟨s, e1, _, w1⟩ := DataW.trod_string Tryd.underlying9 h1
  obtain ⟨n, e2, _, w2⟩ := DataW.trod_int Tryd.underlying3 h2
  simp at e0 e1 e2
  subst e0 e1 e2
  exact ⟨k, s, n, rfl, w0, w2, w1⟩
set_option maxRecDepth 100000 in
theorem open_str {H : Type} {enc : TypeId × Value → H} {w : World} {base : Nat} {spare : Nat → Bool} {held : Bool} {b0 : Nat} {v : Value} {d : DataW H} {p : List MemPlace}
    (hv : Value.okWide Tryd.prog w .any b0 9 v) (h : DataW.Trod enc Tryd.prog w base spare held 9 v d p) : ∃ s : ByteArray, v = .string s ∧ s.size ≤ maxLen := by
  obtain ⟨s, rfl, _, _, w0⟩ := Go.ChangeMaps.open_string Tryd.underlying9 hv h
  exact ⟨s, rfl, w0⟩
/-- An array of strings, as laid: its cells. -/
theorem arrS {P : Program} {w : World} {t e : TypeId} {n fuel : Nat} {cs : List Value} {ls : List (List UInt8)} {p : List MemPlace} {base : Nat} {spare : Nat → Bool} {held : Bool}
    (ht : P.underlying t = some (.array n e)) (he : P.underlying e = some .string) (hce : P.cellsOf e = 1)
    (h : DataW.trod (fun _ => ()) P w base spare held fuel t cs = some (.agg (ls.map fun l => .lit (.string l)), p)) :
    ls.length = n ∧ ∀ j : Nat, j < n → cs[j]? = some (.string (str (ls.getD j []))) := by
  obtain ⟨xs, m', rfl, hx, hl, hn, hi⟩ := DataW.trod_array ht h
  simp only [Prod.mk.injEq, DataW.agg.injEq] at hx
  have hlen : ls.length = n := by
    have := congrArg List.length hx.1
    simpa [hn] using this
  refine ⟨hlen, fun j hj => ?_⟩
  have h1 := hi j hj
  obtain ⟨y, hy⟩ : ∃ y, xs[j]? = some y := ⟨xs[j], by simp [hn, hj]⟩
  rw [hy] at h1
  obtain ⟨s, e1, rfl, _⟩ := DataW.trod_string he h1
  have h2 := congrArg (fun l => l[j]?) hx.1
  simp only [List.getElem?_map, hy, Option.map_some] at h2
  have hj' : j < ls.length := by omega
  rw [List.getElem?_eq_getElem hj'] at h2
  simp only [Option.map_some, Option.some.injEq, DataW.lit.injEq, Lit.string.injEq] at h2
  rw [hce] at e1
  have h4 := congrArg (fun l => l[0]?) e1
  simp at h4
  rw [h4]
  have : s = str (ls.getD j []) := by
    rw [List.getD, List.getElem?_eq_getElem hj', Option.getD_some, h2]
    rfl
  rw [this]
def marksL : List (List UInt8) := [[60, 61], [62, 61], [60, 62], [40], [41], [44], [42], [43], [45], [61], [60], [62]]
theorem gMarks : Tryd.prog.globalNamed "padlock/lex.marks" = some 0 := by kernel_rfl
theorem gMarksT : (Tryd.prog.globals[0]?).map (·.type) = some 103 := by kernel_rfl
set_option maxRecDepth 100000 in
theorem marks_head {W : World} {rest : List (String × DataW Unit)} {ps : List MemPlace} (h : DataW.LaidVars Tryd.prog W (("padlock/lex.marks", Rows.laid_padlock_lex_marks) :: rest) ps) :
    StrsAt W 0 marksS ∧ 0 < W.heap.size ∧ ∃ q, DataW.LaidVars Tryd.prog W rest q := by
  obtain ⟨g, t, cs, fuel, p, q, hg, ht, hvar, hd, hr, _⟩ := h
  obtain rfl := Option.some.inj (gMarks.symm.trans hg)
  obtain rfl := Option.some.inj (gMarksT.symm.trans ht)
  have e : (Rows.laid_padlock_lex_marks : DataW Unit) = .agg (marksL.map fun l => .lit (.string l)) := rfl
  rw [e] at hd
  obtain ⟨h1, h2⟩ := arrS Tryd.underlying103 Tryd.underlying9 (by kernel_rfl) hd
  have hc : ∀ j : Nat, j < 12 → W.cell? ⟨0, j, none⟩ = some (.string (str (marksL.getD j []))) := fun j hj => by
    rw [World.var?_cell gMarks hvar]
    have := h2 j hj
    rwa [Array.getElem?_toList] at this
  refine ⟨fun j hj => ?_, ?_, q, hr⟩
  · rw [hc j hj]
    have : marksS = marksL.map str := rfl
    rw [this, List.getD, List.getD, List.getElem?_map, List.getElem?_eq_getElem (show j < marksL.length from hj)]
    rfl
  · have h0 := hc 0 (by decide)
    rcases Nat.lt_or_ge 0 W.heap.size with h | h
    · exact h
    · simp [World.cell?, Array.getElem?_eq_none h] at h0
end Go.Proofs.YteebiklebedneaaDoor
/- How a statement that came in reads; what the walk of LexCuts asks of the world. -/
namespace Go.Proofs.YteebiklebedneaaDoor
open Go.ChangeShapes Go.WideShapes Go.ChangeAt Go.RowKit Go.AM
set_option maxRecDepth 100000 in
/-- A text that came in. -/
theorem open_strB {H : Type} {enc : TypeId × Value → H} {w : World} {base : Nat} {spare : Nat → Bool} {held : Bool} {b0 : Nat} {v : Value} {d : DataW H} {p : List MemPlace}
    (hv : Value.okWide Tryd.prog w .any b0 9 v) (h : DataW.Trod enc Tryd.prog w base spare held 9 v d p) : ∃ l : List UInt8, v = .string ⟨l.toArray⟩ ∧ l.length ≤ Rows.uptoBulk d := by
  obtain ⟨s, rfl, hd, _, w0⟩ := Go.ChangeMaps.open_string Tryd.underlying9 hv h
  refine ⟨s.data.toList, by simp, ?_⟩
  rw [hd]; simp [Rows.uptoBulk]
theorem gRange : Tryd.prog.globalNamed "strconv.ErrRange" = some 8 := by kernel_rfl
theorem gRangeT : (Tryd.prog.globals[8]?).map (·.type) = some 69 := by kernel_rfl
theorem trod_ifc {H : Type} {E : TypeId × Value → H} {P : Program} {w : World} {base : Nat} {spare : Nat → Bool} {held : Bool} {fuel : Nat} {t : TypeId} {cs : List Value} {ms : Array (String × TypeId)} {nm : String} {d : DataW H} {p : List MemPlace}
    (ht : P.underlying t = some (.interface ms)) (h : DataW.trod E P w base spare held fuel t cs = some (.iface nm d, p)) : ∃ u v, cs = [.iface u v] := by
  cases fuel with
  | zero => simp [DataW.trod] at h
  | succ fuel =>
    unfold DataW.trod at h
    rw [ht] at h
    split at h <;> simp_all
def GX (ev : Value) : List (Nat × List Value) := [(0, AM.marksV), (8, [ev])]
set_option maxRecDepth 100000 in
theorem lexT_of {W : World} (h : laidMetH Tryd.prog Rows.lexCutsUptoRow.laid W) : ∃ ev, LexT (GX ev) ∧ Globs (GX ev) W := by
  obtain ⟨ps, h, _⟩ := h
  obtain ⟨_, _, _, _, _, _, _, _, _, _, h, _⟩ := h
  obtain ⟨_, _, _, _, _, _, _, _, _, _, h, _⟩ := h
  obtain ⟨_, _, _, _, _, _, _, _, _, _, h, _⟩ := h
  obtain ⟨g, t, cs, fuel, p, q, hg, ht, hvar, hd, h, _⟩ := h
  obtain rfl := Option.some.inj (gRange.symm.trans hg)
  obtain rfl := Option.some.inj (gRangeT.symm.trans ht)
  obtain ⟨u, v, hcs⟩ := trod_ifc Tryd.underlying69 (show DataW.trod _ _ _ _ _ _ _ _ _ = some (.iface _ _, _) from hd)
  have hcell : W.cell? ⟨8, 0, none⟩ = some (.iface u v) := by
    rw [World.var?_cell gRange hvar, ← Array.getElem?_toList, hcs]; rfl
  obtain ⟨_, _, _, _, _, _, _, _, _, _, h, _⟩ := h
  obtain ⟨h1, h2, _⟩ := marks_head h
  refine ⟨.iface u v, ⟨rfl, .iface u v, by simp [GX], .inr ⟨u, v, rfl⟩⟩, fun g cs hg => ?_⟩
  simp only [GX, List.mem_cons, Prod.mk.injEq, List.not_mem_nil, or_false] at hg
  rcases hg with ⟨rfl, rfl⟩ | ⟨rfl, rfl⟩
  · refine ⟨h2, fun j x hx => ?_⟩
    have hj := (List.getElem?_eq_some_iff.1 hx).1
    have hj' : j < marksS.length := by simpa [AM.marksV, marksB, marksS] using hj
    rw [h1 j hj', ← hx, List.getD, List.getElem?_eq_getElem hj']
    have : AM.marksV = marksS.map fun s => Value.string s := rfl
    rw [this, List.getElem?_map, List.getElem?_eq_getElem hj']; rfl
  · refine ⟨World.block_lt_of_cell? _ _ hcell, fun j x hx => ?_⟩
    cases j with
    | zero => simp at hx; subst hx; exact hcell
    | succ j => simp at hx
end Go.Proofs.YteebiklebedneaaDoor
