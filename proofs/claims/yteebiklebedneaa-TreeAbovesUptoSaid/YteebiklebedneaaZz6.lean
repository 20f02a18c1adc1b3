/- Texts of the law TreeAboves, part 6: lemmas; what is proved stands in the last text. -/
import Derived.Test.YteebiklebedneaaZz4
import Derived.Test.YteebiklebedneaaZz5
import Derived.Test.YteebiklebedneaaRows
import Derived.WalkKit
import Derived.ProofKit
import Derived.OpenShut
import Derived.ShutString
import Derived.ChangeOld
import Derived.Below
import Derived.Lib.SmallJoins
import Derived.Test.YteebiklebedneaaZz1
import Derived.JoinedCond
import Derived.SizedLaws
import Derived.Deep.Strs
set_option linter.unusedSimpArgs false
set_option linter.unusedVariables false
/- Rows of numbers: the same lists are the same. -/
namespace Go.AM
open Go Go.RowKit
attribute [local irreducible] AWP retA
def eIs (l : List Int) : List AV := [.ro true 1 (l.map eI)]
@[simp] theorem ptA_eIs (a : List Int) : (∀ x, x ∈ eIs a → PT x) = True := eq_true (by intro x hx; simp [eIs] at hx; subst hx; simp)
instance : PTf eIs := ⟨fun a => of_eq_true (ptA_eIs a)⟩
set_option maxRecDepth 100000 in
set_option maxHeartbeats 4000000 in
theorem sameI_con (G : List (Nat × List Value)) (t t' : Bool) (l : List Int) (hl : l.length ≤ 1048576) : Con Go.Proofs.Try.prog G 33 [.ro t 1 (l.map eI), .ro t' 1 (l.map eI)] [] 0 (Is (.r (.bool true)) [] 0) No := by
  refine con_of_awp Go.Proofs.Try.func33 rfl (by kernel_rfl) (of_decide_eq_true (by kernel_rfl)) ?_; intro E hG hE; subst hG; simp only [ent]
  (repeat' (first | refine awp_seq ?_ | refine awp_block ?_ | refine awp_skip ?_ | refine awp_exit ?_ | ((first | refine rR (fun K kp hK hkp => ?_) | refine rD (id := 6) mixed 9 [0,1,2,3,4,5,6,7,8] (fun K kp hK hkp => ?_) | refine iG ?_ | refine iD ?_); simp (implicitDefEqProofs := false) (maxSteps := 2000000) (disch := omega) only [go_sem, bne_self_eq_false]; (repeat' (first | (refine hK _ ?_; clear hK hkp kp K) | (with_reducible refine And.intro ?_ ?_) | omega))) | ((first | refine aG (fun h => ?_) (fun h => ?_) | refine aD (fun h => ?_) (fun h => ?_) | refine aX (fun h => ?_) (fun h => ?_)) <;> simp only [h]) | refine awp_cond_t rfl ?_ | refine awp_cond_f rfl ?_ | ((refine awp_cond rfl (fun h => ?_) (fun h => ?_) <;> try simp only [ifs] at h) <;> (try (exfalso; omega))) | refine awp_ret ?_))
  refine awp_loop (fun k : Nat => ⟨[(5, .r (.int .i64 k)), (0, .ro t 1 (l.map eI)), (1, .ro t' 1 (l.map eI))], [], 0⟩) (fun k => k ≤ l.length) (fun k => l.length - k) 0 ?_ ?_ ?_
  · simp
  · (refine emb [] ?_ ?_ rfl ?_ ?_ ?_ ?_ <;> simp [okM, okO, lk, ren, renL, renNd, by_, hE] <;> (try omega) <;> (try (intro i hi; first | (rcases i with _ | _ | i; rfl; rfl; (exfalso; omega)) | (rcases i with _ | _ | _ | i; rfl; rfl; rfl; (exfalso; omega)) | (rcases i with _ | _ | _ | _ | i; rfl; rfl; rfl; rfl; (exfalso; omega)) | (rcases i with _ | _ | _ | _ | _ | i; rfl; rfl; rfl; rfl; rfl; (exfalso; omega)) | (rcases i with _ | _ | _ | _ | _ | _ | i; rfl; rfl; rfl; rfl; rfl; rfl; (exfalso; omega)))))
  intro k hk
  by_cases hlt : k < l.length
  · obtain ⟨x, hx⟩ : ∃ x, l[k]? = some x := ⟨l[k], by simp [hlt]⟩
    have d1 : decide ((k : Int) < (l.length : Int)) = true := decide_eq_true (by omega)
    (repeat' (first | refine awp_seq ?_ | refine awp_block ?_ | refine awp_skip ?_ | refine awp_exit ?_ | ((first | refine rR (fun K kp hK hkp => ?_) | refine rD (id := 6) mixed 9 [0,1,2,3,4,5,6,7,8] (fun K kp hK hkp => ?_) | refine iG ?_ | refine iD ?_); simp (implicitDefEqProofs := false) (maxSteps := 2000000) (disch := omega) only [go_sem, hx, eI, d1, bne_self_eq_false]; (repeat' (first | (refine hK _ ?_; clear hK hkp kp K) | (with_reducible refine And.intro ?_ ?_) | omega))) | ((first | refine aG (fun h => ?_) (fun h => ?_) | refine aD (fun h => ?_) (fun h => ?_) | refine aX (fun h => ?_) (fun h => ?_)) <;> simp only [h]) | refine awp_cond_t rfl ?_ | refine awp_cond_f rfl ?_ | ((refine awp_cond rfl (fun h => ?_) (fun h => ?_) <;> try simp only [ifs] at h) <;> (try (exfalso; omega))) | refine awp_ret ?_))
    ((first | (refine nextB (k + 1) ?_ ?_ ?_) | (refine nextA (k + 1) ?_ ?_ ?_) | (refine nextE (k + 1) ?_ ?_ ?_)); rotate_left; (· (try dsimp only); (first | omega | (simp only [List.length_drop, List.length_cons, List.length_append]; omega) | (simp; done) | (simp; omega))); (· (refine emb [] ?_ ?_ rfl ?_ ?_ ?_ ?_ <;> simp [okM, okO, lk, ren, renL, renNd, by_, hE] <;> (try omega) <;> (try (intro i hi; first | (rcases i with _ | _ | i; rfl; rfl; (exfalso; omega)) | (rcases i with _ | _ | _ | i; rfl; rfl; rfl; (exfalso; omega)) | (rcases i with _ | _ | _ | _ | i; rfl; rfl; rfl; rfl; (exfalso; omega)) | (rcases i with _ | _ | _ | _ | _ | i; rfl; rfl; rfl; rfl; rfl; (exfalso; omega)) | (rcases i with _ | _ | _ | _ | _ | _ | i; rfl; rfl; rfl; rfl; rfl; rfl; (exfalso; omega)))))))
    omega
  · have d1 : decide ((k : Int) < (l.length : Int)) = false := decide_eq_false (by omega)
    (repeat' (first | refine awp_seq ?_ | refine awp_block ?_ | refine awp_skip ?_ | refine awp_exit ?_ | ((first | refine rR (fun K kp hK hkp => ?_) | refine rD (id := 6) mixed 9 [0,1,2,3,4,5,6,7,8] (fun K kp hK hkp => ?_) | refine iG ?_ | refine iD ?_); simp (implicitDefEqProofs := false) (maxSteps := 2000000) (disch := omega) only [go_sem, d1]; (repeat' (first | (refine hK _ ?_; clear hK hkp kp K) | (with_reducible refine And.intro ?_ ?_) | omega))) | ((first | refine aG (fun h => ?_) (fun h => ?_) | refine aD (fun h => ?_) (fun h => ?_) | refine aX (fun h => ?_) (fun h => ?_)) <;> simp only [h]) | refine awp_cond_t rfl ?_ | refine awp_cond_f rfl ?_ | ((refine awp_cond rfl (fun h => ?_) (fun h => ?_) <;> try simp only [ifs] at h) <;> (try (exfalso; omega))) | refine awp_ret ?_))
    (refine retA_is (by (simp (implicitDefEqProofs := false) (maxSteps := 2000000) (disch := omega) only [go_sem, Go.Proofs.Try.results33]); rfl) ?_; refine eN hE ?_; simp [oneA, ren, renL])
end Go.AM
/- Trees: the same trees are the same. -/
namespace Go.AM
open Go Go.RowKit
attribute [local irreducible] AWP retA
def okPs2 (ps : List PG) : Prop := ps.length ≤ 1048576 ∧ ∀ p ∈ ps, p.keys.length ≤ 1048576 ∧ p.kids.length ≤ 1048576 ∧ p.high.length ≤ 1048576 ∧ ∀ k ∈ p.keys, k.length ≤ 1048576
set_option maxRecDepth 100000 in
set_option maxHeartbeats 4000000 in
theorem sameTree_con (G : List (Nat × List Value)) (t t' : Bool) (ps : List PG) (root : Int) (ho : okPs2 ps) : Con Go.Proofs.Try.prog G 12 [.agg [.ro t 5 (ps.map eP), .r (.int .i64 root)], .agg [.ro t' 5 (ps.map eP), .r (.int .i64 root)]] [] 0 (Is (.r (.bool true)) [] 0) No := by
  have hn := ho.1
  refine con_of_awp Go.Proofs.Try.func12 rfl (by kernel_rfl) (of_decide_eq_true (by kernel_rfl)) ?_; intro E hG hE; subst hG; simp only [ent]
  (repeat' (first | refine awp_seq ?_ | refine awp_block ?_ | refine awp_skip ?_ | refine awp_exit ?_ | ((first | refine rR (fun K kp hK hkp => ?_) | refine rD (id := 13) mixed 13 [0,1,2,3,4,5,6,7,8,9,10,11,12] (fun K kp hK hkp => ?_) | refine iG ?_ | refine iD ?_); simp (implicitDefEqProofs := false) (maxSteps := 2000000) (disch := omega) only [go_sem, eP, bne_self_eq_false]; (repeat' (first | (refine hK _ ?_; clear hK hkp kp K) | (with_reducible refine And.intro ?_ ?_) | omega))) | ((first | refine aG (fun h => ?_) (fun h => ?_) | refine aD (fun h => ?_) (fun h => ?_) | refine aX (fun h => ?_) (fun h => ?_)) <;> simp only [h]) | refine awp_cond_t rfl ?_ | refine awp_cond_f rfl ?_ | ((refine awp_cond rfl (fun h => ?_) (fun h => ?_) <;> try simp only [ifs] at h) <;> (try (exfalso; omega))) | refine awp_ret ?_))
  refine awp_loop (fun i : Nat => ⟨[(5, .r (.int .i64 i)), (3, .p 1 0 0), (2, .p 0 0 0)], [(0, .box 24 [.ro t 5 (ps.map eP), .r (.int .i64 root)]), (1, .box 24 [.ro t' 5 (ps.map eP), .r (.int .i64 root)])], 2⟩) (fun i => i ≤ ps.length) (fun i => ps.length - i) 0 ?_ ?_ ?_
  · exact Nat.zero_le _
  · (refine emb [0, 1] ?_ ?_ rfl ?_ ?_ ?_ ?_ <;> simp [okM, okO, lk, ren, renL, renNd, by_, hE] <;> (try omega) <;> (try (intro i hi; first | (rcases i with _ | _ | i; rfl; rfl; (exfalso; omega)) | (rcases i with _ | _ | _ | i; rfl; rfl; rfl; (exfalso; omega)) | (rcases i with _ | _ | _ | _ | i; rfl; rfl; rfl; rfl; (exfalso; omega)) | (rcases i with _ | _ | _ | _ | _ | i; rfl; rfl; rfl; rfl; rfl; (exfalso; omega)) | (rcases i with _ | _ | _ | _ | _ | _ | i; rfl; rfl; rfl; rfl; rfl; rfl; (exfalso; omega)))))
  intro i hi
  by_cases hlt : i < ps.length
  · have zi : ((i : Int) < (ps.length : Int)) = True := eq_true (by omega)
    obtain ⟨p, hp⟩ : ∃ p, ps[i]? = some p := ⟨ps[i], by simp [hlt]⟩
    obtain ⟨h1, h2, h3, h4⟩ := ho.2 p (List.mem_of_getElem? hp)
    have sc := sameI_con E.G true true p.kids h2
    (repeat' (first | refine awp_seq ?_ | refine awp_block ?_ | refine awp_skip ?_ | refine awp_exit ?_ | ((first | refine rR (fun K kp hK hkp => ?_) | refine rD (id := 13) mixed 13 [0,1,2,3,4,5,6,7,8,9,10,11,12] (fun K kp hK hkp => ?_) | refine cR sc ?_ | refine cD sc ?_ | refine iG ?_ | refine iD ?_); simp (implicitDefEqProofs := false) (maxSteps := 2000000) (disch := omega) only [go_sem, zi, hp, eP, bne_self_eq_false, unb_map, beq_self_eq_true]; (repeat' (first | (refine hK _ ?_; clear hK hkp kp K) | (with_reducible refine And.intro ?_ ?_) | omega))) | ((first | refine aG (fun h => ?_) (fun h => ?_) | refine aD (fun h => ?_) (fun h => ?_) | refine aX (fun h => ?_) (fun h => ?_)) <;> simp only [h]) | refine awp_cond_t rfl ?_ | refine awp_cond_f rfl ?_ | ((refine awp_cond rfl (fun h => ?_) (fun h => ?_) <;> try simp only [ifs] at h) <;> (try (exfalso; omega))) | refine awp_ret ?_))
    refine awp_loop (fun k : Nat => ⟨[(8, .r (.int .i64 k)), (7, .p 3 0 0), (6, .p 2 0 0), (5, .r (.int .i64 i)), (3, .p 1 0 0), (2, .p 0 0 0)], [(0, .box 24 [.ro t 5 (ps.map eP), .r (.int .i64 root)]), (1, .box 24 [.ro t' 5 (ps.map eP), .r (.int .i64 root)]), (2, .box 52 (eP p)), (3, .box 52 (eP p))], 4⟩) (fun k => k ≤ p.keys.length) (fun k => p.keys.length - k) 0 ?_ ?_ ?_
    · exact Nat.zero_le _
    · (refine emb [0, 1, 2, 3] ?_ ?_ rfl ?_ ?_ ?_ ?_ <;> simp [okM, okO, lk, ren, renL, renNd, by_, hE, eP] <;> (try omega) <;> (try (intro i hi; first | (rcases i with _ | _ | i; rfl; rfl; (exfalso; omega)) | (rcases i with _ | _ | _ | i; rfl; rfl; rfl; (exfalso; omega)) | (rcases i with _ | _ | _ | _ | i; rfl; rfl; rfl; rfl; (exfalso; omega)) | (rcases i with _ | _ | _ | _ | _ | i; rfl; rfl; rfl; rfl; rfl; (exfalso; omega)) | (rcases i with _ | _ | _ | _ | _ | _ | i; rfl; rfl; rfl; rfl; rfl; rfl; (exfalso; omega)))))
    intro k hk
    by_cases hkl : k < p.keys.length
    · have zk : ((k : Int) < (p.keys.length : Int)) = True := eq_true (by omega)
      obtain ⟨x, hx⟩ : ∃ x, p.keys[k]? = some x := ⟨p.keys[k], by simp [hkl]⟩
      (repeat' (first | refine awp_seq ?_ | refine awp_block ?_ | refine awp_skip ?_ | refine awp_exit ?_ | ((first | refine rR (fun K kp hK hkp => ?_) | refine rD (id := 13) mixed 13 [0,1,2,3,4,5,6,7,8,9,10,11,12] (fun K kp hK hkp => ?_) | refine iG ?_ | refine iD ?_); simp (implicitDefEqProofs := false) (maxSteps := 2000000) (disch := omega) only [go_sem, zk, hx, eP, eKy, bne_self_eq_false, unb_map, beq_self_eq_true]; (repeat' (first | (refine hK _ ?_; clear hK hkp kp K) | (with_reducible refine And.intro ?_ ?_) | omega))) | ((first | refine aG (fun h => ?_) (fun h => ?_) | refine aD (fun h => ?_) (fun h => ?_) | refine aX (fun h => ?_) (fun h => ?_)) <;> simp only [h]) | refine awp_cond_t rfl ?_ | refine awp_cond_f rfl ?_ | ((refine awp_cond rfl (fun h => ?_) (fun h => ?_) <;> try simp only [ifs] at h) <;> (try (exfalso; omega))) | refine awp_ret ?_))
      ((first | (refine nextB (k + 1) ?_ ?_ ?_) | (refine nextA (k + 1) ?_ ?_ ?_) | (refine nextE (k + 1) ?_ ?_ ?_)); rotate_left; (· (try dsimp only); (first | omega | (simp only [List.length_drop, List.length_cons, List.length_append]; omega) | (simp; done) | (simp; omega))); (· (refine emb [0, 1, 2, 3] ?_ ?_ rfl ?_ ?_ ?_ ?_ <;> simp [okM, okO, lk, ren, renL, renNd, by_, hE, eP] <;> (try omega) <;> (try (intro i hi; first | (rcases i with _ | _ | i; rfl; rfl; (exfalso; omega)) | (rcases i with _ | _ | _ | i; rfl; rfl; rfl; (exfalso; omega)) | (rcases i with _ | _ | _ | _ | i; rfl; rfl; rfl; rfl; (exfalso; omega)) | (rcases i with _ | _ | _ | _ | _ | i; rfl; rfl; rfl; rfl; rfl; (exfalso; omega)) | (rcases i with _ | _ | _ | _ | _ | _ | i; rfl; rfl; rfl; rfl; rfl; rfl; (exfalso; omega)))))))
      omega
    · obtain rfl : k = p.keys.length := by omega
      (repeat' (first | refine awp_seq ?_ | refine awp_block ?_ | refine awp_skip ?_ | refine awp_exit ?_ | ((first | refine rR (fun K kp hK hkp => ?_) | refine rD (id := 13) mixed 13 [0,1,2,3,4,5,6,7,8,9,10,11,12] (fun K kp hK hkp => ?_) | refine iG ?_ | refine iD ?_); simp (implicitDefEqProofs := false) (maxSteps := 2000000) (disch := omega) only [go_sem, eP]; (repeat' (first | (refine hK _ ?_; clear hK hkp kp K) | (with_reducible refine And.intro ?_ ?_) | omega))) | ((first | refine aG (fun h => ?_) (fun h => ?_) | refine aD (fun h => ?_) (fun h => ?_) | refine aX (fun h => ?_) (fun h => ?_)) <;> simp only [h]) | refine awp_cond_t rfl ?_ | refine awp_cond_f rfl ?_ | ((refine awp_cond rfl (fun h => ?_) (fun h => ?_) <;> try simp only [ifs] at h) <;> (try (exfalso; omega))) | refine awp_ret ?_))
      ((first | (refine nextB (i + 1) ?_ ?_ ?_) | (refine nextA (i + 1) ?_ ?_ ?_) | (refine nextE (i + 1) ?_ ?_ ?_)); rotate_left; (· (try dsimp only); (first | omega | (simp only [List.length_drop, List.length_cons, List.length_append]; omega) | (simp; done) | (simp; omega))); (· (refine emb [0, 1] ?_ ?_ rfl ?_ ?_ ?_ ?_ <;> simp [okM, okO, lk, ren, renL, renNd, by_, hE] <;> (try omega) <;> (try (intro i hi; first | (rcases i with _ | _ | i; rfl; rfl; (exfalso; omega)) | (rcases i with _ | _ | _ | i; rfl; rfl; rfl; (exfalso; omega)) | (rcases i with _ | _ | _ | _ | i; rfl; rfl; rfl; rfl; (exfalso; omega)) | (rcases i with _ | _ | _ | _ | _ | i; rfl; rfl; rfl; rfl; rfl; (exfalso; omega)) | (rcases i with _ | _ | _ | _ | _ | _ | i; rfl; rfl; rfl; rfl; rfl; rfl; (exfalso; omega)))))))
      omega
  · obtain rfl : i = ps.length := by omega
    (repeat' (first | refine awp_seq ?_ | refine awp_block ?_ | refine awp_skip ?_ | refine awp_exit ?_ | ((first | refine rR (fun K kp hK hkp => ?_) | refine rD (id := 13) mixed 13 [0,1,2,3,4,5,6,7,8,9,10,11,12] (fun K kp hK hkp => ?_) | refine iG ?_ | refine iD ?_); simp (implicitDefEqProofs := false) (maxSteps := 2000000) (disch := omega) only [go_sem]; (repeat' (first | (refine hK _ ?_; clear hK hkp kp K) | (with_reducible refine And.intro ?_ ?_) | omega))) | ((first | refine aG (fun h => ?_) (fun h => ?_) | refine aD (fun h => ?_) (fun h => ?_) | refine aX (fun h => ?_) (fun h => ?_)) <;> simp only [h]) | refine awp_cond_t rfl ?_ | refine awp_cond_f rfl ?_ | ((refine awp_cond rfl (fun h => ?_) (fun h => ?_) <;> try simp only [ifs] at h) <;> (try (exfalso; omega))) | refine awp_ret ?_))
    (refine retA_is (by (simp (implicitDefEqProofs := false) (maxSteps := 2000000) (disch := omega) only [go_sem, Go.Proofs.Try.results12]); rfl) ?_; refine eN hE ?_; simp [oneA, ren, renL])
end Go.AM
/- TreeCopy. -/
namespace Go.AM
open Go Go.RowKit
attribute [local irreducible] AWP retA
set_option maxRecDepth 100000 in
set_option maxHeartbeats 4000000 in
theorem treeCopy_con (G : List (Nat × List Value)) (t : Bool) (ps : List PG) (root : Int) (ho : okPs2 ps) : Con Go.Proofs.Try.prog G 26 [.agg [.ro t 5 (ps.map eP), .r (.int .i64 root)]] [] 0 (Is (.agg [.ro true 5 (ps.map eP), .r (.int .i64 root)]) [] 0) No := by
  have hn := ho.1
  refine con_of_awp Go.Proofs.Try.func26 rfl (by kernel_rfl) (of_decide_eq_true (by kernel_rfl)) ?_; intro E hG hE; subst hG; simp only [ent]
  (repeat' (first | refine awp_seq ?_ | refine awp_block ?_ | refine awp_skip ?_ | refine awp_exit ?_ | ((first | refine rR (fun K kp hK hkp => ?_) | refine rD (id := 15) mixed 8 [0,1,2,3,4,5,6,7] (fun K kp hK hkp => ?_) | refine iG ?_ | refine iD ?_); simp (implicitDefEqProofs := false) (maxSteps := 2000000) (disch := omega) only [go_sem, eP]; (repeat' (first | (refine hK _ ?_; clear hK hkp kp K) | (with_reducible refine And.intro ?_ ?_) | omega))) | ((first | refine aG (fun h => ?_) (fun h => ?_) | refine aD (fun h => ?_) (fun h => ?_) | refine aX (fun h => ?_) (fun h => ?_)) <;> simp only [h]) | refine awp_cond_t rfl ?_ | refine awp_cond_f rfl ?_ | ((refine awp_cond rfl (fun h => ?_) (fun h => ?_) <;> try simp only [ifs] at h) <;> (try (exfalso; omega))) | refine awp_ret ?_))
  (refine AWP.emb (emb_nilB 2 0 52 5 rfl rfl (by simp)) ?_; simp only [List.set_cons_zero, List.set_cons_succ, lk, ↓reduceIte, Nat.reduceAdd])
  refine awp_loop (fun i : Nat => ⟨[(4, .r (.int .i64 i)), (3, .p 2 0 0), (2, .p 1 0 0), (1, .p 0 0 0)], [(0, .box 24 [.ro t 5 (ps.map eP), .r (.int .i64 root)]), (1, .box 24 [.r (.slice none 0 0), .r (.int .i64 0)]), (2, .box 24 [.s 3 0 i, .r (.int .i64 root)]), (3, .lst 52 5 ((ps.take i).map eP))], 4⟩) (fun i => i ≤ ps.length) (fun i => ps.length - i) 0 ?_ ?_ ?_
  · exact Nat.zero_le _
  · (refine emb [0, 1, 2, 3] ?_ ?_ rfl ?_ ?_ ?_ ?_ <;> simp [okM, okO, lk, ren, renL, renNd, by_, hE, renOp] <;> (try omega) <;> (try (intro i hi; first | (rcases i with _ | _ | i; rfl; rfl; (exfalso; omega)) | (rcases i with _ | _ | _ | i; rfl; rfl; rfl; (exfalso; omega)) | (rcases i with _ | _ | _ | _ | i; rfl; rfl; rfl; rfl; (exfalso; omega)) | (rcases i with _ | _ | _ | _ | _ | i; rfl; rfl; rfl; rfl; rfl; (exfalso; omega)) | (rcases i with _ | _ | _ | _ | _ | _ | i; rfl; rfl; rfl; rfl; rfl; rfl; (exfalso; omega)))))
  intro i hi
  by_cases hlt : i < ps.length
  · have zi : ((i : Int) < (ps.length : Int)) = True := eq_true (by omega)
    obtain ⟨p, hp⟩ : ∃ p, ps[i]? = some p := ⟨ps[i], by simp [hlt]⟩
    obtain ⟨h1, h2, h3, h4⟩ := ho.2 p (List.mem_of_getElem? hp)
    have bc := bytesCopy_con E.G true p.high h3
    (repeat' (first | refine awp_seq ?_ | refine awp_block ?_ | refine awp_skip ?_ | refine awp_exit ?_ | ((first | refine rR (fun K kp hK hkp => ?_) | refine rU (id := 6) mixed 9 [⟨0, 0, [], [(0, 1)]⟩, ⟨0, 0, [0], [(0, 1)]⟩, ⟨0, 0, [], [(0, 1)]⟩, ⟨0, 0, [2], [(0, 1)]⟩, ⟨0, 0, [2, 3], [(0, 1)]⟩, ⟨0, 0, [], [(0, 1)]⟩, ⟨0, 0, [5], [(0, 1)]⟩, ⟨0, 0, [0, 1, 2, 3, 4, 5, 6], [(0, 1)]⟩, ⟨0, 1, [], []⟩] 1 [25, 26, 27, 28, 29, 30, 31, 32, 6] [] (fun K kp hK hkp => ?_) | refine rD (id := 15) mixed 8 [0,1,2,3,4,5,6,7] (fun K kp hK hkp => ?_) | refine cR bc ?_ | refine cD bc ?_ | refine cU bc ?_ | refine iG ?_ | refine iD ?_); simp (implicitDefEqProofs := false) (maxSteps := 2000000) (disch := omega) only [go_sem, zi, hp, eP]; (repeat' (first | (refine hK _ ?_; clear hK hkp kp K) | (with_reducible refine And.intro ?_ ?_) | omega))) | ((first | refine aG (fun h => ?_) (fun h => ?_) | refine aD (fun h => ?_) (fun h => ?_) | refine aX (fun h => ?_) (fun h => ?_)) <;> simp only [h]) | refine awp_cond_t rfl ?_ | refine awp_cond_f rfl ?_ | ((refine awp_cond rfl (fun h => ?_) (fun h => ?_) <;> try simp only [ifs] at h) <;> (try (exfalso; omega))) | refine awp_ret ?_))
    (refine AWP.emb (emb_nilB 5 1 30 1 rfl rfl (by simp)) ?_; simp only [List.set_cons_zero, List.set_cons_succ, lk, ↓reduceIte, Nat.reduceAdd])
    (refine AWP.emb (emb_nilB 5 2 3 1 rfl rfl (by simp)) ?_; simp only [List.set_cons_zero, List.set_cons_succ, lk, ↓reduceIte, Nat.reduceAdd])
    refine awp_loop (fun k : Nat => ⟨[(7, .r (.int .i64 k)), (6, .p 5 0 0), (5, .p 4 0 0), (4, .r (.int .i64 i)), (3, .p 2 0 0), (2, .p 1 0 0), (1, .p 0 0 0)], [(0, .box 24 [.ro t 5 (ps.map eP), .r (.int .i64 root)]), (1, .box 24 [.r (.slice none 0 0), .r (.int .i64 0)]), (2, .box 24 [.s 3 0 i, .r (.int .i64 root)]), (3, .lst 52 5 ((ps.take i).map eP)), (4, .box 52 (eP p)), (5, .box 52 [.r (.bool p.leaf), .s 6 0 (k), .s 7 0 (0), .ro true 1 (p.high.map eByte), .r (.int .i64 p.next)]), (6, .lst 30 1 ((p.keys.take k).map eKy)), (7, .lst 3 1 [])], 8⟩) (fun k => k ≤ p.keys.length) (fun k => p.keys.length - k) 0 ?_ ?_ ?_
    · exact Nat.zero_le _
    · (refine emb [0, 1, 2, 3, 4, 5, 6, 7] ?_ ?_ rfl ?_ ?_ ?_ ?_ <;> simp [okM, okO, lk, ren, renL, renNd, by_, hE, eP] <;> (try omega) <;> (try (intro i hi; first | (rcases i with _ | _ | i; rfl; rfl; (exfalso; omega)) | (rcases i with _ | _ | _ | i; rfl; rfl; rfl; (exfalso; omega)) | (rcases i with _ | _ | _ | _ | i; rfl; rfl; rfl; rfl; (exfalso; omega)) | (rcases i with _ | _ | _ | _ | _ | i; rfl; rfl; rfl; rfl; rfl; (exfalso; omega)) | (rcases i with _ | _ | _ | _ | _ | _ | i; rfl; rfl; rfl; rfl; rfl; rfl; (exfalso; omega)))))
    intro k hk
    by_cases hkl : k < p.keys.length
    · have zk : ((k : Int) < (p.keys.length : Int)) = True := eq_true (by omega)
      obtain ⟨x, hx⟩ : ∃ x, p.keys[k]? = some x := ⟨p.keys[k], by simp [hkl]⟩
      have xc := bytesCopy_con E.G true x (h4 x (List.mem_of_getElem? hx))
      have htk : p.keys.take (k + 1) = p.keys.take k ++ [x] := by rw [List.take_add_one, hx]; rfl
      have hl : (p.keys.take k).length = k := by rw [List.length_take]; omega
      (repeat' (first | refine awp_seq ?_ | refine awp_block ?_ | refine awp_skip ?_ | refine awp_exit ?_ | ((first | refine rR (fun K kp hK hkp => ?_) | refine rD (id := 15) mixed 8 [0,1,2,3,4,5,6,7] (fun K kp hK hkp => ?_) | refine cR xc ?_ | refine cD xc ?_ | refine iG ?_ | refine iD ?_); simp (implicitDefEqProofs := false) (maxSteps := 2000000) (disch := omega) only [go_sem, zk, hx, eP, eKy, hl, Value.oneCell']; (repeat' (first | (refine hK _ ?_; clear hK hkp kp K) | (with_reducible refine And.intro ?_ ?_) | omega))) | ((first | refine aG (fun h => ?_) (fun h => ?_) | refine aD (fun h => ?_) (fun h => ?_) | refine aX (fun h => ?_) (fun h => ?_)) <;> simp only [h]) | refine awp_cond_t rfl ?_ | refine awp_cond_f rfl ?_ | ((refine awp_cond rfl (fun h => ?_) (fun h => ?_) <;> try simp only [ifs] at h) <;> (try (exfalso; omega))) | refine awp_ret ?_))
      ((first | (refine nextB (k + 1) ?_ ?_ ?_) | (refine nextA (k + 1) ?_ ?_ ?_) | (refine nextE (k + 1) ?_ ?_ ?_)); rotate_left; (· (try dsimp only); (first | omega | (simp only [List.length_drop, List.length_cons, List.length_append]; omega) | (simp; done) | (simp; omega))); (· (refine emb [0, 1, 2, 3, 4, 5, 9, 7] ?_ ?_ rfl ?_ ?_ ?_ ?_ <;> simp [okM, okO, lk, ren, renL, renNd, by_, hE, htk, eKy, eP, List.take_take, Nat.min_self] <;> (try omega) <;> (try (intro i hi; first | (rcases i with _ | _ | i; rfl; rfl; (exfalso; omega)) | (rcases i with _ | _ | _ | i; rfl; rfl; rfl; (exfalso; omega)) | (rcases i with _ | _ | _ | _ | i; rfl; rfl; rfl; rfl; (exfalso; omega)) | (rcases i with _ | _ | _ | _ | _ | i; rfl; rfl; rfl; rfl; rfl; (exfalso; omega)) | (rcases i with _ | _ | _ | _ | _ | _ | i; rfl; rfl; rfl; rfl; rfl; rfl; (exfalso; omega)))))))
      omega
    · obtain rfl : k = p.keys.length := by omega
      rw [List.take_length]
      (repeat' (first | refine awp_seq ?_ | refine awp_block ?_ | refine awp_skip ?_ | refine awp_exit ?_ | ((first | refine rR (fun K kp hK hkp => ?_) | refine rD (id := 15) mixed 8 [0,1,2,3,4,5,6,7] (fun K kp hK hkp => ?_) | refine iG ?_ | refine iD ?_); simp (implicitDefEqProofs := false) (maxSteps := 2000000) (disch := omega) only [go_sem, eP]; (repeat' (first | (refine hK _ ?_; clear hK hkp kp K) | (with_reducible refine And.intro ?_ ?_) | omega))) | ((first | refine aG (fun h => ?_) (fun h => ?_) | refine aD (fun h => ?_) (fun h => ?_) | refine aX (fun h => ?_) (fun h => ?_)) <;> simp only [h]) | refine awp_cond_t rfl ?_ | refine awp_cond_f rfl ?_ | ((refine awp_cond rfl (fun h => ?_) (fun h => ?_) <;> try simp only [ifs] at h) <;> (try (exfalso; omega))) | refine awp_ret ?_))
      refine awp_loop (fun k : Nat => ⟨[(9, .r (.int .i64 k)), (6, .p 5 0 0), (5, .p 4 0 0), (4, .r (.int .i64 i)), (3, .p 2 0 0), (2, .p 1 0 0), (1, .p 0 0 0)], [(0, .box 24 [.ro t 5 (ps.map eP), .r (.int .i64 root)]), (1, .box 24 [.r (.slice none 0 0), .r (.int .i64 0)]), (2, .box 24 [.s 3 0 i, .r (.int .i64 root)]), (3, .lst 52 5 ((ps.take i).map eP)), (4, .box 52 (eP p)), (5, .box 52 [.r (.bool p.leaf), .s 6 0 (p.keys.length), .s 7 0 (k), .ro true 1 (p.high.map eByte), .r (.int .i64 p.next)]), (6, .lst 30 1 (p.keys.map eKy)), (7, .lst 3 1 ((p.kids.take k).map eI))], 8⟩) (fun k => k ≤ p.kids.length) (fun k => p.kids.length - k) 0 ?_ ?_ ?_
      · exact Nat.zero_le _
      · (refine emb [0, 1, 2, 3, 4, 5, 6, 7] ?_ ?_ rfl ?_ ?_ ?_ ?_ <;> simp [okM, okO, lk, ren, renL, renNd, by_, hE, eP] <;> (try omega) <;> (try (intro i hi; first | (rcases i with _ | _ | i; rfl; rfl; (exfalso; omega)) | (rcases i with _ | _ | _ | i; rfl; rfl; rfl; (exfalso; omega)) | (rcases i with _ | _ | _ | _ | i; rfl; rfl; rfl; rfl; (exfalso; omega)) | (rcases i with _ | _ | _ | _ | _ | i; rfl; rfl; rfl; rfl; rfl; (exfalso; omega)) | (rcases i with _ | _ | _ | _ | _ | _ | i; rfl; rfl; rfl; rfl; rfl; rfl; (exfalso; omega)))))
      intro k hk
      by_cases hkl : k < p.kids.length
      · have zk : ((k : Int) < (p.kids.length : Int)) = True := eq_true (by omega)
        obtain ⟨x, hx⟩ : ∃ x, p.kids[k]? = some x := ⟨p.kids[k], by simp [hkl]⟩
        have htk : p.kids.take (k + 1) = p.kids.take k ++ [x] := by rw [List.take_add_one, hx]; rfl
        have hl : (p.kids.take k).length = k := by rw [List.length_take]; omega
        (repeat' (first | refine awp_seq ?_ | refine awp_block ?_ | refine awp_skip ?_ | refine awp_exit ?_ | ((first | refine rR (fun K kp hK hkp => ?_) | refine rX (id := 15) mixed [7] 9 [0,1,2,3,4,5,6,7,8] (fun K kp hK hkp => ?_) | refine iG ?_ | refine iD ?_); simp (implicitDefEqProofs := false) (maxSteps := 2000000) (disch := omega) only [go_sem, zk, hx, eP, eI, hl, Value.oneCell']; (repeat' (first | (refine hK _ ?_; clear hK hkp kp K) | (with_reducible refine And.intro ?_ ?_) | omega))) | ((first | refine aG (fun h => ?_) (fun h => ?_) | refine aD (fun h => ?_) (fun h => ?_) | refine aX (fun h => ?_) (fun h => ?_)) <;> simp only [h]) | refine awp_cond_t rfl ?_ | refine awp_cond_f rfl ?_ | ((refine awp_cond rfl (fun h => ?_) (fun h => ?_) <;> try simp only [ifs] at h) <;> (try (exfalso; omega))) | refine awp_ret ?_))
        ((first | (refine nextB (k + 1) ?_ ?_ ?_) | (refine nextA (k + 1) ?_ ?_ ?_) | (refine nextE (k + 1) ?_ ?_ ?_)); rotate_left; (· (try dsimp only); (first | omega | (simp only [List.length_drop, List.length_cons, List.length_append]; omega) | (simp; done) | (simp; omega))); (· (refine emb [0, 1, 2, 3, 4, 5, 6, 9] ?_ ?_ rfl ?_ ?_ ?_ ?_ <;> simp [okM, okO, lk, ren, renL, renNd, by_, hE, htk, eI, eP, List.take_take, Nat.min_self] <;> (try omega) <;> (try (intro i hi; first | (rcases i with _ | _ | i; rfl; rfl; (exfalso; omega)) | (rcases i with _ | _ | _ | i; rfl; rfl; rfl; (exfalso; omega)) | (rcases i with _ | _ | _ | _ | i; rfl; rfl; rfl; rfl; (exfalso; omega)) | (rcases i with _ | _ | _ | _ | _ | i; rfl; rfl; rfl; rfl; rfl; (exfalso; omega)) | (rcases i with _ | _ | _ | _ | _ | _ | i; rfl; rfl; rfl; rfl; rfl; rfl; (exfalso; omega)))))))
        omega
      · obtain rfl : k = p.kids.length := by omega
        rw [List.take_length]
        have hl : (ps.take i).length = i := by rw [List.length_take]; omega
        have ht : ps.take (i + 1) = ps.take i ++ [p] := by rw [List.take_add_one, hp]; rfl
        (repeat' (first | refine awp_seq ?_ | refine awp_block ?_ | refine awp_skip ?_ | refine awp_exit ?_ | ((first | refine rR (fun K kp hK hkp => ?_) | refine rD (id := 15) mixed 8 [0,1,2,3,4,5,6,7] (fun K kp hK hkp => ?_) | refine iG ?_ | refine iD ?_); simp (implicitDefEqProofs := false) (maxSteps := 2000000) (disch := omega) only [go_sem, eP, hl]; (repeat' (first | (refine hK _ ?_; clear hK hkp kp K) | (with_reducible refine And.intro ?_ ?_) | omega))) | ((first | refine aG (fun h => ?_) (fun h => ?_) | refine aD (fun h => ?_) (fun h => ?_) | refine aX (fun h => ?_) (fun h => ?_)) <;> simp only [h]) | refine awp_cond_t rfl ?_ | refine awp_cond_f rfl ?_ | ((refine awp_cond rfl (fun h => ?_) (fun h => ?_) <;> try simp only [ifs] at h) <;> (try (exfalso; omega))) | refine awp_ret ?_))
        ((first | (refine nextB (i + 1) ?_ ?_ ?_) | (refine nextA (i + 1) ?_ ?_ ?_) | (refine nextE (i + 1) ?_ ?_ ?_)); rotate_left; (· (try dsimp only); (first | omega | (simp only [List.length_drop, List.length_cons, List.length_append]; omega) | (simp; done) | (simp; omega))); (· (refine emb [0, 1, 2, 9] ?_ ?_ rfl ?_ ?_ ?_ ?_ <;> simp [okM, okO, lk, ren, renL, renNd, by_, hE, ht, eP, List.take_take, Nat.min_self] <;> (try omega) <;> (try (intro i hi; first | (rcases i with _ | _ | i; rfl; rfl; (exfalso; omega)) | (rcases i with _ | _ | _ | i; rfl; rfl; rfl; (exfalso; omega)) | (rcases i with _ | _ | _ | _ | i; rfl; rfl; rfl; rfl; (exfalso; omega)) | (rcases i with _ | _ | _ | _ | _ | i; rfl; rfl; rfl; rfl; rfl; (exfalso; omega)) | (rcases i with _ | _ | _ | _ | _ | _ | i; rfl; rfl; rfl; rfl; rfl; rfl; (exfalso; omega)))))))
        omega
  · obtain rfl : i = ps.length := by omega
    rw [List.take_length]
    (repeat' (first | refine awp_seq ?_ | refine awp_block ?_ | refine awp_skip ?_ | refine awp_exit ?_ | ((first | refine rR (fun K kp hK hkp => ?_) | refine rD (id := 15) mixed 8 [0,1,2,3,4,5,6,7] (fun K kp hK hkp => ?_) | refine iG ?_ | refine iD ?_); simp (implicitDefEqProofs := false) (maxSteps := 2000000) (disch := omega) only [go_sem]; (repeat' (first | (refine hK _ ?_; clear hK hkp kp K) | (with_reducible refine And.intro ?_ ?_) | omega))) | ((first | refine aG (fun h => ?_) (fun h => ?_) | refine aD (fun h => ?_) (fun h => ?_) | refine aX (fun h => ?_) (fun h => ?_)) <;> simp only [h]) | refine awp_cond_t rfl ?_ | refine awp_cond_f rfl ?_ | ((refine awp_cond rfl (fun h => ?_) (fun h => ?_) <;> try simp only [ifs] at h) <;> (try (exfalso; omega))) | refine awp_ret ?_))
    (refine retA_is (by (simp (implicitDefEqProofs := false) (maxSteps := 2000000) (disch := omega) only [go_sem, Go.Proofs.Try.results26]); rfl) ?_; refine embS_frz (by simp only [oneA]; simp (implicitDefEqProofs := false) (maxSteps := 2000000) (disch := omega) only [go_sem]; rfl) ?_; refine (embV_nil hE (by simp) ?_).s; simp [oneA, ren, renL])
end Go.AM
/- The law TreeChecks. -/
namespace Go.AM
open Go Go.RowKit
attribute [local irreducible] AWP retA
theorem trees_con (G : List (Nat × List Value)) (t : Bool) (ps : List PG) (root : Int) (ho : okPs2 ps) : Con Go.Proofs.Try.prog G 9 [.agg [.ro t 5 (ps.map eP), .r (.int .i64 root)]] [] 0 (Is (.agg [.ro true 5 (ps.map eP), .r (.int .i64 root)]) [] 0) No := by
  have tc := treeCopy_con G t ps root ho
  refine con_of_awp Go.Proofs.Try.func9 rfl (by kernel_rfl) (of_decide_eq_true (by kernel_rfl)) ?_; intro E hG hE; subst hG; simp only [ent]
  (repeat' (first | refine awp_seq ?_ | refine awp_block ?_ | refine awp_skip ?_ | refine awp_exit ?_ | ((first | refine rR (fun K kp hK hkp => ?_) | refine cR tc ?_ | refine iG ?_); simp (implicitDefEqProofs := false) (maxSteps := 2000000) (disch := omega) only [go_sem, eP]; (repeat' (first | (refine hK _ ?_; clear hK hkp kp K) | (with_reducible refine And.intro ?_ ?_) | omega))) | ((first | refine aG (fun h => ?_) (fun h => ?_) | refine aD (fun h => ?_) (fun h => ?_) | refine aX (fun h => ?_) (fun h => ?_)) <;> simp only [h]) | refine awp_cond_t rfl ?_ | refine awp_cond_f rfl ?_ | ((refine awp_cond rfl (fun h => ?_) (fun h => ?_) <;> try simp only [ifs] at h) <;> (try (exfalso; omega))) | refine awp_ret ?_))
  (refine retA_is (by (simp (implicitDefEqProofs := false) (maxSteps := 2000000) (disch := omega) only [go_sem, Go.Proofs.Try.results9]); rfl) ?_; refine eN hE ?_; simp [oneA, ren, renL])
theorem okPs_of {ps : List PG} (h : okPs2 ps) : okPs ps := fun p hp => ⟨(h.2 p hp).1, (h.2 p hp).2.1⟩
set_option maxRecDepth 100000 in
set_option maxHeartbeats 4000000 in
theorem lawChecks_con (G : List (Nat × List Value)) (ps : List PG) (root : Int) (ho : okPs2 ps) : Con Go.Proofs.Try.prog G 3 [.agg [.ro true 5 (ps.map eP), .r (.int .i64 root)]] [] 0 (Is (.r (.bool true)) [] 0) No := by
  have tc := trees_con G true ps root ho
  have cc := check_con2 G ps root (okPs_of ho)
  have fc := treeFault_con G true ps root (okPs_of ho) ho.1
  have sc := sameTree_con G true true ps root ho
  rw [chk_flt] at cc
  refine con_of_awp Go.Proofs.Try.func3 rfl (by kernel_rfl) (of_decide_eq_true (by kernel_rfl)) ?_; intro E hG hE; subst hG; simp only [ent]
  (repeat' (first | refine awp_seq ?_ | refine awp_block ?_ | refine awp_skip ?_ | refine awp_exit ?_ | ((first | refine rR (fun K kp hK hkp => ?_) | refine cR tc ?_ | refine cR cc ?_ | refine cR fc ?_ | refine cR sc ?_ | refine iG ?_); simp (implicitDefEqProofs := false) (maxSteps := 2000000) (disch := omega) only [go_sem, beq_self_eq_true]; (repeat' (first | (refine hK _ ?_; clear hK hkp kp K) | (with_reducible refine And.intro ?_ ?_) | omega))) | ((first | refine aG (fun h => ?_) (fun h => ?_) | refine aD (fun h => ?_) (fun h => ?_) | refine aX (fun h => ?_) (fun h => ?_)) <;> simp only [h]) | refine awp_cond_t rfl ?_ | refine awp_cond_f rfl ?_ | ((refine awp_cond rfl (fun h => ?_) (fun h => ?_) <;> try simp only [ifs] at h) <;> (try (exfalso; omega))) | refine awp_ret ?_))
  (refine retA_is (by (simp (implicitDefEqProofs := false) (maxSteps := 2000000) (disch := omega) only [go_sem, Go.Proofs.Try.results3]); rfl) ?_; refine eN hE ?_; simp [oneA, ren, renL])
end Go.AM
/- Trees: all entries, in order: the reference's walk. -/
namespace Go.AM
open Go Go.RowKit
attribute [local irreducible] AWP retA
def eEt (e : Et) : List AV := [.ro true 1 (e.1.map eByte), .r (.int .i64 e.2)]
@[simp] theorem ptA_eEt (a : Et) : (∀ x, x ∈ eEt a → PT x) = True := eq_true (by intro x hx; simp [eEt] at hx; rcases hx with rfl | rfl <;> simp)
instance : PTf eEt := ⟨fun a => of_eq_true (ptA_eEt a)⟩
set_option maxRecDepth 100000 in
set_option maxHeartbeats 4000000 in
theorem entries_con (t : Bool) (ps : List PG) (root : Int) (hp : AllOK ps) (ho : okPs2 ps) (hin : ∀ i x, x ∈ kidsOf ps i → x < ps.length) (hn : ps.length ≤ 4000) : ∀ (d i : Nat) (low high : Ky), Good ps d i low high → i < ps.length → (lvl ps d [i]).length ≤ 4000 →
    ∀ (G : List (Nat × List Value)), Con Go.Proofs.Try.prog G 54 [.agg [.ro t 5 (ps.map eP), .r (.int .i64 root)], .r (.int .i64 i)] [] 0 (Is (.ro true 2 ((entsF ps d i).map eEt)) [] 0) No := by
  intro d
  induction d with
  | zero =>
    intro i low high hg hi hl G
    have hlf := hg.1
    have hpx := pg_in hi
    have hok := hp _ _ hpx
    obtain ⟨o1, o2, o3, o4⟩ := ho.2 _ (List.mem_of_getElem? hpx)
    have he : entsF ps 0 i = (pg ps i).keys.zip (pg ps i).kids := by simp [entsF, lvl, entL]
    rw [he]
    generalize pg ps i = p at *
    have hkl := hok.kl hlf
    have h4 := hok.nk
    refine con_of_awp Go.Proofs.Try.func54 rfl (by kernel_rfl) (of_decide_eq_true (by kernel_rfl)) ?_; intro E hG hE; subst hG; simp only [ent]
    (repeat' (first | refine awp_seq ?_ | refine awp_block ?_ | refine awp_skip ?_ | refine awp_exit ?_ | ((first | refine rR (fun K kp hK hkp => ?_) | refine rD (id := 7) mixed 14 [0,1,2,3,4,5,7,8,9,10,11,6,12,13] (fun K kp hK hkp => ?_) | refine rD (id := 8) mixed 8 [0,1,2,3,4,5,6,7] (fun K kp hK hkp => ?_) | refine iG ?_ | refine iD ?_); simp (implicitDefEqProofs := false) (maxSteps := 2000000) (disch := omega) only [go_sem, hpx, eP, hlf]; (repeat' (first | (refine hK _ ?_; clear hK hkp kp K) | (with_reducible refine And.intro ?_ ?_) | omega))) | ((first | refine aG (fun h => ?_) (fun h => ?_) | refine aD (fun h => ?_) (fun h => ?_) | refine aX (fun h => ?_) (fun h => ?_)) <;> simp only [h]) | refine awp_cond_t rfl ?_ | refine awp_cond_f rfl ?_ | ((refine awp_cond rfl (fun h => ?_) (fun h => ?_) <;> try simp only [ifs] at h) <;> (try (exfalso; omega))) | refine awp_ret ?_))
    (refine AWP.emb (emb_nil 6 36 2 ?_) ?_; (· rfl); dsimp only)
    refine awp_loop (fun j : Nat => ⟨[(7, .r (.int .i64 j)), (6, .s 2 0 j), (5, .p 1 0 0), (2, .p 0 0 0)], [(0, .box 24 [.ro t 5 (ps.map eP), .r (.int .i64 root)]), (1, .box 52 [.r (.bool true), .ro true 1 (p.keys.map eKy), .ro true 1 (p.kids.map eI), .ro true 1 (p.high.map eByte), .r (.int .i64 p.next)]), (2, .lst 36 2 (((p.keys.zip p.kids).take j).map eEt))], 3⟩) (fun j => j ≤ p.keys.length) (fun j => p.keys.length - j) 0 ?_ ?_ ?_
    · exact Nat.zero_le _
    · (refine emb [0, 1, 2] ?_ ?_ rfl ?_ ?_ ?_ ?_ <;> simp [okM, okO, lk, ren, renL, renNd, by_, hE] <;> (try omega) <;> (try (intro i hi; first | (rcases i with _ | _ | i; rfl; rfl; (exfalso; omega)) | (rcases i with _ | _ | _ | i; rfl; rfl; rfl; (exfalso; omega)) | (rcases i with _ | _ | _ | _ | i; rfl; rfl; rfl; rfl; (exfalso; omega)) | (rcases i with _ | _ | _ | _ | _ | i; rfl; rfl; rfl; rfl; rfl; (exfalso; omega)) | (rcases i with _ | _ | _ | _ | _ | _ | i; rfl; rfl; rfl; rfl; rfl; rfl; (exfalso; omega)))))
    intro j hj
    by_cases hlt : j < p.keys.length
    · have zj : ((j : Int) < (p.kids.length : Int)) = True := eq_true (by omega)
      obtain ⟨x, hx⟩ : ∃ x, p.keys[j]? = some x := ⟨_, List.getElem?_eq_getElem hlt⟩
      obtain ⟨y, hy⟩ : ∃ y, p.kids[j]? = some y := ⟨_, List.getElem?_eq_getElem (by omega)⟩
      have bc := bytesCopy_con E.G true x (o4 x (List.mem_of_getElem? hx))
      have hz : (p.keys.zip p.kids)[j]? = some (x, y) := List.getElem?_zip_eq_some.2 ⟨hx, hy⟩
      have htk : (p.keys.zip p.kids).take (j + 1) = (p.keys.zip p.kids).take j ++ [(x, y)] := by rw [List.take_add_one, hz]; rfl
      have hlj : ((p.keys.zip p.kids).take j).length = j := by rw [List.length_take, List.length_zip]; omega
      (repeat' (first | refine awp_seq ?_ | refine awp_block ?_ | refine awp_skip ?_ | refine awp_exit ?_ | ((first | refine rR (fun K kp hK hkp => ?_) | refine rD (id := 7) mixed 14 [0,1,2,3,4,5,7,8,9,10,11,6,12,13] (fun K kp hK hkp => ?_) | refine rD (id := 8) mixed 8 [0,1,2,3,4,5,6,7] (fun K kp hK hkp => ?_) | refine cR bc ?_ | refine cD bc ?_ | refine iG ?_ | refine iD ?_); simp (implicitDefEqProofs := false) (maxSteps := 2000000) (disch := omega) only [go_sem, zj, hx, hy, hlj, eKy, eI, eEt]; (repeat' (first | (refine hK _ ?_; clear hK hkp kp K) | (with_reducible refine And.intro ?_ ?_) | omega))) | ((first | refine aG (fun h => ?_) (fun h => ?_) | refine aD (fun h => ?_) (fun h => ?_) | refine aX (fun h => ?_) (fun h => ?_)) <;> simp only [h]) | refine awp_cond_t rfl ?_ | refine awp_cond_f rfl ?_ | ((refine awp_cond rfl (fun h => ?_) (fun h => ?_) <;> try simp only [ifs] at h) <;> (try (exfalso; omega))) | refine awp_ret ?_))
      ((first | (refine nextB (j + 1) ?_ ?_ ?_) | (refine nextA (j + 1) ?_ ?_ ?_) | (refine nextE (j + 1) ?_ ?_ ?_)); rotate_left; (· (try dsimp only); (first | omega | (simp only [List.length_drop, List.length_cons, List.length_append]; omega) | (simp; done) | (simp; omega))); (· (refine emb [0, 1, 4] ?_ ?_ rfl ?_ ?_ ?_ ?_ <;> simp [okM, okO, lk, ren, renL, renNd, by_, hE, htk, eEt, List.take_take, Nat.min_self] <;> (try omega) <;> (try (intro i hi; first | (rcases i with _ | _ | i; rfl; rfl; (exfalso; omega)) | (rcases i with _ | _ | _ | i; rfl; rfl; rfl; (exfalso; omega)) | (rcases i with _ | _ | _ | _ | i; rfl; rfl; rfl; rfl; (exfalso; omega)) | (rcases i with _ | _ | _ | _ | _ | i; rfl; rfl; rfl; rfl; rfl; (exfalso; omega)) | (rcases i with _ | _ | _ | _ | _ | _ | i; rfl; rfl; rfl; rfl; rfl; rfl; (exfalso; omega)))))))
      omega
    · obtain rfl : j = p.keys.length := by omega
      have zj : ((p.keys.length : Int) < (p.kids.length : Int)) = False := eq_false (by omega)
      have htk : (p.keys.zip p.kids).take p.keys.length = p.keys.zip p.kids := List.take_of_length_le (by rw [List.length_zip]; omega)
      rw [htk]
      have hzl : (p.keys.zip p.kids).length = p.keys.length := by rw [List.length_zip]; omega
      (repeat' (first | refine awp_seq ?_ | refine awp_block ?_ | refine awp_skip ?_ | refine awp_exit ?_ | ((first | refine rR (fun K kp hK hkp => ?_) | refine rD (id := 7) mixed 14 [0,1,2,3,4,5,7,8,9,10,11,6,12,13] (fun K kp hK hkp => ?_) | refine rD (id := 8) mixed 8 [0,1,2,3,4,5,6,7] (fun K kp hK hkp => ?_) | refine iG ?_ | refine iD ?_); simp (implicitDefEqProofs := false) (maxSteps := 2000000) (disch := omega) only [go_sem, zj]; (repeat' (first | (refine hK _ ?_; clear hK hkp kp K) | (with_reducible refine And.intro ?_ ?_) | omega))) | ((first | refine aG (fun h => ?_) (fun h => ?_) | refine aD (fun h => ?_) (fun h => ?_) | refine aX (fun h => ?_) (fun h => ?_)) <;> simp only [h]) | refine awp_cond_t rfl ?_ | refine awp_cond_f rfl ?_ | ((refine awp_cond rfl (fun h => ?_) (fun h => ?_) <;> try simp only [ifs] at h) <;> (try (exfalso; omega))) | refine awp_ret ?_))
      (refine retA_is (by (simp (implicitDefEqProofs := false) (maxSteps := 2000000) (disch := omega) only [go_sem, Go.Proofs.Try.results54, hzl]); rfl) ?_; refine embS_frz (by simp only [oneA]; simp (implicitDefEqProofs := false) (maxSteps := 2000000) (disch := omega) only [go_sem, hzl]; rfl) ?_; refine (embV_nil hE (by simp) ?_).s; simp [oneA, ren, renL, hzl])
      exact List.take_of_length_le (by simp [hkl])
  | succ d ih =>
    intro i low high hg hi hl G
    have hlf := hg.1
    have hks := hg.2.2.2
    have hpx := pg_in hi
    have hok := hp _ _ hpx
    have hkd : ∀ (j kid : Nat), (kidsOf ps i)[j]? = some kid → (pg ps i).kids[j]? = some (kid : Int) := fun j kid h => by
      rw [kidsOf, if_neg (by simp [hlf]), List.getElem?_map, Option.map_eq_some_iff] at h
      obtain ⟨y, hy, rfl⟩ := h
      have h0 := (hok.kd j (List.getElem?_eq_some_iff.1 hy).1).1
      rw [List.getD_eq_getElem?_getD, hy] at h0
      have h0 : 0 ≤ y := h0
      rw [hy]; congr 1; omega
    have hkn : (kidsOf ps i).length = (pg ps i).kids.length := by rw [kidsOf, if_neg (by simp [hlf]), List.length_map]
    have hL : lvl ps (d + 1) [i] = lvl ps d (kidsOf ps i) := lvl_one _ _ _
    have hK : ∀ kid, kid ∈ kidsOf ps i → kid < ps.length := fun kid h => hin i kid h
    have hF : entsF ps (d + 1) i = (lvl ps d (kidsOf ps i)).flatMap (entL ps) := by rw [entsF, hL]
    rw [hF]
    rw [hL] at hl
    generalize pg ps i = p at hpx hok hkd hkn hlf hks
    generalize kidsOf ps i = ks at *
    have hki := hok.ki hlf
    have h4 := hok.nk
    have hcl : ∀ j, ((lvl ps d (ks.take j)).flatMap (entL ps)).length ≤ 16000 := fun j => by
      have h1 := flatE_len hp (lvl ps d (ks.take j))
      have h2 : (lvl ps d (ks.take j)).length ≤ (lvl ps d ks).length := by
        conv => rhs; rw [← List.take_append_drop j ks, lvl_append, List.length_append]
        omega
      omega
    refine con_of_awp Go.Proofs.Try.func54 rfl (by kernel_rfl) (of_decide_eq_true (by kernel_rfl)) ?_; intro E hG hE; subst hG; simp only [ent]
    (repeat' (first | refine awp_seq ?_ | refine awp_block ?_ | refine awp_skip ?_ | refine awp_exit ?_ | ((first | refine rR (fun K kp hK hkp => ?_) | refine rD (id := 7) mixed 14 [0,1,2,3,4,5,7,8,9,10,11,6,12,13] (fun K kp hK hkp => ?_) | refine rD (id := 8) mixed 8 [0,1,2,3,4,5,6,7] (fun K kp hK hkp => ?_) | refine iG ?_ | refine iD ?_); simp (implicitDefEqProofs := false) (maxSteps := 2000000) (disch := omega) only [go_sem, hpx, eP, hlf]; (repeat' (first | (refine hK _ ?_; clear hK hkp kp K) | (with_reducible refine And.intro ?_ ?_) | omega))) | ((first | refine aG (fun h => ?_) (fun h => ?_) | refine aD (fun h => ?_) (fun h => ?_) | refine aX (fun h => ?_) (fun h => ?_)) <;> simp only [h]) | refine awp_cond_t rfl ?_ | refine awp_cond_f rfl ?_ | ((refine awp_cond rfl (fun h => ?_) (fun h => ?_) <;> try simp only [ifs] at h) <;> (try (exfalso; omega))) | refine awp_ret ?_))
    (refine AWP.emb (emb_nil 6 36 2 ?_) ?_; (· rfl); dsimp only)
    refine awp_loop (fun j : Nat => ⟨[(7, .r (.int .i64 j)), (6, .s 2 0 ((lvl ps d (ks.take j)).flatMap (entL ps)).length), (5, .p 1 0 0), (2, .p 0 0 0)], [(0, .box 24 [.ro t 5 (ps.map eP), .r (.int .i64 root)]), (1, .box 52 [.r (.bool false), .ro true 1 (p.keys.map eKy), .ro true 1 (p.kids.map eI), .ro true 1 (p.high.map eByte), .r (.int .i64 p.next)]), (2, .lst 36 2 (((lvl ps d (ks.take j)).flatMap (entL ps)).map eEt))], 3⟩) (fun j => j ≤ ks.length) (fun j => ks.length - j) 0 ?_ ?_ ?_
    · exact Nat.zero_le _
    · have hl0 : lvl ps d [] = [] := lvl_nil ps d
      (refine emb [0, 1, 2] ?_ ?_ rfl ?_ ?_ ?_ ?_ <;> simp [okM, okO, lk, ren, renL, renNd, by_, hE, hl0] <;> (try omega) <;> (try (intro i hi; first | (rcases i with _ | _ | i; rfl; rfl; (exfalso; omega)) | (rcases i with _ | _ | _ | i; rfl; rfl; rfl; (exfalso; omega)) | (rcases i with _ | _ | _ | _ | i; rfl; rfl; rfl; rfl; (exfalso; omega)) | (rcases i with _ | _ | _ | _ | _ | i; rfl; rfl; rfl; rfl; rfl; (exfalso; omega)) | (rcases i with _ | _ | _ | _ | _ | _ | i; rfl; rfl; rfl; rfl; rfl; rfl; (exfalso; omega)))))
    intro j hj
    by_cases hlt : j < ks.length
    · have zj : ((j : Int) < (p.kids.length : Int)) = True := eq_true (by omega)
      obtain ⟨kid, hkj⟩ : ∃ kid, ks[j]? = some kid := ⟨_, List.getElem?_eq_getElem hlt⟩
      have hy := hkd j kid hkj
      have hlk : (lvl ps d [kid]).length ≤ 4000 := by
        have := congrArg List.length (lvl_split (ps := ps) d hkj)
        simp only [List.length_append] at this; omega
      have rc := ih kid _ _ (hks j kid hkj) (hK kid (List.mem_of_getElem? hkj)) hlk E.G
      have htk : (lvl ps d (ks.take (j + 1))).flatMap (entL ps) = (lvl ps d (ks.take j)).flatMap (entL ps) ++ entsF ps d kid := by rw [List.take_add_one, hkj, entsF, ← List.flatMap_append, ← lvl_append]; rfl
      have hc1 := hcl j
      have hc2 := hcl (j + 1)
      rw [htk, List.length_append] at hc2
      generalize (lvl ps d (ks.take j)).flatMap (entL ps) = cur at *
      generalize entsF ps d kid = add at *
      (repeat' (first | refine awp_seq ?_ | refine awp_block ?_ | refine awp_skip ?_ | refine awp_exit ?_ | ((first | refine rR (fun K kp hK hkp => ?_) | refine rD (id := 7) mixed 14 [0,1,2,3,4,5,7,8,9,10,11,6,12,13] (fun K kp hK hkp => ?_) | refine rD (id := 8) mixed 8 [0,1,2,3,4,5,6,7] (fun K kp hK hkp => ?_) | refine cR rc ?_ | refine cD rc ?_ | refine iG ?_ | refine iD ?_); simp (implicitDefEqProofs := false) (maxSteps := 2000000) (disch := omega) only [go_sem, zj, hy, eI, eEt]; (repeat' (first | (refine hK _ ?_; clear hK hkp kp K) | (with_reducible refine And.intro ?_ ?_) | omega))) | ((first | refine aG (fun h => ?_) (fun h => ?_) | refine aD (fun h => ?_) (fun h => ?_) | refine aX (fun h => ?_) (fun h => ?_)) <;> simp only [h]) | refine awp_cond_t rfl ?_ | refine awp_cond_f rfl ?_ | ((refine awp_cond rfl (fun h => ?_) (fun h => ?_) <;> try simp only [ifs] at h) <;> (try (exfalso; omega))) | refine awp_ret ?_))
      ((first | (refine nextB (j + 1) ?_ ?_ ?_) | (refine nextA (j + 1) ?_ ?_ ?_) | (refine nextE (j + 1) ?_ ?_ ?_)); rotate_left; (· (try dsimp only); (first | omega | (simp only [List.length_drop, List.length_cons, List.length_append]; omega) | (simp; done) | (simp; omega))); (· (refine emb [0, 1, 3] ?_ ?_ rfl ?_ ?_ ?_ ?_ <;> simp [okM, okO, lk, ren, renL, renNd, by_, hE, htk, eEt, List.take_take, Nat.min_self] <;> (try omega) <;> (try (intro i hi; first | (rcases i with _ | _ | i; rfl; rfl; (exfalso; omega)) | (rcases i with _ | _ | _ | i; rfl; rfl; rfl; (exfalso; omega)) | (rcases i with _ | _ | _ | _ | i; rfl; rfl; rfl; rfl; (exfalso; omega)) | (rcases i with _ | _ | _ | _ | _ | i; rfl; rfl; rfl; rfl; rfl; (exfalso; omega)) | (rcases i with _ | _ | _ | _ | _ | _ | i; rfl; rfl; rfl; rfl; rfl; rfl; (exfalso; omega)))))))
      omega
    · obtain rfl : j = ks.length := by omega
      have zj : ((ks.length : Int) < (p.kids.length : Int)) = False := eq_false (by omega)
      have hcj := hcl ks.length
      rw [List.take_length] at hcj ⊢
      (repeat' (first | refine awp_seq ?_ | refine awp_block ?_ | refine awp_skip ?_ | refine awp_exit ?_ | ((first | refine rR (fun K kp hK hkp => ?_) | refine rD (id := 7) mixed 14 [0,1,2,3,4,5,7,8,9,10,11,6,12,13] (fun K kp hK hkp => ?_) | refine rD (id := 8) mixed 8 [0,1,2,3,4,5,6,7] (fun K kp hK hkp => ?_) | refine iG ?_ | refine iD ?_); simp (implicitDefEqProofs := false) (maxSteps := 2000000) (disch := omega) only [go_sem, zj]; (repeat' (first | (refine hK _ ?_; clear hK hkp kp K) | (with_reducible refine And.intro ?_ ?_) | omega))) | ((first | refine aG (fun h => ?_) (fun h => ?_) | refine aD (fun h => ?_) (fun h => ?_) | refine aX (fun h => ?_) (fun h => ?_)) <;> simp only [h]) | refine awp_cond_t rfl ?_ | refine awp_cond_f rfl ?_ | ((refine awp_cond rfl (fun h => ?_) (fun h => ?_) <;> try simp only [ifs] at h) <;> (try (exfalso; omega))) | refine awp_ret ?_))
      (refine retA_is (by (simp (implicitDefEqProofs := false) (maxSteps := 2000000) (disch := omega) only [go_sem, Go.Proofs.Try.results54]); rfl) ?_; refine embS_frz (by simp only [oneA]; simp (implicitDefEqProofs := false) (maxSteps := 2000000) (disch := omega) only [go_sem]; rfl) ?_; refine (embV_nil hE (by simp) ?_).s; simp [oneA, ren, renL])
end Go.AM
/- tree.Find and FoundIn; the law TreeFinds. -/
namespace Go.AM
open Go Go.RowKit
attribute [local irreducible] AWP retA
theorem octetsT_con (G : List (Nat × List Value)) (t : Bool) (l : Ky) (hl : l.length ≤ 140737488351232) : Con Go.Proofs.Try.prog G 14 [.ro t 1 (l.map eByte)] [] 0 (Is (.ro true 1 (l.map eByte)) [] 0) No := by
  refine con_of_awp Go.Proofs.Try.func14 rfl (by kernel_rfl) (of_decide_eq_true (by kernel_rfl)) ?_; intro E hG hE; subst hG; simp only [ent]
  (repeat' (first | refine awp_seq ?_ | refine awp_block ?_ | refine awp_skip ?_ | refine awp_exit ?_ | ((first | refine rR (fun K kp hK hkp => ?_) | refine iG ?_); simp (implicitDefEqProofs := false) (maxSteps := 2000000) (disch := omega) only [go_sem]; (repeat' (first | (refine hK _ ?_; clear hK hkp kp K) | (with_reducible refine And.intro ?_ ?_) | omega))) | ((first | refine aG (fun h => ?_) (fun h => ?_) | refine aD (fun h => ?_) (fun h => ?_) | refine aX (fun h => ?_) (fun h => ?_)) <;> simp only [h]) | refine awp_cond_t rfl ?_ | refine awp_cond_f rfl ?_ | ((refine awp_cond rfl (fun h => ?_) (fun h => ?_) <;> try simp only [ifs] at h) <;> (try (exfalso; omega))) | refine awp_ret ?_))
  (refine retA_is (by (simp (implicitDefEqProofs := false) (maxSteps := 2000000) (disch := omega) only [go_sem, Go.Proofs.Try.results14]); rfl) ?_; refine embS_frz (by simp only [oneA]; simp (implicitDefEqProofs := false) (maxSteps := 2000000) (disch := omega) only [go_sem]; rfl) ?_; refine (embV_nil hE (by simp) ?_).s; simp [oneA, ren, renL])
noncomputable def askM (ps : List PG) (root : Int) (k : Ky) : Int := if chkR ps root ≠ 0 then chkR ps root else if keyB k = true then 0 else 1
theorem checked_con (G : List (Nat × List Value)) (t : Bool) (ps : List PG) (root : Int) (k : Ky) (ho : okPs2 ps) : Con Go.Proofs.Try.prog G 34 [.agg [.ro true 5 (ps.map eP), .r (.int .i64 root)], .ro t 1 (k.map eByte)] [] 0 (Is (.r (.int .i64 (askM ps root k))) [] 0) No := by
  have cc := check_con2 G ps root (okPs_of ho)
  obtain ⟨c, hc⟩ : ∃ c, chkR ps root = c := ⟨_, rfl⟩
  rw [askM]
  rw [hc] at cc ⊢
  refine con_of_awp Go.Proofs.Try.func34 rfl (by kernel_rfl) (of_decide_eq_true (by kernel_rfl)) ?_; intro E hG hE; subst hG; simp only [ent]
  by_cases h0 : c = 0
  · subst h0
    cases hk : keyB k
    · have kc := key_con E.G t k
      rw [hk] at kc
      (repeat' (first | refine awp_seq ?_ | refine awp_block ?_ | refine awp_skip ?_ | refine awp_exit ?_ | ((first | refine rR (fun K kp hK hkp => ?_) | refine cR cc ?_ | refine cR kc ?_ | refine iG ?_); simp (implicitDefEqProofs := false) (maxSteps := 2000000) (disch := omega) only [go_sem, bne_self_eq_false]; (repeat' (first | (refine hK _ ?_; clear hK hkp kp K) | (with_reducible refine And.intro ?_ ?_) | omega))) | ((first | refine aG (fun h => ?_) (fun h => ?_) | refine aD (fun h => ?_) (fun h => ?_) | refine aX (fun h => ?_) (fun h => ?_)) <;> simp only [h]) | refine awp_cond_t rfl ?_ | refine awp_cond_f rfl ?_ | ((refine awp_cond rfl (fun h => ?_) (fun h => ?_) <;> try simp only [ifs] at h) <;> (try (exfalso; omega))) | refine awp_ret ?_))
      (refine retA_is (by (simp (implicitDefEqProofs := false) (maxSteps := 2000000) (disch := omega) only [go_sem, Go.Proofs.Try.results34]); rfl) ?_; refine eN hE ?_; simp [oneA, ren, renL])
    · have kc := key_con E.G t k
      rw [hk] at kc
      (repeat' (first | refine awp_seq ?_ | refine awp_block ?_ | refine awp_skip ?_ | refine awp_exit ?_ | ((first | refine rR (fun K kp hK hkp => ?_) | refine cR cc ?_ | refine cR kc ?_ | refine iG ?_); simp (implicitDefEqProofs := false) (maxSteps := 2000000) (disch := omega) only [go_sem, bne_self_eq_false]; (repeat' (first | (refine hK _ ?_; clear hK hkp kp K) | (with_reducible refine And.intro ?_ ?_) | omega))) | ((first | refine aG (fun h => ?_) (fun h => ?_) | refine aD (fun h => ?_) (fun h => ?_) | refine aX (fun h => ?_) (fun h => ?_)) <;> simp only [h]) | refine awp_cond_t rfl ?_ | refine awp_cond_f rfl ?_ | ((refine awp_cond rfl (fun h => ?_) (fun h => ?_) <;> try simp only [ifs] at h) <;> (try (exfalso; omega))) | refine awp_ret ?_))
      (refine retA_is (by (simp (implicitDefEqProofs := false) (maxSteps := 2000000) (disch := omega) only [go_sem, Go.Proofs.Try.results34]); rfl) ?_; refine eN hE ?_; simp [oneA, ren, renL])
  · have z0 : (c != 0) = true := by simp [h0]
    (repeat' (first | refine awp_seq ?_ | refine awp_block ?_ | refine awp_skip ?_ | refine awp_exit ?_ | ((first | refine rR (fun K kp hK hkp => ?_) | refine cR cc ?_ | refine iG ?_); simp (implicitDefEqProofs := false) (maxSteps := 2000000) (disch := omega) only [go_sem, z0]; (repeat' (first | (refine hK _ ?_; clear hK hkp kp K) | (with_reducible refine And.intro ?_ ?_) | omega))) | ((first | refine aG (fun h => ?_) (fun h => ?_) | refine aD (fun h => ?_) (fun h => ?_) | refine aX (fun h => ?_) (fun h => ?_)) <;> simp only [h]) | refine awp_cond_t rfl ?_ | refine awp_cond_f rfl ?_ | ((refine awp_cond rfl (fun h => ?_) (fun h => ?_) <;> try simp only [ifs] at h) <;> (try (exfalso; omega))) | refine awp_ret ?_))
    (refine retA_is (by (simp (implicitDefEqProofs := false) (maxSteps := 2000000) (disch := omega) only [go_sem, Go.Proofs.Try.results34, h0]); rfl) ?_; refine eN hE ?_; simp [oneA, ren, renL, h0])
theorem treeAndKey_con (G : List (Nat × List Value)) (t u : Bool) (ps : List PG) (root : Int) (k : Ky) (ho : okPs2 ps) : Con Go.Proofs.Try.prog G 36 [.agg [.ro u 5 (ps.map eP), .r (.int .i64 root)], .ro t 1 (k.map eByte)] [] 0 (Is (.r (.int .i64 (askM ps root k))) [] 0) No := by
  have cc := treeFault_con G u ps root (okPs_of ho) ho.1
  obtain ⟨c, hc⟩ : ∃ c, chkR ps root = c := ⟨_, rfl⟩
  rw [askM]
  rw [← chk_flt, hc] at cc
  rw [hc]
  refine con_of_awp Go.Proofs.Try.func36 rfl (by kernel_rfl) (of_decide_eq_true (by kernel_rfl)) ?_; intro E hG hE; subst hG; simp only [ent]
  by_cases h0 : c = 0
  · subst h0
    cases hk : keyB k
    · have kc := keyMay_con E.G t k
      rw [hk] at kc
      (repeat' (first | refine awp_seq ?_ | refine awp_block ?_ | refine awp_skip ?_ | refine awp_exit ?_ | ((first | refine rR (fun K kp hK hkp => ?_) | refine cR cc ?_ | refine cR kc ?_ | refine iG ?_); simp (implicitDefEqProofs := false) (maxSteps := 2000000) (disch := omega) only [go_sem, beq_self_eq_true]; (repeat' (first | (refine hK _ ?_; clear hK hkp kp K) | (with_reducible refine And.intro ?_ ?_) | omega))) | ((first | refine aG (fun h => ?_) (fun h => ?_) | refine aD (fun h => ?_) (fun h => ?_) | refine aX (fun h => ?_) (fun h => ?_)) <;> simp only [h]) | refine awp_cond_t rfl ?_ | refine awp_cond_f rfl ?_ | ((refine awp_cond rfl (fun h => ?_) (fun h => ?_) <;> try simp only [ifs] at h) <;> (try (exfalso; omega))) | refine awp_ret ?_))
      (refine retA_is (by (simp (implicitDefEqProofs := false) (maxSteps := 2000000) (disch := omega) only [go_sem, Go.Proofs.Try.results36]); rfl) ?_; refine eN hE ?_; simp [oneA, ren, renL])
    · have kc := keyMay_con E.G t k
      rw [hk] at kc
      (repeat' (first | refine awp_seq ?_ | refine awp_block ?_ | refine awp_skip ?_ | refine awp_exit ?_ | ((first | refine rR (fun K kp hK hkp => ?_) | refine cR cc ?_ | refine cR kc ?_ | refine iG ?_); simp (implicitDefEqProofs := false) (maxSteps := 2000000) (disch := omega) only [go_sem, beq_self_eq_true]; (repeat' (first | (refine hK _ ?_; clear hK hkp kp K) | (with_reducible refine And.intro ?_ ?_) | omega))) | ((first | refine aG (fun h => ?_) (fun h => ?_) | refine aD (fun h => ?_) (fun h => ?_) | refine aX (fun h => ?_) (fun h => ?_)) <;> simp only [h]) | refine awp_cond_t rfl ?_ | refine awp_cond_f rfl ?_ | ((refine awp_cond rfl (fun h => ?_) (fun h => ?_) <;> try simp only [ifs] at h) <;> (try (exfalso; omega))) | refine awp_ret ?_))
      (refine retA_is (by (simp (implicitDefEqProofs := false) (maxSteps := 2000000) (disch := omega) only [go_sem, Go.Proofs.Try.results36]); rfl) ?_; refine eN hE ?_; simp [oneA, ren, renL])
  · have z0 : (c == 0) = false := by simp [h0]
    (repeat' (first | refine awp_seq ?_ | refine awp_block ?_ | refine awp_skip ?_ | refine awp_exit ?_ | ((first | refine rR (fun K kp hK hkp => ?_) | refine cR cc ?_ | refine iG ?_); simp (implicitDefEqProofs := false) (maxSteps := 2000000) (disch := omega) only [go_sem, z0]; (repeat' (first | (refine hK _ ?_; clear hK hkp kp K) | (with_reducible refine And.intro ?_ ?_) | omega))) | ((first | refine aG (fun h => ?_) (fun h => ?_) | refine aD (fun h => ?_) (fun h => ?_) | refine aX (fun h => ?_) (fun h => ?_)) <;> simp only [h]) | refine awp_cond_t rfl ?_ | refine awp_cond_f rfl ?_ | ((refine awp_cond rfl (fun h => ?_) (fun h => ?_) <;> try simp only [ifs] at h) <;> (try (exfalso; omega))) | refine awp_ret ?_))
    (refine retA_is (by (simp (implicitDefEqProofs := false) (maxSteps := 2000000) (disch := omega) only [go_sem, Go.Proofs.Try.results36, h0]); rfl) ?_; refine eN hE ?_; simp [oneA, ren, renL, h0])
/-- What is asked of a tree that may be. -/
structure Trd (ps : List PG) (r d : Nat) : Prop where
  ok : AllOK ps
  kin : ∀ i x, x ∈ kidsOf ps i → x < ps.length
  good : Good ps d r [] []
  rl : r < ps.length
  n : ps.length ≤ 4000
  dl : d < ps.length
  tr : TreeOK ps r d
theorem trd_of {ps : List PG} {root : Int} (h : ChkOK ps root) : ∃ r d : Nat, root = r ∧ Trd ps r d := by
  obtain ⟨d, T⟩ := tree_of_chk h
  refine ⟨root.toNat, d, by have := h.r0; omega, h.pg, kids_in h.pg, T.good, by have := h.r0; have := h.r1; omega, h.n2, ?_, T⟩
  have hpm := one_pre ps d root.toNat
  have hd := pre_deep (kids_ne h.pg) d root.toNat [] [] T.good
  rw [hpm.length_eq, T.all] at hd
  omega
theorem lvl_cat (ps : List PG) : ∀ (d : Nat) (l : List Nat), (lvl ps d l).length ≤ (cat ps d l).length
  | 0, l => Nat.le_refl _
  | d + 1, l => by
    have := lvl_cat ps d (l.flatMap (kidsOf ps))
    rw [lvl, cat, List.length_append]; omega
theorem Trd.many {ps : List PG} {r d : Nat} (h : Trd ps r d) : (lvl ps d [r]).length ≤ 4000 := by
  have := lvl_cat ps d [r]
  have := h.tr.all
  have := h.n
  omega
theorem Trd.leaf {ps : List PG} {r d : Nat} (h : Trd ps r d) (k : Ky) : leafF ps k d r < ps.length := by
  obtain ⟨_, _, _, b4⟩ := path_step h.ok k d r [] [] h.good (.inl rfl) d _ (path_last ps k d r)
  rcases b4 with e | ⟨y, hy⟩
  · rw [e]; exact h.rl
  · exact h.kin y _ hy
theorem entriesOf_con (G : List (Nat × List Value)) (t : Bool) {ps : List PG} {r d : Nat} (h : Trd ps r d) (ho : okPs2 ps) : Con Go.Proofs.Try.prog G 37 [.agg [.ro t 5 (ps.map eP), .r (.int .i64 r)]] [] 0 (Is (.ro true 2 ((entsF ps d r).map eEt)) [] 0) No := by
  have ec := entries_con t ps r h.ok ho h.kin h.n d r [] [] h.good h.rl h.many G
  refine con_of_awp Go.Proofs.Try.func37 rfl (by kernel_rfl) (of_decide_eq_true (by kernel_rfl)) ?_; intro E hG hE; subst hG; simp only [ent]
  (repeat' (first | refine awp_seq ?_ | refine awp_block ?_ | refine awp_skip ?_ | refine awp_exit ?_ | ((first | refine rR (fun K kp hK hkp => ?_) | refine cR ec ?_ | refine iG ?_); simp (implicitDefEqProofs := false) (maxSteps := 2000000) (disch := omega) only [go_sem]; (repeat' (first | (refine hK _ ?_; clear hK hkp kp K) | (with_reducible refine And.intro ?_ ?_) | omega))) | ((first | refine aG (fun h => ?_) (fun h => ?_) | refine aD (fun h => ?_) (fun h => ?_) | refine aX (fun h => ?_) (fun h => ?_)) <;> simp only [h]) | refine awp_cond_t rfl ?_ | refine awp_cond_f rfl ?_ | ((refine awp_cond rfl (fun h => ?_) (fun h => ?_) <;> try simp only [ifs] at h) <;> (try (exfalso; omega))) | refine awp_ret ?_))
  (refine retA_is (by (simp (implicitDefEqProofs := false) (maxSteps := 2000000) (disch := omega) only [go_sem, Go.Proofs.Try.results37]); rfl) ?_; refine eN hE ?_; simp [oneA, ren, renL])
/-- What Find answers. -/
noncomputable def findA (ps : List PG) (root : Int) (k : Ky) (R : Int × Int) : AV := .tup [.r (.int .i64 (if askM ps root k ≠ 0 then 0 else R.1)), .r (.int .i64 (if askM ps root k ≠ 0 then askM ps root k else R.2))]
theorem ask_chk {ps : List PG} {root : Int} {k : Ky} (h : askM ps root k = 0) : ChkOK ps root := by
  rw [askM] at h
  by_cases hc : ChkOK ps root
  · exact hc
  · rw [chkR_f hc] at h; simp at h
set_option maxRecDepth 100000 in
set_option maxHeartbeats 4000000 in
theorem find2_con (G : List (Nat × List Value)) (t : Bool) (ps : List PG) (root : Int) (k : Ky) (ho : okPs2 ps) (R : Int × Int) (hR : askM ps root k = 0 → ∀ r d : Nat, root = r → Trd ps r d → R = findM (pg ps (leafF ps k d r)) k) :
    Con Go.Proofs.Try.prog G 13 [.agg [.ro true 5 (ps.map eP), .r (.int .i64 root)], .ro t 1 (k.map eByte)] [] 0 (Is (findA ps root k R) [] 0) No := by
  have cc := checked_con G t ps root k ho
  rw [findA]
  by_cases h0 : askM ps root k = 0
  · obtain ⟨r, d, rfl, h⟩ := trd_of (ask_chk h0)
    have hR := hR h0 r d rfl h
    rw [h0] at cc ⊢
    have fc := find_con G true t ps r d k h.ok h.kin h.good h.rl h.n h.dl
    have hl := h.leaf k
    have hpx := pg_in hl
    have hok := h.ok _ _ hpx
    obtain ⟨A, B, e, hA, hB, lo, hi, hgl, _⟩ := leaf_split h.ok k d r [] [] h.good (.inl rfl)
    have hlf := hgl.1
    clear hA hB hgl e
    generalize leafF ps k d r = x at *
    generalize pg ps x = p at *
    have hkl := hok.kl hlf
    have hpk := place_le p k
    refine con_of_awp Go.Proofs.Try.func13 rfl (by kernel_rfl) (of_decide_eq_true (by kernel_rfl)) ?_; intro E hG hE; subst hG; simp only [ent]
    rw [findM] at hR
    by_cases ht : p.keys[placeM p k]? = some k
    · rw [thereM, decide_eq_true ht] at fc
      rw [if_pos ht] at hR
      have hlt := (List.getElem?_eq_some_iff.1 ht).1
      obtain ⟨y, hy⟩ : ∃ y, p.kids[placeM p k]? = some y := ⟨_, List.getElem?_eq_getElem (by omega)⟩
      have hyD : p.kids.getD (placeM p k) 0 = y := by rw [List.getD_eq_getElem?_getD, hy]; rfl
      rw [hyD] at hR
      subst hR
      (repeat' (first | refine awp_seq ?_ | refine awp_block ?_ | refine awp_skip ?_ | refine awp_exit ?_ | ((first | refine rR (fun K kp hK hkp => ?_) | refine cR cc ?_ | refine cR fc ?_ | refine iG ?_); simp (implicitDefEqProofs := false) (maxSteps := 2000000) (disch := omega) only [go_sem, bne_self_eq_false, hpx, hy, eP, eI]; (repeat' (first | (refine hK _ ?_; clear hK hkp kp K) | (with_reducible refine And.intro ?_ ?_) | omega))) | ((first | refine aG (fun h => ?_) (fun h => ?_) | refine aD (fun h => ?_) (fun h => ?_) | refine aX (fun h => ?_) (fun h => ?_)) <;> simp only [h]) | refine awp_cond_t rfl ?_ | refine awp_cond_f rfl ?_ | ((refine awp_cond rfl (fun h => ?_) (fun h => ?_) <;> try simp only [ifs] at h) <;> (try (exfalso; omega))) | refine awp_ret ?_))
      (refine retA_is (by (simp (implicitDefEqProofs := false) (maxSteps := 2000000) (disch := omega) only [go_sem, Go.Proofs.Try.results13]); rfl) ?_; refine eN hE ?_; simp [oneA, ren, renL])
    · rw [thereM, decide_eq_false ht] at fc
      rw [if_neg ht] at hR
      subst hR
      (repeat' (first | refine awp_seq ?_ | refine awp_block ?_ | refine awp_skip ?_ | refine awp_exit ?_ | ((first | refine rR (fun K kp hK hkp => ?_) | refine cR cc ?_ | refine cR fc ?_ | refine iG ?_); simp (implicitDefEqProofs := false) (maxSteps := 2000000) (disch := omega) only [go_sem, bne_self_eq_false, hpx, eP, eI]; (repeat' (first | (refine hK _ ?_; clear hK hkp kp K) | (with_reducible refine And.intro ?_ ?_) | omega))) | ((first | refine aG (fun h => ?_) (fun h => ?_) | refine aD (fun h => ?_) (fun h => ?_) | refine aX (fun h => ?_) (fun h => ?_)) <;> simp only [h]) | refine awp_cond_t rfl ?_ | refine awp_cond_f rfl ?_ | ((refine awp_cond rfl (fun h => ?_) (fun h => ?_) <;> try simp only [ifs] at h) <;> (try (exfalso; omega))) | refine awp_ret ?_))
      (refine retA_is (by (simp (implicitDefEqProofs := false) (maxSteps := 2000000) (disch := omega) only [go_sem, Go.Proofs.Try.results13]); rfl) ?_; refine eN hE ?_; simp [oneA, ren, renL])
  · have z0 : (askM ps root k != 0) = true := by simp [h0]
    refine con_of_awp Go.Proofs.Try.func13 rfl (by kernel_rfl) (of_decide_eq_true (by kernel_rfl)) ?_; intro E hG hE; subst hG; simp only [ent]
    (repeat' (first | refine awp_seq ?_ | refine awp_block ?_ | refine awp_skip ?_ | refine awp_exit ?_ | ((first | refine rR (fun K kp hK hkp => ?_) | refine cR cc ?_ | refine iG ?_); simp (implicitDefEqProofs := false) (maxSteps := 2000000) (disch := omega) only [go_sem, z0]; (repeat' (first | (refine hK _ ?_; clear hK hkp kp K) | (with_reducible refine And.intro ?_ ?_) | omega))) | ((first | refine aG (fun h => ?_) (fun h => ?_) | refine aD (fun h => ?_) (fun h => ?_) | refine aX (fun h => ?_) (fun h => ?_)) <;> simp only [h]) | refine awp_cond_t rfl ?_ | refine awp_cond_f rfl ?_ | ((refine awp_cond rfl (fun h => ?_) (fun h => ?_) <;> try simp only [ifs] at h) <;> (try (exfalso; omega))) | refine awp_ret ?_))
    (refine retA_is (by (simp (implicitDefEqProofs := false) (maxSteps := 2000000) (disch := omega) only [go_sem, Go.Proofs.Try.results13, h0]); rfl) ?_; refine eN hE ?_; simp [oneA, ren, renL, h0])
def foundF (k : Ky) : List Et → Int × Int
  | [] => (0, 8)
  | e :: r => if (e.1 == k) = true then (e.2, 0) else foundF k r
theorem foundF_eq (k : Ky) : ∀ l, foundF k l = foundM l k
  | [] => rfl
  | e :: r => by
    rw [foundF, foundM, List.find?_cons]
    cases h : (e.1 == k)
    · simp only [Bool.false_eq_true, ↓reduceIte]; rw [foundF_eq k r, foundM]
    · simp
set_option maxRecDepth 100000 in
set_option maxHeartbeats 4000000 in
theorem found_con (G : List (Nat × List Value)) (t u : Bool) (ps : List PG) (root : Int) (k : Ky) (ho : okPs2 ps) (R : Int × Int) (hR : askM ps root k = 0 → ∀ r d : Nat, root = r → Trd ps r d → R = foundM (entsF ps d r) k) :
    Con Go.Proofs.Try.prog G 15 [.agg [.ro u 5 (ps.map eP), .r (.int .i64 root)], .ro t 1 (k.map eByte)] [] 0 (Is (findA ps root k R) [] 0) No := by
  have cc := treeAndKey_con G t u ps root k ho
  rw [findA]
  by_cases h0 : askM ps root k = 0
  · obtain ⟨r, d, rfl, h⟩ := trd_of (ask_chk h0)
    have hR := hR h0 r d rfl h
    rw [← foundF_eq] at hR
    rw [h0] at cc ⊢
    have ec := entriesOf_con G u h ho
    have hlen := flatE_len h.ok (lvl ps d [r])
    have := h.many
    have hlen : (entsF ps d r).length ≤ 16000 := by rw [entsF]; omega
    generalize entsF ps d r = l at *
    refine con_of_awp Go.Proofs.Try.func15 rfl (by kernel_rfl) (of_decide_eq_true (by kernel_rfl)) ?_; intro E hG hE; subst hG; simp only [ent]
    (repeat' (first | refine awp_seq ?_ | refine awp_block ?_ | refine awp_skip ?_ | refine awp_exit ?_ | ((first | refine rR (fun K kp hK hkp => ?_) | refine cR cc ?_ | refine cR ec ?_ | refine iG ?_); simp (implicitDefEqProofs := false) (maxSteps := 2000000) (disch := omega) only [go_sem, bne_self_eq_false, eEt]; (repeat' (first | (refine hK _ ?_; clear hK hkp kp K) | (with_reducible refine And.intro ?_ ?_) | omega))) | ((first | refine aG (fun h => ?_) (fun h => ?_) | refine aD (fun h => ?_) (fun h => ?_) | refine aX (fun h => ?_) (fun h => ?_)) <;> simp only [h]) | refine awp_cond_t rfl ?_ | refine awp_cond_f rfl ?_ | ((refine awp_cond rfl (fun h => ?_) (fun h => ?_) <;> try simp only [ifs] at h) <;> (try (exfalso; omega))) | refine awp_ret ?_))
    refine awp_loop (fun j : Nat => ⟨[(8, .r (.int .i64 j)), (7, .ro true 2 (l.map eEt)), (1, .ro t 1 (k.map eByte))], [], 0⟩) (fun j => j ≤ l.length ∧ R = foundF k (l.drop j)) (fun j => l.length - j) 0 ?_ ?_ ?_
    · exact ⟨Nat.zero_le _, hR⟩
    · (refine emb [] ?_ ?_ rfl ?_ ?_ ?_ ?_ <;> simp [okM, okO, lk, ren, renL, renNd, by_, hE] <;> (try omega) <;> (try (intro i hi; first | (rcases i with _ | _ | i; rfl; rfl; (exfalso; omega)) | (rcases i with _ | _ | _ | i; rfl; rfl; rfl; (exfalso; omega)) | (rcases i with _ | _ | _ | _ | i; rfl; rfl; rfl; rfl; (exfalso; omega)) | (rcases i with _ | _ | _ | _ | _ | i; rfl; rfl; rfl; rfl; rfl; (exfalso; omega)) | (rcases i with _ | _ | _ | _ | _ | _ | i; rfl; rfl; rfl; rfl; rfl; rfl; (exfalso; omega)))))
    rintro j ⟨hj, hRj⟩
    by_cases hlt : j < l.length
    · have zj : ((j : Int) < (l.length : Int)) = True := eq_true (by omega)
      obtain ⟨x, hx⟩ : ∃ x, l[j]? = some x := ⟨_, List.getElem?_eq_getElem hlt⟩
      rw [drop_at hx, foundF] at hRj
      cases he : (x.1 == k)
      · rw [he] at hRj
        (repeat' (first | refine awp_seq ?_ | refine awp_block ?_ | refine awp_skip ?_ | refine awp_exit ?_ | ((first | refine rR (fun K kp hK hkp => ?_) | refine cR (sKy_con _ _ _ _ _) ?_ | refine iG ?_); simp (implicitDefEqProofs := false) (maxSteps := 2000000) (disch := omega) only [go_sem, zj, hx, eEt, he]; (repeat' (first | (refine hK _ ?_; clear hK hkp kp K) | (with_reducible refine And.intro ?_ ?_) | omega))) | ((first | refine aG (fun h => ?_) (fun h => ?_) | refine aD (fun h => ?_) (fun h => ?_) | refine aX (fun h => ?_) (fun h => ?_)) <;> simp only [h]) | refine awp_cond_t rfl ?_ | refine awp_cond_f rfl ?_ | ((refine awp_cond rfl (fun h => ?_) (fun h => ?_) <;> try simp only [ifs] at h) <;> (try (exfalso; omega))) | refine awp_ret ?_))
        ((first | (refine nextB (j + 1) ?_ ?_ ?_) | (refine nextA (j + 1) ?_ ?_ ?_) | (refine nextE (j + 1) ?_ ?_ ?_)); rotate_left; (· (try dsimp only); (first | omega | (simp only [List.length_drop, List.length_cons, List.length_append]; omega) | (simp; done) | (simp; omega))); (· (refine emb [] ?_ ?_ rfl ?_ ?_ ?_ ?_ <;> simp [okM, okO, lk, ren, renL, renNd, by_, hE] <;> (try omega) <;> (try (intro i hi; first | (rcases i with _ | _ | i; rfl; rfl; (exfalso; omega)) | (rcases i with _ | _ | _ | i; rfl; rfl; rfl; (exfalso; omega)) | (rcases i with _ | _ | _ | _ | i; rfl; rfl; rfl; rfl; (exfalso; omega)) | (rcases i with _ | _ | _ | _ | _ | i; rfl; rfl; rfl; rfl; rfl; (exfalso; omega)) | (rcases i with _ | _ | _ | _ | _ | _ | i; rfl; rfl; rfl; rfl; rfl; rfl; (exfalso; omega)))))))
        exact ⟨by omega, by simpa using hRj⟩
      · rw [he] at hRj
        have hRj : R = (x.2, 0) := by simpa using hRj
        subst hRj
        (repeat' (first | refine awp_seq ?_ | refine awp_block ?_ | refine awp_skip ?_ | refine awp_exit ?_ | ((first | refine rR (fun K kp hK hkp => ?_) | refine cR (sKy_con _ _ _ _ _) ?_ | refine iG ?_); simp (implicitDefEqProofs := false) (maxSteps := 2000000) (disch := omega) only [go_sem, zj, hx, eEt, he]; (repeat' (first | (refine hK _ ?_; clear hK hkp kp K) | (with_reducible refine And.intro ?_ ?_) | omega))) | ((first | refine aG (fun h => ?_) (fun h => ?_) | refine aD (fun h => ?_) (fun h => ?_) | refine aX (fun h => ?_) (fun h => ?_)) <;> simp only [h]) | refine awp_cond_t rfl ?_ | refine awp_cond_f rfl ?_ | ((refine awp_cond rfl (fun h => ?_) (fun h => ?_) <;> try simp only [ifs] at h) <;> (try (exfalso; omega))) | refine awp_ret ?_))
        (refine retA_is (by (simp (implicitDefEqProofs := false) (maxSteps := 2000000) (disch := omega) only [go_sem, Go.Proofs.Try.results15]); rfl) ?_; refine eN hE ?_; simp [oneA, ren, renL])
    · obtain rfl : j = l.length := by omega
      rw [List.drop_length] at hRj
      obtain rfl : R = (0, 8) := hRj
      (repeat' (first | refine awp_seq ?_ | refine awp_block ?_ | refine awp_skip ?_ | refine awp_exit ?_ | ((first | refine rR (fun K kp hK hkp => ?_) | refine iG ?_); simp (implicitDefEqProofs := false) (maxSteps := 2000000) (disch := omega) only [go_sem]; (repeat' (first | (refine hK _ ?_; clear hK hkp kp K) | (with_reducible refine And.intro ?_ ?_) | omega))) | ((first | refine aG (fun h => ?_) (fun h => ?_) | refine aD (fun h => ?_) (fun h => ?_) | refine aX (fun h => ?_) (fun h => ?_)) <;> simp only [h]) | refine awp_cond_t rfl ?_ | refine awp_cond_f rfl ?_ | ((refine awp_cond rfl (fun h => ?_) (fun h => ?_) <;> try simp only [ifs] at h) <;> (try (exfalso; omega))) | refine awp_ret ?_))
      (refine retA_is (by (simp (implicitDefEqProofs := false) (maxSteps := 2000000) (disch := omega) only [go_sem, Go.Proofs.Try.results15]); rfl) ?_; refine eN hE ?_; simp [oneA, ren, renL])
  · have z0 : (askM ps root k != 0) = true := by simp [h0]
    refine con_of_awp Go.Proofs.Try.func15 rfl (by kernel_rfl) (of_decide_eq_true (by kernel_rfl)) ?_; intro E hG hE; subst hG; simp only [ent]
    (repeat' (first | refine awp_seq ?_ | refine awp_block ?_ | refine awp_skip ?_ | refine awp_exit ?_ | ((first | refine rR (fun K kp hK hkp => ?_) | refine cR cc ?_ | refine iG ?_); simp (implicitDefEqProofs := false) (maxSteps := 2000000) (disch := omega) only [go_sem, z0]; (repeat' (first | (refine hK _ ?_; clear hK hkp kp K) | (with_reducible refine And.intro ?_ ?_) | omega))) | ((first | refine aG (fun h => ?_) (fun h => ?_) | refine aD (fun h => ?_) (fun h => ?_) | refine aX (fun h => ?_) (fun h => ?_)) <;> simp only [h]) | refine awp_cond_t rfl ?_ | refine awp_cond_f rfl ?_ | ((refine awp_cond rfl (fun h => ?_) (fun h => ?_) <;> try simp only [ifs] at h) <;> (try (exfalso; omega))) | refine awp_ret ?_))
    (refine retA_is (by (simp (implicitDefEqProofs := false) (maxSteps := 2000000) (disch := omega) only [go_sem, Go.Proofs.Try.results15, h0]); rfl) ?_; refine eN hE ?_; simp [oneA, ren, renL, h0])
theorem finds_same (ps : List PG) (root : Int) (k : Ky) : ∃ R : Int × Int, ∀ r d : Nat, root = r → Trd ps r d → R = findM (pg ps (leafF ps k d r)) k ∧ R = foundM (entsF ps d r) k := by
  by_cases h : ∃ r d : Nat, root = r ∧ Trd ps r d
  · obtain ⟨r, d, rfl, h⟩ := h
    refine ⟨findM (pg ps (leafF ps k d r)) k, fun r' d' e h' => ?_⟩
    obtain rfl : r = r' := by omega
    obtain rfl := good_deep (kids_ne h.ok) d r _ _ _ _ d' h.good h'.good
    exact ⟨rfl, (found_find h.ok h.good k (h.leaf k)).symm⟩
  · exact ⟨(0, 0), fun r d e h' => absurd ⟨r, d, e, h'⟩ h⟩
set_option maxRecDepth 100000 in
set_option maxHeartbeats 4000000 in
theorem lawFinds_con (G : List (Nat × List Value)) (ps : List PG) (root : Int) (k : Ky) (ho : okPs2 ps) (hk : k.length ≤ 1048576) : Con Go.Proofs.Try.prog G 4 [.agg [.ro true 5 (ps.map eP), .r (.int .i64 root)], .ro true 1 (k.map eByte)] [] 0 (Is (.r (.bool true)) [] 0) No := by
  obtain ⟨R, hR⟩ := finds_same ps root k
  have tc := trees_con G true ps root ho
  have oc := octetsT_con G true k (by omega)
  have fc := find2_con G true ps root k ho R fun _ r d e h => (hR r d e h).1
  have gc := found_con G true true ps root k ho R fun _ r d e h => (hR r d e h).2
  rw [findA] at fc gc
  refine con_of_awp Go.Proofs.Try.func4 rfl (by kernel_rfl) (of_decide_eq_true (by kernel_rfl)) ?_; intro E hG hE; subst hG; simp only [ent]
  (repeat' (first | refine awp_seq ?_ | refine awp_block ?_ | refine awp_skip ?_ | refine awp_exit ?_ | ((first | refine rR (fun K kp hK hkp => ?_) | refine cR tc ?_ | refine cR oc ?_ | refine cR fc ?_ | refine cR gc ?_ | refine iG ?_); simp (implicitDefEqProofs := false) (maxSteps := 2000000) (disch := omega) only [go_sem, beq_self_eq_true]; (repeat' (first | (refine hK _ ?_; clear hK hkp kp K) | (with_reducible refine And.intro ?_ ?_) | omega))) | ((first | refine aG (fun h => ?_) (fun h => ?_) | refine aD (fun h => ?_) (fun h => ?_) | refine aX (fun h => ?_) (fun h => ?_)) <;> simp only [h]) | refine awp_cond_t rfl ?_ | refine awp_cond_f rfl ?_ | ((refine awp_cond rfl (fun h => ?_) (fun h => ?_) <;> try simp only [ifs] at h) <;> (try (exfalso; omega))) | refine awp_ret ?_))
  (refine retA_is (by (simp (implicitDefEqProofs := false) (maxSteps := 2000000) (disch := omega) only [go_sem, Go.Proofs.Try.results4]); rfl) ?_; refine eN hE ?_; simp [oneA, ren, renL])
end Go.AM
/- tree.each: what it hands back. -/
namespace Go.AM
open Go Go.RowKit
attribute [local irreducible] AWP retA
def eachA (t u : Bool) (ps : List PG) (root : Int) (k : Ky) : AV := .fn 55 [.re true [.ro t 5 (ps.map eP), .r (.int .i64 root)] 0, .re true [.ro u 1 (k.map eByte)] 0]
theorem each_con (G : List (Nat × List Value)) (t u : Bool) (ps : List PG) (root : Int) (k : Ky) : Con Go.Proofs.Try.prog G 38 [.agg [.ro t 5 (ps.map eP), .r (.int .i64 root)], .ro u 1 (k.map eByte)] [] 0 (Is (eachA t u ps root k) [] 0) No := by
  refine con_of_awp Go.Proofs.Try.func38 rfl (by kernel_rfl) (of_decide_eq_true (by kernel_rfl)) ?_; intro E hG hE; subst hG; simp only [ent]
  refine awp_seq ?_
  (refine rR (fun K kp hK hkp => ?_); simp (implicitDefEqProofs := false) (maxSteps := 2000000) (disch := omega) only [go_sem]; (repeat' (first | (refine hK _ ?_; clear hK hkp kp K) | (with_reducible refine And.intro ?_ ?_) | omega)))
  refine AWP.emb (emb_re 2 0 rfl rfl rfl) ?_
  refine AWP.emb (emb_re 3 1 rfl rfl rfl) ?_
  simp only [rm, ↓reduceIte, Nat.reduceEqDiff]
  (repeat' (first | refine awp_seq ?_ | refine awp_block ?_ | refine awp_skip ?_ | refine awp_exit ?_ | ((first | refine rR (fun K kp hK hkp => ?_) | refine iG ?_); simp (implicitDefEqProofs := false) (maxSteps := 2000000) (disch := omega) only [go_sem]; (repeat' (first | (refine hK _ ?_; clear hK hkp kp K) | (with_reducible refine And.intro ?_ ?_) | omega))) | ((first | refine aG (fun h => ?_) (fun h => ?_) | refine aD (fun h => ?_) (fun h => ?_) | refine aX (fun h => ?_) (fun h => ?_)) <;> simp only [h]) | refine awp_cond_t rfl ?_ | refine awp_cond_f rfl ?_ | ((refine awp_cond rfl (fun h => ?_) (fun h => ?_) <;> try simp only [ifs] at h) <;> (try (exfalso; omega))) | refine awp_ret ?_))
  simp only [AS.put]
  (refine retA_is (by (simp (implicitDefEqProofs := false) (maxSteps := 2000000) (disch := omega) only [go_sem, Go.Proofs.Try.results38, eachA]); rfl) ?_; refine eN hE ?_; simp [oneA, ren, renL, eachA])
end Go.AM
/- tree.each: the iterator: what it hands to yield, from a key on. -/
namespace Go.AM
open Go Go.RowKit
attribute [local irreducible] AWP retA
def remF (ps : List PG) (LV : List Nat) (q at_ : Nat) : List Et := match LV.drop q with
  | [] => []
  | x :: r => (entL ps x).drop at_ ++ r.flatMap (entL ps)
def leafAt (LV : List Nat) (q : Nat) : Int := match LV[q]? with
  | some x => (x : Int)
  | none => -1
theorem remF_end {ps : List PG} {LV : List Nat} {q at_ : Nat} (h : LV.length ≤ q) : remF ps LV q at_ = [] := by rw [remF, List.drop_of_length_le h]
theorem remF_at {ps : List PG} {LV : List Nat} {q at_ x : Nat} (h : LV[q]? = some x) : remF ps LV q at_ = (entL ps x).drop at_ ++ (LV.drop (q + 1)).flatMap (entL ps) := by rw [remF, drop_at h]
theorem remF_zero {ps : List PG} {LV : List Nat} {q : Nat} : remF ps LV q 0 = (LV.drop q).flatMap (entL ps) := by
  rw [remF]; cases LV.drop q <;> simp
theorem remF_next {ps : List PG} {LV : List Nat} {q at_ x : Nat} (h : LV[q]? = some x) (hl : (entL ps x).length ≤ at_) : remF ps LV q at_ = remF ps LV (q + 1) 0 := by
  rw [remF_at h, remF_zero, List.drop_of_length_le hl]; rfl
theorem remF_step {ps : List PG} {LV : List Nat} {q at_ x : Nat} {e : Et} (h : LV[q]? = some x) (he : (entL ps x)[at_]? = some e) : remF ps LV q at_ = e :: remF ps LV q (at_ + 1) := by
  rw [remF_at h, remF_at h, drop_at he]; rfl
section
variable {t u : Bool} {ps : List PG} {r d : Nat} {k : Ky}
/-- What is asked of a row of leaves. -/
structure LVok (ps : List PG) (LV : List Nat) : Prop where
  lt : ∀ x ∈ LV, x < ps.length
  lf : ∀ x ∈ LV, (pg ps x).leaf = true
  nx : chain ps LV
theorem lv_ok (h : Trd ps r d) : LVok ps (lvl ps d [r]) := by
  refine ⟨lvl_lt h.kin d [r] (by simp [h.rl]), fun x hx => ?_, h.tr.chains d (Nat.le_refl _)⟩
  have : ∀ (d i : Nat) (low high : Ky), Good ps d i low high → ∀ x ∈ lvl ps d [i], (pg ps x).leaf = true := by
    intro d
    induction d with
    | zero => intro i low high hg x hx; simp only [lvl, List.mem_singleton] at hx; subst hx; exact hg.1
    | succ d ih =>
      intro i low high hg x hx
      rw [lvl_one] at hx
      obtain ⟨m, kid, hm, hx⟩ := lvl_mem d hx
      exact ih kid _ _ (hg.2.2.2 m kid hm) x hx
  exact this d r [] [] h.good x hx
end
/-- The slots between two pages. -/
def mO (t u : Bool) (ps : List PG) (root : Int) (k : Ky) (l : Nat) (leaf : Int) (at_ : Nat) : List (Nat × AV) := [(5, .r (.int .i64 at_)), (4, .r (.int .i64 leaf)), (2, .re true [.ro u 1 (k.map eByte)] 0), (1, .re true [.ro t 5 (ps.map eP), .r (.int .i64 root)] 0), (0, .r (.func (.yield l) #[] #[]))]
def mI (t u : Bool) (ps : List PG) (root : Int) (k : Ky) (l : Nat) (p : PG) (leaf : Int) (at_ : Nat) : List (Nat × AV) := (7, .re true [.r (.bool p.leaf), .ro true 1 (p.keys.map eKy), .ro true 1 (p.kids.map eI), .ro true 1 (p.high.map eByte), .r (.int .i64 p.next)] 0) :: mO t u ps root k l leaf at_
set_option maxRecDepth 100000 in
set_option maxHeartbeats 8000000 in
theorem each1_any (G : List (Nat × List Value)) {t u th : Bool} {ps : List PG} {root : Int} {k : Ky} {LV : List Nat} (hL : LVok ps LV) (ho : okPs2 ps) (hp : AllOK ps) {q0 at0 : Nat}
    (fc : ∀ G, Con Go.Proofs.Try.prog G 35 [.agg [.ro t 5 (ps.map eP), .r (.int .i64 root)], .ro u 1 (k.map eByte)] [] 0 (Is (.tup [.r (.int .i64 (leafAt LV q0)), .r (.int .i64 at0), .r (.bool th)]) [] 0) No)
    {l kk : Nat} {J Jx : List Et → World → Zone → Prop} (Y : Yld (fun x : Et => .agg (eEt x)) (remF ps LV q0 at0) Go.Proofs.Try.prog kk l J Jx) (W : World) (z : Zone) (hz : ∀ t b, z t b → b < W.heap.size) (hG : ∀ g cs, (g, cs) ∈ G → z true g ∧ ∀ (j : Nat) v, cs[j]? = some v → W.cell? ⟨g, j, none⟩ = some v)
    (pT pK : Value) (hr : Reps W z [] [.re true [.ro t 5 (ps.map eP), .r (.int .i64 root)] 0, .re true [.ro u 1 (k.map eByte)] 0] [pT, pK]) (h0 : J [] W z) :
    CallsIn Fence.wide (kk + 1) Go.Proofs.Try.prog 55 #[.func (.yield l) #[] #[], pT, pK] W fun e W' => (∃ v, e = .returned v) ∧ ∃ z', (∀ t b, z t b → z' t b) ∧ (J (remF ps LV q0 at0) W' z' ∨ ∃ pre, pre <+: remF ps LV q0 at0 ∧ Jx pre W' z') := by
  refine (callsIn_wide (n := kk + 1)).2 ?_
  have hA0 := at_entry (G := G) (N := (Go.Proofs.Try.f55).ntmps) (xs := [.r (.func (.yield l) #[] #[]), .re true [.ro t 5 (ps.map eP), .r (.int .i64 root)] 0, .re true [.ro u 1 (k.map eByte)] 0]) (vs := [.func (.yield l) #[] #[], pT, pK]) hz hG (.cons (.r _ _) hr) (of_decide_eq_true (by kernel_rfl))
  refine calls_of_wp Go.Proofs.Try.func55 rfl ?_
  obtain ⟨R, hR⟩ : ∃ R : Ending → World → Prop, R = fun e W' => (∃ v, e = .returned v) ∧ ∃ z', (∀ t b, z t b → z' t b) ∧ (J (remF ps LV q0 at0) W' z' ∨ ∃ pre, pre <+: remF ps LV q0 at0 ∧ Jx pre W' z') := ⟨_, rfl⟩
  rw [← hR]
  generalize ({ tmps := _, defers := [] } : Act) = a0 at hA0 ⊢
  refine wp_seq ?_
  refine seg (AQ := fun e m1 => e = .normal ∧ m1 = mO t u ps root k l (leafAt LV q0) at0) ?_ hA0 ?_
  · intro E hG hE; subst hG
    simp only [ent]
    have fc' := fc E.G
    (repeat' (first | refine awp_seq ?_ | refine awp_block ?_ | refine awp_skip ?_ | refine awp_exit ?_ | ((first | refine rR (fun K kp hK hkp => ?_) | refine rD (id := 5) mixed 15 [0,1,2,3,4,5,7,8,9,10,11,6,12,13,14] (fun K kp hK hkp => ?_) | refine cR fc' ?_ | refine cD fc' ?_ | refine iG ?_ | refine iD ?_); simp (implicitDefEqProofs := false) (maxSteps := 2000000) (disch := omega) only [go_sem]; (repeat' (first | (refine hK _ ?_; clear hK hkp kp K) | (with_reducible refine And.intro ?_ ?_) | omega))) | ((first | refine aG (fun h => ?_) (fun h => ?_) | refine aD (fun h => ?_) (fun h => ?_) | refine aX (fun h => ?_) (fun h => ?_)) <;> simp only [h]) | refine awp_cond_t rfl ?_ | refine awp_cond_f rfl ?_ | ((refine awp_cond rfl (fun h => ?_) (fun h => ?_) <;> try simp only [ifs] at h) <;> (try (exfalso; omega))) | refine awp_ret ?_))
    refine ⟨_, ⟨rfl, rfl⟩, ?_⟩
    (refine emb [] ?_ ?_ rfl ?_ ?_ ?_ ?_ <;> simp [okM, okO, lk, ren, renL, renNd, by_, hE, mO] <;> (try omega) <;> (try (intro i hi; first | (rcases i with _ | _ | i; rfl; rfl; (exfalso; omega)) | (rcases i with _ | _ | _ | i; rfl; rfl; rfl; (exfalso; omega)) | (rcases i with _ | _ | _ | _ | i; rfl; rfl; rfl; rfl; (exfalso; omega)) | (rcases i with _ | _ | _ | _ | _ | i; rfl; rfl; rfl; rfl; rfl; (exfalso; omega)) | (rcases i with _ | _ | _ | _ | _ | _ | i; rfl; rfl; rfl; rfl; rfl; rfl; (exfalso; omega)))))
  rintro e m1 a1 w1 z1 ⟨rfl, rfl⟩ hA1 s1
  dsimp only [toX, Exit.then]
  have hO : ¬ LetsOut (bodyPost Go.Proofs.Try.prog Go.Proofs.Try.f55 R) := by
    rintro ⟨a, w, h⟩
    have h : R .outgrown w := h
    rw [hR] at h; obtain ⟨⟨v, hv⟩, _⟩ := h; cases hv
  have hP : ∀ c a w, ¬ bodyPost Go.Proofs.Try.prog Go.Proofs.Try.f55 R (.panic c) a w := by
    rintro c a w ⟨_, h⟩
    rw [hR] at h; obtain ⟨⟨v, hv⟩, _⟩ := h; cases hv
  refine wp_block ?_
  refine wp_loopI (fun (i : Nat × Nat) a w => ∃ pre z', (∀ t b, z t b → z' t b) ∧ At G (Go.Proofs.Try.f55).ntmps (mO t u ps root k l (leafAt LV i.1) i.2) z' a w ∧ J pre w z' ∧ pre ++ remF ps LV i.1 i.2 = remF ps LV q0 at0) (fun i => LV.length - i.1) (q0, at0)
    ⟨[], z1, s1.sub, hA1, Y.grow _ _ _ _ _ h0 s1, rfl⟩ ?_
  rintro ⟨q, at_⟩ a w ⟨pre, z', hzs, hA, hJ, hrem⟩
  dsimp only at hA hrem ⊢
  by_cases hlt : q < LV.length
  · obtain ⟨x, hx⟩ : ∃ x, LV[q]? = some x := ⟨_, List.getElem?_eq_getElem hlt⟩
    have hxl := hL.lt x (List.mem_of_getElem? hx)
    have hlf := hL.lf x (List.mem_of_getElem? hx)
    have hnx := hL.nx q x hx
    have hle : leafAt LV q = (x : Int) := by rw [leafAt, hx]
    have hle2 : (pg ps x).next = leafAt LV (q + 1) := by rw [hnx]; rfl
    have hpx := pg_in hxl
    have hok := hp _ _ hpx
    obtain ⟨o1, o2, o3, o4⟩ := ho.2 _ (List.mem_of_getElem? hpx)
    have hent : entL ps x = (pg ps x).keys.zip (pg ps x).kids := rfl
    rw [hle] at hA
    generalize hp' : pg ps x = p at *
    have hkl := hok.kl hlf
    have h4 := hok.nk
    refine wp_seq ?_
    refine seg (AQ := fun e m1 => e = .normal ∧ m1 = mO t u ps root k l x at_) ?_ hA ?_
    · intro E hG hE; subst hG
      have zx : ((x : Int) ≥ 0) = True := eq_true (by omega)
      simp only [mO]
      (repeat' (first | refine awp_seq ?_ | refine awp_block ?_ | refine awp_skip ?_ | refine awp_exit ?_ | ((first | refine rR (fun K kp hK hkp => ?_) | refine rD (id := 5) mixed 15 [0,1,2,3,4,5,7,8,9,10,11,6,12,13,14] (fun K kp hK hkp => ?_) | refine iG ?_ | refine iD ?_); simp (implicitDefEqProofs := false) (maxSteps := 2000000) (disch := omega) only [go_sem, zx]; (repeat' (first | (refine hK _ ?_; clear hK hkp kp K) | (with_reducible refine And.intro ?_ ?_) | omega))) | ((first | refine aG (fun h => ?_) (fun h => ?_) | refine aD (fun h => ?_) (fun h => ?_) | refine aX (fun h => ?_) (fun h => ?_)) <;> simp only [h]) | refine awp_cond_t rfl ?_ | refine awp_cond_f rfl ?_ | ((refine awp_cond rfl (fun h => ?_) (fun h => ?_) <;> try simp only [ifs] at h) <;> (try (exfalso; omega))) | refine awp_ret ?_))
      refine ⟨_, ⟨rfl, rfl⟩, ?_⟩
      (refine emb [] ?_ ?_ rfl ?_ ?_ ?_ ?_ <;> simp [okM, okO, lk, ren, renL, renNd, by_, hE, mO] <;> (try omega) <;> (try (intro i hi; first | (rcases i with _ | _ | i; rfl; rfl; (exfalso; omega)) | (rcases i with _ | _ | _ | i; rfl; rfl; rfl; (exfalso; omega)) | (rcases i with _ | _ | _ | _ | i; rfl; rfl; rfl; rfl; (exfalso; omega)) | (rcases i with _ | _ | _ | _ | _ | i; rfl; rfl; rfl; rfl; rfl; (exfalso; omega)) | (rcases i with _ | _ | _ | _ | _ | _ | i; rfl; rfl; rfl; rfl; rfl; rfl; (exfalso; omega)))))
    rintro e m1 a2 w2 z2 ⟨rfl, rfl⟩ hA2 s2
    dsimp only [toX, Exit.then]
    refine wp_block ?_
    refine wp_seq ?_
    refine seg (AQ := fun e m1 => e = .normal ∧ m1 = mI t u ps root k l p x at_) ?_ hA2 ?_
    · intro E hG hE; subst hG
      simp only [mO]
      (repeat' (first | refine awp_seq ?_ | refine awp_block ?_ | refine awp_skip ?_ | refine awp_exit ?_ | ((first | refine rR (fun K kp hK hkp => ?_) | refine rD (id := 5) mixed 15 [0,1,2,3,4,5,7,8,9,10,11,6,12,13,14] (fun K kp hK hkp => ?_) | refine iG ?_ | refine iD ?_); simp (implicitDefEqProofs := false) (maxSteps := 2000000) (disch := omega) only [go_sem, hpx, eP]; (repeat' (first | (refine hK _ ?_; clear hK hkp kp K) | (with_reducible refine And.intro ?_ ?_) | omega))) | ((first | refine aG (fun h => ?_) (fun h => ?_) | refine aD (fun h => ?_) (fun h => ?_) | refine aX (fun h => ?_) (fun h => ?_)) <;> simp only [h]) | refine awp_cond_t rfl ?_ | refine awp_cond_f rfl ?_ | ((refine awp_cond rfl (fun h => ?_) (fun h => ?_) <;> try simp only [ifs] at h) <;> (try (exfalso; omega))) | refine awp_ret ?_))
      refine ⟨_, ⟨rfl, rfl⟩, ?_⟩
      refine Emb.trans (emb_re 7 0 rfl rfl rfl) ?_
      simp only [rm, ↓reduceIte]
      (refine emb [] ?_ ?_ rfl ?_ ?_ ?_ ?_ <;> simp [okM, okO, lk, ren, renL, renNd, by_, hE, mI, mO] <;> (try omega) <;> (try (intro i hi; first | (rcases i with _ | _ | i; rfl; rfl; (exfalso; omega)) | (rcases i with _ | _ | _ | i; rfl; rfl; rfl; (exfalso; omega)) | (rcases i with _ | _ | _ | _ | i; rfl; rfl; rfl; rfl; (exfalso; omega)) | (rcases i with _ | _ | _ | _ | _ | i; rfl; rfl; rfl; rfl; rfl; (exfalso; omega)) | (rcases i with _ | _ | _ | _ | _ | _ | i; rfl; rfl; rfl; rfl; rfl; rfl; (exfalso; omega)))))
    rintro e m1 a3 w3 z3 ⟨rfl, rfl⟩ hA3 s3
    dsimp only [toX, Exit.then]
    refine wp_seq ?_
    refine wp_block ?_
    refine wp_loopI (fun (j : Nat) a w => ∃ pre z', (∀ t b, z t b → z' t b) ∧ At G (Go.Proofs.Try.f55).ntmps (mI t u ps root k l p x j) z' a w ∧ J pre w z' ∧ pre ++ remF ps LV q j = remF ps LV q0 at0) (fun j => p.keys.length - j) at_
      ⟨pre, z3, fun t b hb => s3.sub t b (s2.sub t b (hzs t b hb)), hA3, Y.grow _ _ _ _ _ (Y.grow _ _ _ _ _ hJ s2) s3, hrem⟩ ?_
    clear hA hA2 hA3 hJ hrem hzs s1 s2 s3 hA1
    rintro j a w ⟨pre, z', hzs, hA, hJ, hrem⟩
    by_cases hj : j < p.keys.length
    · obtain ⟨key, hkey⟩ : ∃ key, p.keys[j]? = some key := ⟨_, List.getElem?_eq_getElem hj⟩
      obtain ⟨row, hrow⟩ : ∃ row, p.kids[j]? = some row := ⟨_, List.getElem?_eq_getElem (by omega)⟩
      have hee : (entL ps x)[j]? = some (key, row) := by rw [hent]; exact List.getElem?_zip_eq_some.2 ⟨hkey, hrow⟩
      have hst := remF_step hx hee
      refine wp_seq ?_
      refine seg (AQ := fun e m1 => e = .normal ∧ m1 = mI t u ps root k l p x j) ?_ hA ?_
      · intro E hG hE; subst hG
        have zj : ((j : Int) < (p.keys.length : Int)) = True := eq_true (by omega)
        simp only [mI, mO]
        (repeat' (first | refine awp_seq ?_ | refine awp_block ?_ | refine awp_skip ?_ | refine awp_exit ?_ | ((first | refine rR (fun K kp hK hkp => ?_) | refine rD (id := 5) mixed 15 [0,1,2,3,4,5,7,8,9,10,11,6,12,13,14] (fun K kp hK hkp => ?_) | refine iG ?_ | refine iD ?_); simp (implicitDefEqProofs := false) (maxSteps := 2000000) (disch := omega) only [go_sem, zj]; (repeat' (first | (refine hK _ ?_; clear hK hkp kp K) | (with_reducible refine And.intro ?_ ?_) | omega))) | ((first | refine aG (fun h => ?_) (fun h => ?_) | refine aD (fun h => ?_) (fun h => ?_) | refine aX (fun h => ?_) (fun h => ?_)) <;> simp only [h]) | refine awp_cond_t rfl ?_ | refine awp_cond_f rfl ?_ | ((refine awp_cond rfl (fun h => ?_) (fun h => ?_) <;> try simp only [ifs] at h) <;> (try (exfalso; omega))) | refine awp_ret ?_))
        refine ⟨_, ⟨rfl, rfl⟩, ?_⟩
        (refine emb [] ?_ ?_ rfl ?_ ?_ ?_ ?_ <;> simp [okM, okO, lk, ren, renL, renNd, by_, hE, mI, mO] <;> (try omega) <;> (try (intro i hi; first | (rcases i with _ | _ | i; rfl; rfl; (exfalso; omega)) | (rcases i with _ | _ | _ | i; rfl; rfl; rfl; (exfalso; omega)) | (rcases i with _ | _ | _ | _ | i; rfl; rfl; rfl; rfl; (exfalso; omega)) | (rcases i with _ | _ | _ | _ | _ | i; rfl; rfl; rfl; rfl; rfl; (exfalso; omega)) | (rcases i with _ | _ | _ | _ | _ | _ | i; rfl; rfl; rfl; rfl; rfl; rfl; (exfalso; omega)))))
      rintro e m1 a2 w2 z2 ⟨rfl, rfl⟩ hA2 s2
      dsimp only [toX, Exit.then]
      refine wp_seq ?_
      refine wp_block ?_
      refine wp_seq ?_
      refine wp_yield (k := kk) (KM := fun m1 => m1 = (41, .agg (eEt (key, row))) :: (29, .r (.func (.yield l) #[] #[])) :: mI t u ps root k l p x j) mixed 13 [0, 1, 2, 3, 4, 5, 7, 8, 9, 10, 11, 6, 12] hA2 ?_ ?_ (by kernel_rfl) (by kernel_rfl) (by kernel_rfl) (by kernel_rfl) (by simp only [go_sem]; rfl) (by simp only [go_sem]; rfl) (by simp only [go_sem]; rfl) ?_ ?_
      · rintro ⟨a, w, h⟩; exact hO ⟨a, w, h⟩
      · exact fun c a w h => hP c a w h
      · intro E hG hE K kp hK hkp; subst hG
        have hne := key_page hok (List.mem_of_getElem? hkey)
        have hlk := o4 key (List.mem_of_getElem? hkey)
        cases key with
        | nil => exact absurd rfl hne
        | cons b kr =>
        have hc := cloneB_con E.G true b kr (by simp only [List.length_cons] at hlk; omega)
        simp only [mI, mO]
        (simp (implicitDefEqProofs := false) (maxSteps := 2000000) (disch := omega) only [go_sem, hkey, hrow, eKy, eI]; (repeat' (first | (refine hK _ ?_; clear hK hkp kp K) | (with_reducible refine And.intro ?_ ?_) | omega)))
        refine cD hc ?_
        (simp (implicitDefEqProofs := false) (maxSteps := 2000000) (disch := omega) only [go_sem, hkey, hrow, eKy, eI]; (repeat' (first | (refine hK _ ?_; clear hK hkp kp K) | (with_reducible refine And.intro ?_ ?_) | omega)))
        refine ⟨_, ⟨rfl, rfl⟩, ?_⟩
        (refine emb [] ?_ ?_ rfl ?_ ?_ ?_ ?_ <;> simp [okM, okO, lk, ren, renL, renNd, by_, hE, mI, mO, eEt] <;> (try omega) <;> (try (intro i hi; first | (rcases i with _ | _ | i; rfl; rfl; (exfalso; omega)) | (rcases i with _ | _ | _ | i; rfl; rfl; rfl; (exfalso; omega)) | (rcases i with _ | _ | _ | _ | i; rfl; rfl; rfl; rfl; (exfalso; omega)) | (rcases i with _ | _ | _ | _ | _ | i; rfl; rfl; rfl; rfl; rfl; (exfalso; omega)) | (rcases i with _ | _ | _ | _ | _ | _ | i; rfl; rfl; rfl; rfl; rfl; rfl; (exfalso; omega)))))
      rintro m1 a4 w4 z4 rfl hA4 s4
      refine ⟨l, (hA4.slot (i := 29) rfl).r_inv, ?_⟩
      have hJ4 := Y.grow _ _ _ _ _ (Y.grow _ _ _ _ _ hJ s2) s4
      obtain ⟨fn, tmps, assign, body, hy, hRr⟩ := Y.call pre (key, row) _ w4 z4 ⟨remF ps LV q (j + 1), by rw [← hrem, hst]; simp⟩ hJ4 hA4.zlt (hA4.slot (i := 41) rfl)
      refine ⟨fn, tmps, assign, body, hy, hRr.mono ?_⟩
      clear hy hRr
      rintro e w5 ⟨⟨hsz, hsame⟩, (⟨rfl, hJ5⟩ | ⟨rfl, hJ5⟩)⟩
      · refine ⟨_, rfl, ?_⟩
        have hA5 := (hA4.turn hsz hsame).putb 42 (of_decide_eq_true (by kernel_rfl)) (.bool true)
        refine rest_in (KM := fun m1 => m1 = (43, .r (.bool false)) :: mI t u ps root k l p x j) hA5 ?_ ?_ (by kernel_rfl) ?_ ?_
        · rintro ⟨a, w, h⟩; exact hO ⟨a, w, h⟩
        · intro o ho i hi
          simp only [List.mem_singleton] at ho
          subst ho; cases hi
          exact of_decide_eq_true (by kernel_rfl)
        · intro E hG hE K kp hK hkp; subst hG
          simp only [mI, mO]
          (simp (implicitDefEqProofs := false) (maxSteps := 2000000) (disch := omega) only [go_sem]; (repeat' (first | (refine hK _ ?_; clear hK hkp kp K) | (with_reducible refine And.intro ?_ ?_) | omega)))
          refine ⟨_, ⟨rfl, rfl⟩, ?_⟩
          (refine emb [] ?_ ?_ rfl ?_ ?_ ?_ ?_ <;> simp [okM, okO, lk, ren, renL, renNd, by_, hE, mI, mO] <;> (try omega) <;> (try (intro i hi; first | (rcases i with _ | _ | i; rfl; rfl; (exfalso; omega)) | (rcases i with _ | _ | _ | i; rfl; rfl; rfl; (exfalso; omega)) | (rcases i with _ | _ | _ | _ | i; rfl; rfl; rfl; rfl; (exfalso; omega)) | (rcases i with _ | _ | _ | _ | _ | i; rfl; rfl; rfl; rfl; rfl; (exfalso; omega)) | (rcases i with _ | _ | _ | _ | _ | _ | i; rfl; rfl; rfl; rfl; rfl; rfl; (exfalso; omega)))))
        rintro m1 a6 w6 z6 rfl hA6 s6
        dsimp only [Exit.then]
        refine wp_cond_false ((hA6.slot (i := 43) rfl).r_inv) (wp_skip ?_)
        dsimp only [Exit.inBlock, Exit.then]
        refine seg (AQ := fun e m1 => e = .normal ∧ m1 = mI t u ps root k l p x (j + 1)) ?_ hA6 ?_
        · intro E hG hE; subst hG
          simp only [mI, mO]
          (repeat' (first | refine awp_seq ?_ | refine awp_block ?_ | refine awp_skip ?_ | refine awp_exit ?_ | ((first | refine rR (fun K kp hK hkp => ?_) | refine rD (id := 5) mixed 15 [0,1,2,3,4,5,7,8,9,10,11,6,12,13,14] (fun K kp hK hkp => ?_) | refine iG ?_ | refine iD ?_); simp (implicitDefEqProofs := false) (maxSteps := 2000000) (disch := omega) only [go_sem]; (repeat' (first | (refine hK _ ?_; clear hK hkp kp K) | (with_reducible refine And.intro ?_ ?_) | omega))) | ((first | refine aG (fun h => ?_) (fun h => ?_) | refine aD (fun h => ?_) (fun h => ?_) | refine aX (fun h => ?_) (fun h => ?_)) <;> simp only [h]) | refine awp_cond_t rfl ?_ | refine awp_cond_f rfl ?_ | ((refine awp_cond rfl (fun h => ?_) (fun h => ?_) <;> try simp only [ifs] at h) <;> (try (exfalso; omega))) | refine awp_ret ?_))
          refine ⟨_, ⟨rfl, rfl⟩, ?_⟩
          (refine emb [] ?_ ?_ rfl ?_ ?_ ?_ ?_ <;> simp [okM, okO, lk, ren, renL, renNd, by_, hE, mI, mO] <;> (try omega) <;> (try (intro i hi; first | (rcases i with _ | _ | i; rfl; rfl; (exfalso; omega)) | (rcases i with _ | _ | _ | i; rfl; rfl; rfl; (exfalso; omega)) | (rcases i with _ | _ | _ | _ | i; rfl; rfl; rfl; rfl; (exfalso; omega)) | (rcases i with _ | _ | _ | _ | _ | i; rfl; rfl; rfl; rfl; rfl; (exfalso; omega)) | (rcases i with _ | _ | _ | _ | _ | _ | i; rfl; rfl; rfl; rfl; rfl; rfl; (exfalso; omega)))))
        rintro e m1 a7 w7 z7 ⟨rfl, rfl⟩ hA7 s7
        dsimp only [toX, Exit.then]
        refine ⟨j + 1, by omega, pre ++ [(key, row)], z7, fun t b hb => s7.sub t b (s6.sub t b (s4.sub t b (s2.sub t b (hzs t b hb)))), hA7, Y.grow _ _ _ _ _ (Y.grow _ _ _ _ _ hJ5 s6) s7, ?_⟩
        rw [hst] at hrem
        rw [← hrem]; simp
      · refine ⟨_, rfl, ?_⟩
        have hA5 := (hA4.turn hsz hsame).putb 42 (of_decide_eq_true (by kernel_rfl)) (.bool false)
        refine rest_in (KM := fun m1 => m1 = (43, .r (.bool true)) :: mI t u ps root k l p x j) hA5 ?_ ?_ (by kernel_rfl) ?_ ?_
        · rintro ⟨a, w, h⟩; exact hO ⟨a, w, h⟩
        · intro o ho i hi
          simp only [List.mem_singleton] at ho
          subst ho; cases hi
          exact of_decide_eq_true (by kernel_rfl)
        · intro E hG hE K kp hK hkp; subst hG
          simp only [mI, mO]
          (simp (implicitDefEqProofs := false) (maxSteps := 2000000) (disch := omega) only [go_sem]; (repeat' (first | (refine hK _ ?_; clear hK hkp kp K) | (with_reducible refine And.intro ?_ ?_) | omega)))
          refine ⟨_, ⟨rfl, rfl⟩, ?_⟩
          (refine emb [] ?_ ?_ rfl ?_ ?_ ?_ ?_ <;> simp [okM, okO, lk, ren, renL, renNd, by_, hE, mI, mO] <;> (try omega) <;> (try (intro i hi; first | (rcases i with _ | _ | i; rfl; rfl; (exfalso; omega)) | (rcases i with _ | _ | _ | i; rfl; rfl; rfl; (exfalso; omega)) | (rcases i with _ | _ | _ | _ | i; rfl; rfl; rfl; rfl; (exfalso; omega)) | (rcases i with _ | _ | _ | _ | _ | i; rfl; rfl; rfl; rfl; rfl; (exfalso; omega)) | (rcases i with _ | _ | _ | _ | _ | _ | i; rfl; rfl; rfl; rfl; rfl; rfl; (exfalso; omega)))))
        rintro m1 a6 w6 z6 rfl hA6 s6
        dsimp only [Exit.then]
        refine wp_cond_true ((hA6.slot (i := 43) rfl).r_inv) (wp_ret ?_)
        dsimp only [Exit.inBlock, Exit.then]
        refine bodyPost_ret (results_none rfl _ _ _) hA6.dfs ?_
        rw [hR]
        refine ⟨⟨_, rfl⟩, z6, fun t b hb => s6.sub t b (s4.sub t b (s2.sub t b (hzs t b hb))), .inr ⟨pre ++ [(key, row)], ⟨remF ps LV q (j + 1), ?_⟩, Y.growx _ _ _ _ _ hJ5 s6⟩⟩
        rw [hst] at hrem
        rw [← hrem]; simp
    · refine wp_seq ?_
      refine seg (AQ := fun e m1 => e = .exit 2 ∧ m1 = mI t u ps root k l p x j) ?_ hA ?_
      · intro E hG hE; subst hG
        have zj : ((j : Int) < (p.keys.length : Int)) = False := eq_false (by omega)
        simp only [mI, mO]
        (repeat' (first | refine awp_seq ?_ | refine awp_block ?_ | refine awp_skip ?_ | refine awp_exit ?_ | ((first | refine rR (fun K kp hK hkp => ?_) | refine rD (id := 5) mixed 15 [0,1,2,3,4,5,7,8,9,10,11,6,12,13,14] (fun K kp hK hkp => ?_) | refine iG ?_ | refine iD ?_); simp (implicitDefEqProofs := false) (maxSteps := 2000000) (disch := omega) only [go_sem, zj]; (repeat' (first | (refine hK _ ?_; clear hK hkp kp K) | (with_reducible refine And.intro ?_ ?_) | omega))) | ((first | refine aG (fun h => ?_) (fun h => ?_) | refine aD (fun h => ?_) (fun h => ?_) | refine aX (fun h => ?_) (fun h => ?_)) <;> simp only [h]) | refine awp_cond_t rfl ?_ | refine awp_cond_f rfl ?_ | ((refine awp_cond rfl (fun h => ?_) (fun h => ?_) <;> try simp only [ifs] at h) <;> (try (exfalso; omega))) | refine awp_ret ?_))
        refine ⟨_, ⟨rfl, rfl⟩, ?_⟩
        (refine emb [] ?_ ?_ rfl ?_ ?_ ?_ ?_ <;> simp [okM, okO, lk, ren, renL, renNd, by_, hE, mI, mO] <;> (try omega) <;> (try (intro i hi; first | (rcases i with _ | _ | i; rfl; rfl; (exfalso; omega)) | (rcases i with _ | _ | _ | i; rfl; rfl; rfl; (exfalso; omega)) | (rcases i with _ | _ | _ | _ | i; rfl; rfl; rfl; rfl; (exfalso; omega)) | (rcases i with _ | _ | _ | _ | _ | i; rfl; rfl; rfl; rfl; rfl; (exfalso; omega)) | (rcases i with _ | _ | _ | _ | _ | _ | i; rfl; rfl; rfl; rfl; rfl; rfl; (exfalso; omega)))))
      rintro e m1 a2 w2 z2 ⟨rfl, rfl⟩ hA2 s2
      dsimp only [toX, Exit.then, Exit.inBlock]
      simp only [if_true, ↓reduceIte]
      refine seg (AQ := fun e m1 => e = .normal ∧ m1 = mO t u ps root k l (leafAt LV (q + 1)) 0) ?_ hA2 ?_
      · intro E hG hE; subst hG
        simp only [mI, mO]
        (repeat' (first | refine awp_seq ?_ | refine awp_block ?_ | refine awp_skip ?_ | refine awp_exit ?_ | ((first | refine rR (fun K kp hK hkp => ?_) | refine rD (id := 5) mixed 15 [0,1,2,3,4,5,7,8,9,10,11,6,12,13,14] (fun K kp hK hkp => ?_) | refine iG ?_ | refine iD ?_); simp (implicitDefEqProofs := false) (maxSteps := 2000000) (disch := omega) only [go_sem]; (repeat' (first | (refine hK _ ?_; clear hK hkp kp K) | (with_reducible refine And.intro ?_ ?_) | omega))) | ((first | refine aG (fun h => ?_) (fun h => ?_) | refine aD (fun h => ?_) (fun h => ?_) | refine aX (fun h => ?_) (fun h => ?_)) <;> simp only [h]) | refine awp_cond_t rfl ?_ | refine awp_cond_f rfl ?_ | ((refine awp_cond rfl (fun h => ?_) (fun h => ?_) <;> try simp only [ifs] at h) <;> (try (exfalso; omega))) | refine awp_ret ?_))
        refine ⟨_, ⟨rfl, rfl⟩, ?_⟩
        (refine emb [] ?_ ?_ rfl ?_ ?_ ?_ ?_ <;> simp [okM, okO, lk, ren, renL, renNd, by_, hE, mI, mO, hle2] <;> (try omega) <;> (try (intro i hi; first | (rcases i with _ | _ | i; rfl; rfl; (exfalso; omega)) | (rcases i with _ | _ | _ | i; rfl; rfl; rfl; (exfalso; omega)) | (rcases i with _ | _ | _ | _ | i; rfl; rfl; rfl; rfl; (exfalso; omega)) | (rcases i with _ | _ | _ | _ | _ | i; rfl; rfl; rfl; rfl; rfl; (exfalso; omega)) | (rcases i with _ | _ | _ | _ | _ | _ | i; rfl; rfl; rfl; rfl; rfl; rfl; (exfalso; omega)))))
      rintro e m1 a3 w3 z3 ⟨rfl, rfl⟩ hA3 s3
      dsimp only [toX, Exit.then, Exit.inBlock]
      refine ⟨(q + 1, 0), by dsimp only; omega, pre, z3, fun t b hb => s3.sub t b (s2.sub t b (hzs t b hb)), hA3, Y.grow _ _ _ _ _ (Y.grow _ _ _ _ _ hJ s2) s3, ?_⟩
      rw [← remF_next (at_ := j) hx (by rw [hent, List.length_zip]; omega)]
      exact hrem
  · have hle : leafAt LV q = -1 := by rw [leafAt, List.getElem?_eq_none (by omega)]
    rw [hle] at hA
    rw [remF_end (by omega), List.append_nil] at hrem
    refine wp_seq ?_
    refine seg (AQ := fun e m1 => e = .exit 0 ∧ m1 = mO t u ps root k l (-1) at_) ?_ hA ?_
    · intro E hG hE; subst hG
      simp only [mO]
      (repeat' (first | refine awp_seq ?_ | refine awp_block ?_ | refine awp_skip ?_ | refine awp_exit ?_ | ((first | refine rR (fun K kp hK hkp => ?_) | refine rD (id := 5) mixed 15 [0,1,2,3,4,5,7,8,9,10,11,6,12,13,14] (fun K kp hK hkp => ?_) | refine iG ?_ | refine iD ?_); simp (implicitDefEqProofs := false) (maxSteps := 2000000) (disch := omega) only [go_sem]; (repeat' (first | (refine hK _ ?_; clear hK hkp kp K) | (with_reducible refine And.intro ?_ ?_) | omega))) | ((first | refine aG (fun h => ?_) (fun h => ?_) | refine aD (fun h => ?_) (fun h => ?_) | refine aX (fun h => ?_) (fun h => ?_)) <;> simp only [h]) | refine awp_cond_t rfl ?_ | refine awp_cond_f rfl ?_ | ((refine awp_cond rfl (fun h => ?_) (fun h => ?_) <;> try simp only [ifs] at h) <;> (try (exfalso; omega))) | refine awp_ret ?_))
      refine ⟨_, ⟨rfl, rfl⟩, ?_⟩
      (refine emb [] ?_ ?_ rfl ?_ ?_ ?_ ?_ <;> simp [okM, okO, lk, ren, renL, renNd, by_, hE, mO] <;> (try omega) <;> (try (intro i hi; first | (rcases i with _ | _ | i; rfl; rfl; (exfalso; omega)) | (rcases i with _ | _ | _ | i; rfl; rfl; rfl; (exfalso; omega)) | (rcases i with _ | _ | _ | _ | i; rfl; rfl; rfl; rfl; (exfalso; omega)) | (rcases i with _ | _ | _ | _ | _ | i; rfl; rfl; rfl; rfl; rfl; (exfalso; omega)) | (rcases i with _ | _ | _ | _ | _ | _ | i; rfl; rfl; rfl; rfl; rfl; rfl; (exfalso; omega)))))
    rintro e m1 a2 w2 z2 ⟨rfl, rfl⟩ hA2 s2
    dsimp only [toX, Exit.then, Exit.inBlock]
    simp only [if_true, ↓reduceIte]
    refine bodyPost_end (results_none rfl _ _ _) hA2.dfs ?_
    rw [hR]
    exact ⟨⟨_, rfl⟩, z2, fun t b hb => s2.sub t b (hzs t b hb), .inl (by rw [← hrem]; exact Y.grow _ _ _ _ _ hJ s2)⟩
end Go.AM
/- tree.Scan: its contract. -/
namespace Go.AM
open Go Go.RowKit
attribute [local irreducible] AWP retA
def stopB (m : Ky) (e : Et) : Bool := decide (0 < m.length) && ltK m e.1
def okS (m : Ky) (l : List Et) : Prop := ∀ e ∈ l, stopB m e = false
/-- A part of what comes, of which only the last one stops. -/
def cutS (m : Ky) (l : List Et) : Prop := ∃ l' e, l = l' ++ [e] ∧ okS m l' ∧ stopB m e = true
theorem take_ok {m : Ky} {l : List Et} (h : okS m l) : l.takeWhile (fun e => !stopB m e) = l := by
  induction l with
  | nil => rfl
  | cons x r ih => rw [List.takeWhile_cons, h x (by simp), ih fun e he => h e (by simp [he])]; rfl
theorem take_cut {m : Ky} {l all : List Et} (h : cutS m l) (hp : l <+: all) : all.takeWhile (fun e => !stopB m e) = l.dropLast := by
  obtain ⟨l', e, rfl, hk, hs⟩ := h
  obtain ⟨r, rfl⟩ := hp
  rw [List.dropLast_concat]
  induction l' with
  | nil => simp [hs]
  | cons x q ih =>
    have h1 := hk x (by simp)
    have h2 := ih (fun e he => hk e (by simp [he]))
    simp only [List.cons_append, List.takeWhile_cons, h1, Bool.not_false, if_true]
    rw [h2]
section
variable {ps : List PG} {r d : Nat}
/-- Where a key's leaf stands among the leaves. -/
theorem leaf_at (h : Trd ps r d) (k : Ky) : ∃ q, q < (lvl ps d [r]).length ∧ leafAt (lvl ps d [r]) q = leafF ps k d r ∧ remF ps (lvl ps d [r]) q (placeM (pg ps (leafF ps k d r)) k) = (entsF ps d r).filter (fun e => !ltK e.1 k) := by
  obtain ⟨A, B, e, hA, hB, lo, hi, hgl, _⟩ := leaf_split h.ok k d r [] [] h.good (.inl rfl)
  have hx : (lvl ps d [r])[A.length]? = some (leafF ps k d r) := by rw [e]; simp
  refine ⟨A.length, (List.getElem?_eq_some_iff.1 hx).1, by rw [leafAt, hx], ?_⟩
  have hl := h.leaf k
  have hok := ok_in h.ok hl
  have hlf := hgl.1
  rw [remF_at hx, entsF, e]
  generalize leafF ps k d r = x at *
  have hpl : placeM (pg ps x) k = lowB k (pg ps x).keys := if_neg fun h => by rw [hlf] at h; cases h.1
  rw [hpl, List.flatMap_append, List.flatMap_cons, List.filter_append, List.filter_append]
  have e1 : (A.flatMap (entL ps)).filter (fun e => !ltK e.1 k) = [] := by
    rw [List.filter_eq_nil_iff]
    intro e he
    obtain ⟨y, hy, he⟩ := List.mem_flatMap.1 he
    rw [hA y hy e.1 (entL_keys he)]; simp
  have e2 : (B.flatMap (entL ps)).filter (fun e => !ltK e.1 k) = B.flatMap (entL ps) := by
    rw [List.filter_eq_self]
    intro e he
    obtain ⟨y, hy, he⟩ := List.mem_flatMap.1 he
    rw [ltK_asymm (hB y hy e.1 (entL_keys he))]; rfl
  have e3 : (entL ps x).filter (fun e => !ltK e.1 k) = (entL ps x).drop (lowB k (pg ps x).keys) := by
    have hs := srt_page hok
    rw [entL]
    generalize (pg ps x).kids = is
    generalize (pg ps x).keys = ks at hs
    clear hx e hA hB hpl e1 e2 hlf hgl hok
    induction ks generalizing is with
    | nil => simp
    | cons y ks ih =>
      have hs' : SrtK ks := fun i j a b hij ha hb => hs (i + 1) (j + 1) a b (by omega) (by simpa using ha) (by simpa using hb)
      cases is with
      | nil => simp
      | cons n is =>
        rw [List.zip_cons_cons, List.filter_cons, lowB]
        by_cases hy : ltK y k = true
        · rw [if_pos hy]
          simp only [hy, Bool.not_true, Bool.false_eq_true, if_false, List.drop_succ_cons]
          exact ih is hs'
        · rw [if_neg hy]
          have hy : ltK y k = false := by simpa using hy
          simp only [hy, Bool.not_false, if_true, List.drop_zero]
          congr 1
          rw [List.filter_eq_self]
          intro e he
          have h1 := (List.of_mem_zip he).1
          obtain ⟨j, hj⟩ := List.mem_iff_getElem?.1 h1
          have h2 := hs 0 (j + 1) y e.1 (by omega) rfl (by simpa using hj)
          cases h3 : ltK e.1 k
          · rfl
          · rw [ltK_trans h2 h3] at hy; cases hy
  rw [e1, e2, e3, show A ++ x :: B = (A ++ [x]) ++ B by simp, List.drop_left' (by simp)]
  rfl
end
set_option maxRecDepth 100000 in
set_option maxHeartbeats 8000000 in
theorem scan_good (G : List (Nat × List Value)) (v : Bool) {ps : List PG} {r d : Nat} (h : Trd ps r d) (ho : okPs2 ps) (hc : ChkOK ps r) (k m : Ky) (hk : k.length ≤ 100) (hm : m.length ≤ 100) :
    Con Go.Proofs.Try.prog G 19 [.agg [.ro true 5 (ps.map eP), .r (.int .i64 r)], .ro true 1 (k.map eByte), .ro v 1 (m.map eByte)] [] 0 (Is (.tup [.ro true 2 ((((entsF ps d r).filter (fun e => !ltK e.1 k)).takeWhile (fun e => !stopB m e)).map eEt), .r (.int .i64 0)]) [] 0) No := by
  obtain ⟨q0, hq0, hq1, hq2⟩ := leaf_at h k
  have hL := lv_ok h
  have fc : ∀ G, Con Go.Proofs.Try.prog G 35 [.agg [.ro true 5 (ps.map eP), .r (.int .i64 r)], .ro true 1 (k.map eByte)] [] 0 (Is (.tup [.r (.int .i64 (leafAt (lvl ps d [r]) q0)), .r (.int .i64 (placeM (pg ps (leafF ps k d r)) k)), .r (.bool (thereM (pg ps (leafF ps k d r)) k))]) [] 0) No := fun G => by
    rw [hq1]; exact find_con G true true ps r d k h.ok h.kin h.good h.rl h.n h.dl
  have hlen : ((entsF ps d r).filter (fun e => !ltK e.1 k)).length ≤ 16000 := by
    have h1 := flatE_len h.ok (lvl ps d [r])
    have h2 := h.many
    have h3 := List.length_filter_le (fun e : Et => !ltK e.1 k) (entsF ps d r)
    rw [entsF] at h3 ⊢; omega
  rw [← hq2] at hlen ⊢
  generalize hall : remF ps (lvl ps d [r]) q0 (placeM (pg ps (leafF ps k d r)) k) = all at *
  refine ⟨by kernel_rfl, fun w0 th z0 own vs hown hmem hr => ?_⟩
  have hth : th = [] := List.length_eq_zero_iff.1 hmem.len
  subst hth
  have hz0 := hmem.zlt
  have hG0 := hmem.globs
  have hA0 := at_entry (G := G) (N := (Go.Proofs.Try.f19).ntmps) hz0 hG0 hr (of_decide_eq_true (by kernel_rfl))
  refine (callsIn_wide (n := 9)).1 (callsIn_of_wp_marks Go.Proofs.Try.func19 rfl trivial ((wpIn_wide).2 ?_))
  generalize ({ tmps := _, defers := [] } : Act) = a0 at hA0 ⊢
  obtain ⟨E, hEq⟩ : ∃ E : Env, E = ⟨w0, fun _ => False, z0, G, [], []⟩ := ⟨_, rfl⟩
  have hE : E.th0.length = 0 := by rw [hEq]; rfl
  have hGE : E.G = G := by rw [hEq]
  unfold At at hA0
  rw [← hEq] at hA0
  have cc := check_con2 E.G ps r (okPs_of ho)
  rw [chkR_t hc] at cc
  have ec := each_con E.G true true ps r k
  have g1 : ((k.length : Int) > 100) = False := eq_false (by omega)
  have g2 : ((m.length : Int) > 100) = False := eq_false (by omega)
  refine wp_seq ?_
  refine segO (S1 := ⟨[(5, .p 1 0 0), (3, .p 0 0 0), (1, .ro true 1 (k.map eByte))], [(0, .box 24 [.ro true 5 (ps.map eP), .r (.int .i64 r)]), (1, .box 30 [.ro v 1 (m.map eByte)])], 2⟩) ?_ hA0 ?_
  · simp only [ent]
    (repeat' (first | refine awp_seq ?_ | refine awp_block ?_ | refine awp_skip ?_ | refine awp_exit ?_ | ((first | refine rR (fun K kp hK hkp => ?_) | refine iG ?_); simp (implicitDefEqProofs := false) (maxSteps := 2000000) (disch := omega) only [go_sem]; (repeat' (first | (refine hK _ ?_; clear hK hkp kp K) | (with_reducible refine And.intro ?_ ?_) | omega))) | ((first | refine aG (fun h => ?_) (fun h => ?_) | refine aD (fun h => ?_) (fun h => ?_) | refine aX (fun h => ?_) (fun h => ?_)) <;> simp only [h]) | refine awp_cond_t rfl ?_ | refine awp_cond_f rfl ?_ | ((refine awp_cond rfl (fun h => ?_) (fun h => ?_) <;> try simp only [ifs] at h) <;> (try (exfalso; omega))) | refine awp_ret ?_))
    show Emb E _ _ _
    (refine emb [0, 1] ?_ ?_ rfl ?_ ?_ ?_ ?_ <;> simp [okM, okO, lk, ren, renL, renNd, by_, hE] <;> (try omega) <;> (try (intro i hi; first | (rcases i with _ | _ | i; rfl; rfl; (exfalso; omega)) | (rcases i with _ | _ | _ | i; rfl; rfl; rfl; (exfalso; omega)) | (rcases i with _ | _ | _ | _ | i; rfl; rfl; rfl; rfl; (exfalso; omega)) | (rcases i with _ | _ | _ | _ | _ | i; rfl; rfl; rfl; rfl; rfl; (exfalso; omega)) | (rcases i with _ | _ | _ | _ | _ | _ | i; rfl; rfl; rfl; rfl; rfl; rfl; (exfalso; omega)))))
  intro th1 z1 a1 w1 hs1
  refine wp_seq ?_
  refine segO (S1 := ⟨[(5, .p 1 0 0), (3, .p 0 0 0), (1, .ro true 1 (k.map eByte))], [(0, .box 24 [.ro true 5 (ps.map eP), .r (.int .i64 r)]), (1, .box 30 [.ro v 1 (m.map eByte)])], 2⟩) ?_ hs1 ?_
  · (repeat' (first | refine awp_seq ?_ | refine awp_block ?_ | refine awp_skip ?_ | refine awp_exit ?_ | ((first | refine rR (fun K kp hK hkp => ?_) | refine cR cc ?_ | refine iG ?_); simp (implicitDefEqProofs := false) (maxSteps := 2000000) (disch := omega) only [go_sem, bne_self_eq_false]; (repeat' (first | (refine hK _ ?_; clear hK hkp kp K) | (with_reducible refine And.intro ?_ ?_) | omega))) | ((first | refine aG (fun h => ?_) (fun h => ?_) | refine aD (fun h => ?_) (fun h => ?_) | refine aX (fun h => ?_) (fun h => ?_)) <;> simp only [h]) | refine awp_cond_t rfl ?_ | refine awp_cond_f rfl ?_ | ((refine awp_cond rfl (fun h => ?_) (fun h => ?_) <;> try simp only [ifs] at h) <;> (try (exfalso; omega))) | refine awp_ret ?_))
    show Emb E _ _ _
    (refine emb [0, 1] ?_ ?_ rfl ?_ ?_ ?_ ?_ <;> simp [okM, okO, lk, ren, renL, renNd, by_, hE] <;> (try omega) <;> (try (intro i hi; first | (rcases i with _ | _ | i; rfl; rfl; (exfalso; omega)) | (rcases i with _ | _ | _ | i; rfl; rfl; rfl; (exfalso; omega)) | (rcases i with _ | _ | _ | _ | i; rfl; rfl; rfl; rfl; (exfalso; omega)) | (rcases i with _ | _ | _ | _ | _ | i; rfl; rfl; rfl; rfl; rfl; (exfalso; omega)) | (rcases i with _ | _ | _ | _ | _ | _ | i; rfl; rfl; rfl; rfl; rfl; rfl; (exfalso; omega)))))
  intro th2 z2 a2 w2 hs2
  refine wp_seq ?_
  refine segO (S1 := ⟨[(5, .p 1 0 0), (3, .p 0 0 0), (1, .ro true 1 (k.map eByte))], [(0, .box 24 [.ro true 5 (ps.map eP), .r (.int .i64 r)]), (1, .box 30 [.ro v 1 (m.map eByte)])], 2⟩) ?_ hs2 ?_
  · (repeat' (first | refine awp_seq ?_ | refine awp_block ?_ | refine awp_skip ?_ | refine awp_exit ?_ | ((first | refine rR (fun K kp hK hkp => ?_) | refine iG ?_); simp (implicitDefEqProofs := false) (maxSteps := 2000000) (disch := omega) only [go_sem, g1, g2]; (repeat' (first | (refine hK _ ?_; clear hK hkp kp K) | (with_reducible refine And.intro ?_ ?_) | omega))) | ((first | refine aG (fun h => ?_) (fun h => ?_) | refine aD (fun h => ?_) (fun h => ?_) | refine aX (fun h => ?_) (fun h => ?_)) <;> simp only [h]) | refine awp_cond_t rfl ?_ | refine awp_cond_f rfl ?_ | ((refine awp_cond rfl (fun h => ?_) (fun h => ?_) <;> try simp only [ifs] at h) <;> (try (exfalso; omega))) | refine awp_ret ?_))
    show Emb E _ _ _
    (refine emb [0, 1] ?_ ?_ rfl ?_ ?_ ?_ ?_ <;> simp [okM, okO, lk, ren, renL, renNd, by_, hE] <;> (try omega) <;> (try (intro i hi; first | (rcases i with _ | _ | i; rfl; rfl; (exfalso; omega)) | (rcases i with _ | _ | _ | i; rfl; rfl; rfl; (exfalso; omega)) | (rcases i with _ | _ | _ | _ | i; rfl; rfl; rfl; rfl; (exfalso; omega)) | (rcases i with _ | _ | _ | _ | _ | i; rfl; rfl; rfl; rfl; rfl; (exfalso; omega)) | (rcases i with _ | _ | _ | _ | _ | _ | i; rfl; rfl; rfl; rfl; rfl; rfl; (exfalso; omega)))))
  intro th3 z3 a3 w3 hs3
  refine wp_seq ?_
  refine segO (S1 := ⟨[(9, .p 2 0 0), (5, .p 1 0 0), (3, .p 0 0 0), (1, .ro true 1 (k.map eByte))], [(0, .box 24 [.ro true 5 (ps.map eP), .r (.int .i64 r)]), (1, .box 30 [.ro v 1 (m.map eByte)]), (2, .box 40 [.s 3 0 0]), (3, .lst 36 2 [])], 4⟩) ?_ hs3 ?_
  · (repeat' (first | refine awp_seq ?_ | refine awp_block ?_ | refine awp_skip ?_ | refine awp_exit ?_ | ((first | refine rR (fun K kp hK hkp => ?_) | refine iG ?_); simp (implicitDefEqProofs := false) (maxSteps := 2000000) (disch := omega) only [go_sem]; (repeat' (first | (refine hK _ ?_; clear hK hkp kp K) | (with_reducible refine And.intro ?_ ?_) | omega))) | ((first | refine aG (fun h => ?_) (fun h => ?_) | refine aD (fun h => ?_) (fun h => ?_) | refine aX (fun h => ?_) (fun h => ?_)) <;> simp only [h]) | refine awp_cond_t rfl ?_ | refine awp_cond_f rfl ?_ | ((refine awp_cond rfl (fun h => ?_) (fun h => ?_) <;> try simp only [ifs] at h) <;> (try (exfalso; omega))) | refine awp_ret ?_))
    show Emb E _ _ _
    refine Emb.trans (emb_nilB 2 0 36 2 rfl rfl (by simp)) ?_
    simp only [List.set_cons_zero, List.set_cons_succ, lk, ↓reduceIte, Nat.reduceAdd]
    (refine emb [0, 1, 2, 3] ?_ ?_ rfl ?_ ?_ ?_ ?_ <;> simp [okM, okO, lk, ren, renL, renNd, by_, hE] <;> (try omega) <;> (try (intro i hi; first | (rcases i with _ | _ | i; rfl; rfl; (exfalso; omega)) | (rcases i with _ | _ | _ | i; rfl; rfl; rfl; (exfalso; omega)) | (rcases i with _ | _ | _ | _ | i; rfl; rfl; rfl; rfl; (exfalso; omega)) | (rcases i with _ | _ | _ | _ | _ | i; rfl; rfl; rfl; rfl; rfl; (exfalso; omega)) | (rcases i with _ | _ | _ | _ | _ | _ | i; rfl; rfl; rfl; rfl; rfl; rfl; (exfalso; omega)))))
  intro th4 z4 a4 w4 hs4
  refine wp_seq ?_
  refine wp_seq ?_
  refine segO (S1 := ⟨[(26, eachA true true ps r k), (9, .p 2 0 0), (5, .p 1 0 0), (3, .p 0 0 0), (1, .ro true 1 (k.map eByte))], [(0, .box 24 [.ro true 5 (ps.map eP), .r (.int .i64 r)]), (1, .box 30 [.ro v 1 (m.map eByte)]), (2, .box 40 [.s 3 0 0]), (3, .lst 36 2 [])], 4⟩) ?_ hs4 ?_
  · simp only [eachA] at ec
    (repeat' (first | refine awp_seq ?_ | refine awp_block ?_ | refine awp_skip ?_ | refine awp_exit ?_ | ((first | refine rR (fun K kp hK hkp => ?_) | refine cR ec ?_ | refine iG ?_); simp (implicitDefEqProofs := false) (maxSteps := 2000000) (disch := omega) only [go_sem]; (repeat' (first | (refine hK _ ?_; clear hK hkp kp K) | (with_reducible refine And.intro ?_ ?_) | omega))) | ((first | refine aG (fun h => ?_) (fun h => ?_) | refine aD (fun h => ?_) (fun h => ?_) | refine aX (fun h => ?_) (fun h => ?_)) <;> simp only [h]) | refine awp_cond_t rfl ?_ | refine awp_cond_f rfl ?_ | ((refine awp_cond rfl (fun h => ?_) (fun h => ?_) <;> try simp only [ifs] at h) <;> (try (exfalso; omega))) | refine awp_ret ?_))
    show Emb E _ _ _
    (refine emb [0, 1, 2, 3] ?_ ?_ rfl ?_ ?_ ?_ ?_ <;> simp [okM, okO, lk, ren, renL, renNd, by_, hE, eachA] <;> (try omega) <;> (try (intro i hi; first | (rcases i with _ | _ | i; rfl; rfl; (exfalso; omega)) | (rcases i with _ | _ | _ | i; rfl; rfl; rfl; (exfalso; omega)) | (rcases i with _ | _ | _ | _ | i; rfl; rfl; rfl; rfl; (exfalso; omega)) | (rcases i with _ | _ | _ | _ | _ | i; rfl; rfl; rfl; rfl; rfl; (exfalso; omega)) | (rcases i with _ | _ | _ | _ | _ | _ | i; rfl; rfl; rfl; rfl; rfl; rfl; (exfalso; omega)))))
  intro th5 z5 a5 w5 hs5
  refine wp_block ?_
  rw [hEq] at hs5
  clear hs1 hs2 hs3 hs4 hA0 cc ec
  obtain ⟨y, hy, hry⟩ := hs5.slots 26 _ rfl
  unfold eachA at hry
  cases hry with
  | fn _ _ _ ys hl hx =>
  have hr2 : Reps w5 z5 th5 [.re true [.ro true 5 (ps.map eP), .r (.int .i64 r)] 0, .re true [.ro true 1 (k.map eByte)] 0] ys := ⟨hl, hx⟩
  obtain ⟨pT, qT, rfl, r1, r2⟩ := hr2.head
  obtain ⟨pK, qK, rfl, r3, r4⟩ := r2.head
  obtain rfl := r4.of_nil
  have r1 := Rep.unpure rfl r1
  have r3 := Rep.unpure rfl r3
  have hlen5 : th5.length = 4 := hs5.mem.len
  have hl3 : (th5.take 3).length = 3 := by rw [List.length_take]; omega
  have hS05 : Since w0 z0 w5 z5 := since_of_mem hs5.mem
  refine wp_range (G := G) (N := (Go.Proofs.Try.f19).ntmps) (kk := 7) (w0 := w0) (z0 := z0) (zc := z5) (th0 := th5.take 3) (th := th5) (m := [(9, .p 2 0 0), (5, .p 1 0 0)]) (eA := fun x : Et => .agg (eEt x)) (all := all) (gf := 55) (lb := #[pT, pK])
    (fun pre => [(0, .box 24 [.ro true 5 (ps.map eP), .r (.int .i64 r)]), (1, .box 30 [.ro v 1 (m.map eByte)]), (2, .box 40 [.s 3 0 pre.length]), (3, .lst 36 2 (pre.map eEt))]) 4
    (fun pre x => ⟨[(10, .p 4 0 0), (9, .p 2 0 0), (5, .p 1 0 0)], [(0, .box 24 [.ro true 5 (ps.map eP), .r (.int .i64 r)]), (1, .box 30 [.ro v 1 (m.map eByte)]), (2, .box 40 [.s 3 0 pre.length]), (3, .lst 36 2 (pre.map eEt)), (4, .box 36 (eEt x))], 5⟩)
    (fun _ pre => [(0, .box 24 [.ro true 5 (ps.map eP), .r (.int .i64 r)]), (1, .box 30 [.ro v 1 (m.map eByte)]), (2, .box 40 [.s 3 0 pre.dropLast.length]), (3, .lst 36 2 (pre.dropLast.map eEt))]) 4
    (fun pre => okS m pre) (fun e pre => e = .exit 0 ∧ cutS m pre) (fun _ => rfl) (fun _ _ => rfl) (fun _ _ => rfl) (fun v pre h => (by cases h.1)) ?hok hs5.mem ?hsl ?hth hs5.size hs5.dfs ?hg (by kernel_rfl) (of_decide_eq_true (by kernel_rfl)) rfl ?hit ?hassign ?hbody ?hdone ?hstop
  case hok => exact fun e he => (by cases he)
  case hsl =>
    intro i x hi
    simp only [lk] at hi
    split at hi
    · rename_i e; subst e; cases hi
      obtain ⟨y, hy, hr⟩ := hs5.slots 9 _ rfl
      refine ⟨y, hy, ?_⟩
      cases hr with
      | p _ _ _ _ L hL => exact .p _ _ _ _ L (by rw [List.getElem?_take_of_lt (by omega)]; exact hL)
    · split at hi
      · rename_i e; subst e; cases hi
        obtain ⟨y, hy, hr⟩ := hs5.slots 5 _ rfl
        refine ⟨y, hy, ?_⟩
        cases hr with
        | p _ _ _ _ L hL => exact .p _ _ _ _ L (by rw [List.getElem?_take_of_lt (by omega)]; exact hL)
      · cases hi
  case hth =>
    intro i L hi
    have h1 := (List.getElem?_eq_some_iff.1 hi).1
    rw [List.getElem?_take_of_lt (by omega)] at hi
    exact hi
  case hg => simp only [Act.eval, Array.getD_eq_getD_getElem?, hy, Option.getD_some]
  case hit =>
    intro J Jx W z Y hzlt hS hJ
    rw [← hall] at Y
    have he := each1_any (G := G) hL ho h.ok fc Y W z hzlt (fun g cs hg => by
      obtain ⟨h1, h2⟩ := hG0 g cs hg
      have h3 := hS05.trans hS
      exact ⟨h3.sub _ _ h1, fun j v hv => (cell_heap (h3.ext.same g (hz0 _ _ h1)) j).trans (h2 j v hv)⟩) pT pK
      (.cons (r1.on' ⟨hS.sub, fun t b hb => hS.ext.same b (hs5.mem.zlt t b hb)⟩) (.cons (r3.on' ⟨hS.sub, fun t b hb => hS.ext.same b (hs5.mem.zlt t b hb)⟩) .nil)) hJ
    rw [hall] at he
    simpa using he
  case hassign =>
    intro E pre x hpx hk hG hE
    rw [hl3] at hE
    refine awr_region (fun K kp hK hkp => ?_)
    (simp (implicitDefEqProofs := false) (maxSteps := 2000000) (disch := omega) only [go_sem, eEt]; (repeat' (first | (refine hK _ ?_; clear hK hkp kp K) | (with_reducible refine And.intro ?_ ?_) | omega)))
    · rfl
    · (refine emb [0, 1, 2, 3, 4] ?_ ?_ rfl ?_ ?_ ?_ ?_ <;> simp [okM, okO, lk, ren, renL, renNd, by_, hE, eEt] <;> (try omega) <;> (try (intro i hi; first | (rcases i with _ | _ | i; rfl; rfl; (exfalso; omega)) | (rcases i with _ | _ | _ | i; rfl; rfl; rfl; (exfalso; omega)) | (rcases i with _ | _ | _ | _ | i; rfl; rfl; rfl; rfl; (exfalso; omega)) | (rcases i with _ | _ | _ | _ | _ | i; rfl; rfl; rfl; rfl; rfl; (exfalso; omega)) | (rcases i with _ | _ | _ | _ | _ | _ | i; rfl; rfl; rfl; rfl; rfl; rfl; (exfalso; omega)))))
  case hbody =>
    intro E pre x hpx hk hG hE
    rw [hl3] at hE
    have hpl : pre.length + 1 ≤ 16000 := by
      have := hpx.length_le
      simp only [List.length_append, List.length_cons, List.length_nil] at this; omega
    have hbc := bcmp_con E.G true v x.1 m
    refine awr_block ?_
    refine awr_seq ?_
    refine awr_seq ?_
    refine awr_region (fun K kp hK hkp => ?_)
    by_cases hm0 : 0 < m.length
    · have z0 : ((m.length : Int) > 0) = True := eq_true (by omega)
      cases hlt : ltK m x.1
      · have hst : stopB m x = false := by simp [stopB, hlt]
        (simp (implicitDefEqProofs := false) (maxSteps := 2000000) (disch := omega) only [go_sem, eEt, z0]; (repeat' (first | (refine hK _ ?_; clear hK hkp kp K) | (with_reducible refine And.intro ?_ ?_) | omega)))
        refine cR hbc ?_
        (simp (implicitDefEqProofs := false) (maxSteps := 2000000) (disch := omega) only [go_sem, eEt, z0, cmp_gt0, hlt]; (repeat' (first | (refine hK _ ?_; clear hK hkp kp K) | (with_reducible refine And.intro ?_ ?_) | omega)))
        refine awr_cond_f rfl ?_
        refine awr_skip ?_
        refine awr_region (fun K kp hK hkp => ?_)
        (simp (implicitDefEqProofs := false) (maxSteps := 2000000) (disch := omega) only [go_sem, eEt]; (repeat' (first | (refine hK _ ?_; clear hK hkp kp K) | (with_reducible refine And.intro ?_ ?_) | omega)))
        refine Or.inl ⟨rfl, ?_, ?_⟩
        · intro e he
          rcases List.mem_append.1 he with he | he
          · exact hk e he
          · rw [List.mem_singleton.1 he]; exact hst
        · (refine emb [0, 1, 2, 6] ?_ ?_ rfl ?_ ?_ ?_ ?_ <;> simp [okM, okO, lk, ren, renL, renNd, by_, hE, eEt] <;> (try omega) <;> (try (intro i hi; first | (rcases i with _ | _ | i; rfl; rfl; (exfalso; omega)) | (rcases i with _ | _ | _ | i; rfl; rfl; rfl; (exfalso; omega)) | (rcases i with _ | _ | _ | _ | i; rfl; rfl; rfl; rfl; (exfalso; omega)) | (rcases i with _ | _ | _ | _ | _ | i; rfl; rfl; rfl; rfl; rfl; (exfalso; omega)) | (rcases i with _ | _ | _ | _ | _ | _ | i; rfl; rfl; rfl; rfl; rfl; rfl; (exfalso; omega)))))
      · have hst : stopB m x = true := by simp [stopB, hlt, hm0]
        (simp (implicitDefEqProofs := false) (maxSteps := 2000000) (disch := omega) only [go_sem, eEt, z0]; (repeat' (first | (refine hK _ ?_; clear hK hkp kp K) | (with_reducible refine And.intro ?_ ?_) | omega)))
        refine cR hbc ?_
        (simp (implicitDefEqProofs := false) (maxSteps := 2000000) (disch := omega) only [go_sem, eEt, z0, cmp_gt0, hlt]; (repeat' (first | (refine hK _ ?_; clear hK hkp kp K) | (with_reducible refine And.intro ?_ ?_) | omega)))
        refine awr_cond_t rfl ?_
        refine awr_exit ?_
        refine Or.inr ⟨by simp, ⟨rfl, pre, x, rfl, hk, hst⟩, ?_⟩
        (refine emb [0, 1, 2, 3] ?_ ?_ rfl ?_ ?_ ?_ ?_ <;> simp [okM, okO, lk, ren, renL, renNd, by_, hE, eEt] <;> (try omega) <;> (try (intro i hi; first | (rcases i with _ | _ | i; rfl; rfl; (exfalso; omega)) | (rcases i with _ | _ | _ | i; rfl; rfl; rfl; (exfalso; omega)) | (rcases i with _ | _ | _ | _ | i; rfl; rfl; rfl; rfl; (exfalso; omega)) | (rcases i with _ | _ | _ | _ | _ | i; rfl; rfl; rfl; rfl; rfl; (exfalso; omega)) | (rcases i with _ | _ | _ | _ | _ | _ | i; rfl; rfl; rfl; rfl; rfl; rfl; (exfalso; omega)))))
    · have z0 : ((m.length : Int) > 0) = False := eq_false (by omega)
      have hst : stopB m x = false := by simp [stopB, hm0]
      (simp (implicitDefEqProofs := false) (maxSteps := 2000000) (disch := omega) only [go_sem, eEt, z0]; (repeat' (first | (refine hK _ ?_; clear hK hkp kp K) | (with_reducible refine And.intro ?_ ?_) | omega)))
      refine awr_cond_f rfl ?_
      refine awr_skip ?_
      refine awr_region (fun K kp hK hkp => ?_)
      (simp (implicitDefEqProofs := false) (maxSteps := 2000000) (disch := omega) only [go_sem, eEt]; (repeat' (first | (refine hK _ ?_; clear hK hkp kp K) | (with_reducible refine And.intro ?_ ?_) | omega)))
      refine Or.inl ⟨rfl, ?_, ?_⟩
      · intro e he
        rcases List.mem_append.1 he with he | he
        · exact hk e he
        · rw [List.mem_singleton.1 he]; exact hst
      · (refine emb [0, 1, 2, 6] ?_ ?_ rfl ?_ ?_ ?_ ?_ <;> simp [okM, okO, lk, ren, renL, renNd, by_, hE, eEt] <;> (try omega) <;> (try (intro i hi; first | (rcases i with _ | _ | i; rfl; rfl; (exfalso; omega)) | (rcases i with _ | _ | _ | i; rfl; rfl; rfl; (exfalso; omega)) | (rcases i with _ | _ | _ | _ | i; rfl; rfl; rfl; rfl; (exfalso; omega)) | (rcases i with _ | _ | _ | _ | _ | i; rfl; rfl; rfl; rfl; rfl; (exfalso; omega)) | (rcases i with _ | _ | _ | _ | _ | _ | i; rfl; rfl; rfl; rfl; rfl; rfl; (exfalso; omega)))))
  case hdone =>
    intro W z' hk hJ hd
    have hres := take_ok hk
    dsimp only [Exit.inBlock, Exit.then]
    rw [hres]
    obtain ⟨th6, z6, hs6, hb6, hD6⟩ := hJ.sim hs5.size
    have hE : (EpM w5.heap.size w0 G (th5.take 3) W z6).th0.length = 3 := hl3
    refine wp_seq ?_
    refine segO (S1 := ⟨[(7, .r (.int .i64 0)), (6, .s 3 0 (all).length)], [(0, .box 24 [.ro true 5 (ps.map eP), .r (.int .i64 r)]), (1, .box 30 [.ro v 1 (m.map eByte)]), (2, .box 40 [.s 3 0 (all).length]), (3, .lst 36 2 ((all).map eEt))], 4⟩) ?_ hs6 ?_
    · (repeat' (first | refine awp_seq ?_ | refine awp_block ?_ | refine awp_skip ?_ | refine awp_exit ?_ | ((first | refine rR (fun K kp hK hkp => ?_) | refine iG ?_); simp (implicitDefEqProofs := false) (maxSteps := 2000000) (disch := omega) only [go_sem]; (repeat' (first | (refine hK _ ?_; clear hK hkp kp K) | (with_reducible refine And.intro ?_ ?_) | omega))) | ((first | refine aG (fun h => ?_) (fun h => ?_) | refine aD (fun h => ?_) (fun h => ?_) | refine aX (fun h => ?_) (fun h => ?_)) <;> simp only [h]) | refine awp_cond_t rfl ?_ | refine awp_cond_f rfl ?_ | ((refine awp_cond rfl (fun h => ?_) (fun h => ?_) <;> try simp only [ifs] at h) <;> (try (exfalso; omega))) | refine awp_ret ?_))
      show Emb _ _ _ _
      (refine emb [0, 1, 2, 3] ?_ ?_ rfl ?_ ?_ ?_ ?_ <;> simp [okM, okO, lk, ren, renL, renNd, by_, hE] <;> (try omega) <;> (try (intro i hi; first | (rcases i with _ | _ | i; rfl; rfl; (exfalso; omega)) | (rcases i with _ | _ | _ | i; rfl; rfl; rfl; (exfalso; omega)) | (rcases i with _ | _ | _ | _ | i; rfl; rfl; rfl; rfl; (exfalso; omega)) | (rcases i with _ | _ | _ | _ | _ | i; rfl; rfl; rfl; rfl; rfl; (exfalso; omega)) | (rcases i with _ | _ | _ | _ | _ | _ | i; rfl; rfl; rfl; rfl; rfl; rfl; (exfalso; omega)))))
    intro th7 z7 a7 w7 hs7
    refine wp_ret ?_
    refine ret_range hs7 rfl hb6 hS05.ext.size hD6 hd hG0 hz0 ?_
    intro E hE
    refine ⟨_, rfl, ?_⟩
    refine embS_frz (by simp only [oneA]; simp (implicitDefEqProofs := false) (maxSteps := 2000000) (disch := omega) only [go_sem]; rfl) ?_
    refine (embV_nil hE (by simp) ?_).s
    simp [oneA, ren, renL]
  case hstop =>
    intro e pre W z' hpre hX hJ hd
    obtain ⟨rfl, hcut⟩ := hX
    have hres := take_cut hcut hpre
    refine wp_exit ?_
    dsimp only [Exit.inBlock, Exit.then]
    rw [if_pos rfl]
    rw [hres]
    obtain ⟨th6, z6, hs6, hb6, hD6⟩ := hJ.sim hs5.size
    have hE : (EpM w5.heap.size w0 G (th5.take 3) W z6).th0.length = 3 := hl3
    refine wp_seq ?_
    refine segO (S1 := ⟨[(7, .r (.int .i64 0)), (6, .s 3 0 (pre.dropLast).length)], [(0, .box 24 [.ro true 5 (ps.map eP), .r (.int .i64 r)]), (1, .box 30 [.ro v 1 (m.map eByte)]), (2, .box 40 [.s 3 0 (pre.dropLast).length]), (3, .lst 36 2 ((pre.dropLast).map eEt))], 4⟩) ?_ hs6 ?_
    · (repeat' (first | refine awp_seq ?_ | refine awp_block ?_ | refine awp_skip ?_ | refine awp_exit ?_ | ((first | refine rR (fun K kp hK hkp => ?_) | refine iG ?_); simp (implicitDefEqProofs := false) (maxSteps := 2000000) (disch := omega) only [go_sem]; (repeat' (first | (refine hK _ ?_; clear hK hkp kp K) | (with_reducible refine And.intro ?_ ?_) | omega))) | ((first | refine aG (fun h => ?_) (fun h => ?_) | refine aD (fun h => ?_) (fun h => ?_) | refine aX (fun h => ?_) (fun h => ?_)) <;> simp only [h]) | refine awp_cond_t rfl ?_ | refine awp_cond_f rfl ?_ | ((refine awp_cond rfl (fun h => ?_) (fun h => ?_) <;> try simp only [ifs] at h) <;> (try (exfalso; omega))) | refine awp_ret ?_))
      show Emb _ _ _ _
      (refine emb [0, 1, 2, 3] ?_ ?_ rfl ?_ ?_ ?_ ?_ <;> simp [okM, okO, lk, ren, renL, renNd, by_, hE] <;> (try omega) <;> (try (intro i hi; first | (rcases i with _ | _ | i; rfl; rfl; (exfalso; omega)) | (rcases i with _ | _ | _ | i; rfl; rfl; rfl; (exfalso; omega)) | (rcases i with _ | _ | _ | _ | i; rfl; rfl; rfl; rfl; (exfalso; omega)) | (rcases i with _ | _ | _ | _ | _ | i; rfl; rfl; rfl; rfl; rfl; (exfalso; omega)) | (rcases i with _ | _ | _ | _ | _ | _ | i; rfl; rfl; rfl; rfl; rfl; rfl; (exfalso; omega)))))
    intro th7 z7 a7 w7 hs7
    refine wp_ret ?_
    refine ret_range hs7 rfl hb6 hS05.ext.size hD6 hd hG0 hz0 ?_
    intro E hE
    refine ⟨_, rfl, ?_⟩
    refine embS_frz (by simp only [oneA]; simp (implicitDefEqProofs := false) (maxSteps := 2000000) (disch := omega) only [go_sem]; rfl) ?_
    refine (embV_nil hE (by simp) ?_).s
    simp [oneA, ren, renL]
end Go.AM
/- Trees: all entries stand in order: plain law. -/
namespace Go.AM
def SrtE (l : List Et) : Prop := l.Pairwise fun a b => ltK a.1 b.1 = true
theorem zip_srt : ∀ (ks : List Ky) (is : List Int), SrtK ks → SrtE (ks.zip is)
  | [], is, _ => List.Pairwise.nil
  | x :: r, [], _ => List.Pairwise.nil
  | x :: r, n :: s, hs => by
    have hs' : SrtK r := fun i j a b hij ha hb => hs (i + 1) (j + 1) a b (by omega) (by simpa using ha) (by simpa using hb)
    rw [List.zip_cons_cons]
    refine List.pairwise_cons.2 ⟨fun e he => ?_, zip_srt r s hs'⟩
    obtain ⟨j, hj⟩ := List.mem_iff_getElem?.1 (List.of_mem_zip he).1
    exact hs 0 (j + 1) x e.1 (by omega) rfl (by simpa using hj)
theorem entsF_kids (ps : List PG) (d : Nat) : ∀ l : List Nat, (lvl ps d l).flatMap (entL ps) = l.flatMap (entsF ps d)
  | [] => by rw [lvl_nil]; rfl
  | x :: r => by rw [show x :: r = [x] ++ r from rfl, lvl_append, List.flatMap_append, entsF_kids ps d r, List.flatMap_append]; simp [entsF]
theorem ents_mem {ps : List PG} {d i : Nat} {e : Et} (h : e ∈ entsF ps d i) : ∃ x, x ∈ lvl ps d [i] ∧ e.1 ∈ (pg ps x).keys := by
  obtain ⟨x, hx, he⟩ := List.mem_flatMap.1 h
  exact ⟨x, hx, entL_keys he⟩
theorem ents_srt {ps : List PG} (hp : AllOK ps) : ∀ (d i : Nat) (low high : Ky), Good ps d i low high → SrtE (entsF ps d i)
  | 0, i, low, high, h => by
    rw [entsF, show lvl ps 0 [i] = [i] from rfl]
    simp only [List.flatMap_cons, List.flatMap_nil, List.append_nil, entL]
    by_cases hi : i < ps.length
    · exact zip_srt _ _ (srt_page (ok_in hp hi))
    · have : pg ps i = default := by rw [pg, List.getD_eq_getElem?_getD, List.getElem?_eq_none (by omega)]; rfl
      rw [this]; exact List.Pairwise.nil
  | d + 1, i, low, high, h => by
    obtain ⟨h1, h2, h3, h4⟩ := h
    have hok := ok_inner hp h1
    have hs := srt_page hok
    have hkl := kids_len hp h1
    rw [entsF, lvl_one, entsF_kids]
    refine List.pairwise_flatMap.2 ⟨fun x hx => ?_, ?_⟩
    · obtain ⟨m, hm⟩ := List.mem_iff_getElem?.1 hx
      exact ents_srt hp d x _ _ (h4 m x hm)
    · rw [List.pairwise_iff_getElem]
      intro a b ha hb hab e he f hf
      have ga := h4 a _ (List.getElem?_eq_getElem ha)
      have gb := h4 b _ (List.getElem?_eq_getElem hb)
      obtain ⟨x, hx, he⟩ := ents_mem he
      obtain ⟨y, hy, hf⟩ := ents_mem hf
      have b1 := (leaves_bound hp d _ _ _ ga x hx e.1 he).2
      have b2 := (leaves_bound hp d _ _ _ gb y hy f.1 hf).1
      unfold hiP at b1
      unfold loP at b2
      rw [if_pos (by omega)] at b1
      rw [if_neg (by omega)] at b2
      obtain ⟨p, hp'⟩ : ∃ p, (pg ps i).keys[a]? = some p := ⟨_, List.getElem?_eq_getElem (by omega)⟩
      obtain ⟨q, hq'⟩ : ∃ q, (pg ps i).keys[b - 1]? = some q := ⟨_, List.getElem?_eq_getElem (by omega)⟩
      rw [List.getD_eq_getElem?_getD, hp'] at b1
      rw [List.getD_eq_getElem?_getD, hq'] at b2
      have b1 : ltK e.1 p = true := by
        rcases b1 with b1 | b1
        · exact absurd b1 (key_page hok (List.mem_of_getElem? hp'))
        · exact b1
      have b2 : ltK f.1 q = false := b2
      have b3 : ltK e.1 q = true := by
        by_cases he : a = b - 1
        · rw [he, hq'] at hp'; cases hp'; exact b1
        · exact ltK_trans b1 (hs a (b - 1) p q (by omega) hp' hq')
      exact ltK_of_lt_le b3 b2
/-- Of a row in order: what comes ahead of the first that stops is what does not stop. -/
theorem take_filter {p : Et → Bool} : ∀ {l : List Et}, SrtE l → (∀ a b : Et, ltK a.1 b.1 = true → p a = false → p b = false) → l.takeWhile p = l.filter p
  | [], _, _ => rfl
  | x :: r, hs, hm => by
    have hs' := List.pairwise_cons.1 hs
    rw [List.takeWhile_cons, List.filter_cons]
    cases hx : p x
    · simp only [Bool.false_eq_true, if_false]
      symm
      rw [List.filter_eq_nil_iff]
      intro e he
      rw [hm x e (hs'.1 e he) hx]; simp
    · simp only [if_true]
      rw [take_filter hs'.2 hm]
end Go.AM
/- Scan: both sides; the law TreeScans. -/
namespace Go.AM
open Go Go.RowKit
attribute [local irreducible] AWP retA
noncomputable def askS (ps : List PG) (root : Int) (k m : Ky) : Int := if chkR ps root ≠ 0 then chkR ps root else if k.length ≤ 100 ∧ m.length ≤ 100 then 0 else 1
theorem askS_chk {ps : List PG} {root : Int} {k m : Ky} (h : askS ps root k m = 0) : ChkOK ps root ∧ k.length ≤ 100 ∧ m.length ≤ 100 := by
  rw [askS] at h
  by_cases hc : ChkOK ps root
  · rw [chkR_t hc] at h
    refine ⟨hc, ?_⟩
    by_cases hl : k.length ≤ 100 ∧ m.length ≤ 100
    · exact hl
    · rw [if_neg (by simp), if_neg hl] at h; cases h
  · rw [chkR_f hc] at h; simp at h
def scanA (a : Int) (R : List Et) : AV := .tup [.ro true 2 ((if a = 0 then R else []).map eEt), .r (.int .i64 a)]
/-- What is handed out. -/
def scanM (l : List Et) (k m : Ky) : List Et := l.filter fun e => !ltK e.1 k && (decide (m.length = 0) || !ltK m e.1)
theorem scan_same {ps : List PG} {r d : Nat} (h : Trd ps r d) (k m : Ky) : ((entsF ps d r).filter (fun e => !ltK e.1 k)).takeWhile (fun e => !stopB m e) = scanM (entsF ps d r) k m := by
  rw [take_filter ((ents_srt h.ok d r [] [] h.good).filter _)]
  · rw [List.filter_filter, scanM]
    refine List.filter_congr fun e _ => ?_
    rw [stopB, Bool.and_comm]
    congr 1
    by_cases hm : m.length = 0
    · simp [hm]
    · have h1 : decide (0 < m.length) = true := decide_eq_true (by omega)
      simp [hm, h1]
  · intro a b hab ha
    simp only [stopB, Bool.not_eq_false', Bool.and_eq_true, decide_eq_true_eq] at ha ⊢
    exact ⟨ha.1, ltK_trans ha.2 hab⟩
set_option maxRecDepth 100000 in
set_option maxHeartbeats 4000000 in
theorem scan_con (G : List (Nat × List Value)) (v : Bool) (ps : List PG) (root : Int) (k m : Ky) (ho : okPs2 ps) (R : List Et) (hR : askS ps root k m = 0 → ∀ r d : Nat, root = r → Trd ps r d → R = scanM (entsF ps d r) k m) :
    Con Go.Proofs.Try.prog G 19 [.agg [.ro true 5 (ps.map eP), .r (.int .i64 root)], .ro true 1 (k.map eByte), .ro v 1 (m.map eByte)] [] 0 (Is (scanA (askS ps root k m) R) [] 0) No := by
  rw [scanA]
  by_cases h0 : askS ps root k m = 0
  · obtain ⟨hc, hk, hm⟩ := askS_chk h0
    obtain ⟨r, d, rfl, h⟩ := trd_of hc
    rw [h0, if_pos rfl, hR h0 r d rfl h, ← scan_same h]
    exact scan_good G v h ho hc k m hk hm
  · have cc := check_con2 G ps root (okPs_of ho)
    rw [if_neg h0]
    rw [askS] at h0 ⊢
    obtain ⟨c, hc⟩ : ∃ c, chkR ps root = c := ⟨_, rfl⟩
    rw [hc] at h0 cc ⊢
    refine Con.res (y := .tup [.r (.slice none 0 0), .r (.int .i64 (if c ≠ 0 then c else if k.length ≤ 100 ∧ m.length ≤ 100 then 0 else 1))]) ?_ (fun w z th v hr => rep_tupnil hr)
    refine con_of_awp Go.Proofs.Try.func19 rfl (by kernel_rfl) (of_decide_eq_true (by kernel_rfl)) ?_; intro E hG hE; subst hG; simp only [ent]
    by_cases h1 : c = 0
    · subst h1
      rw [if_neg (by simp)] at h0 ⊢
      have hl : ¬ (k.length ≤ 100 ∧ m.length ≤ 100) := fun hl => h0 (if_pos hl)
      rw [if_neg hl]
      by_cases hk : k.length ≤ 100
      · have g1 : ((k.length : Int) > 100) = False := eq_false (by omega)
        have g2 : ((m.length : Int) > 100) = True := eq_true (by omega)
        (repeat' (first | refine awp_seq ?_ | refine awp_block ?_ | refine awp_skip ?_ | refine awp_exit ?_ | ((first | refine rR (fun K kp hK hkp => ?_) | refine cR cc ?_ | refine iG ?_); simp (implicitDefEqProofs := false) (maxSteps := 2000000) (disch := omega) only [go_sem, bne_self_eq_false, g1, g2]; (repeat' (first | (refine hK _ ?_; clear hK hkp kp K) | (with_reducible refine And.intro ?_ ?_) | omega))) | ((first | refine aG (fun h => ?_) (fun h => ?_) | refine aD (fun h => ?_) (fun h => ?_) | refine aX (fun h => ?_) (fun h => ?_)) <;> simp only [h]) | refine awp_cond_t rfl ?_ | refine awp_cond_f rfl ?_ | ((refine awp_cond rfl (fun h => ?_) (fun h => ?_) <;> try simp only [ifs] at h) <;> (try (exfalso; omega))) | refine awp_ret ?_))
        (refine retA_is (by (simp (implicitDefEqProofs := false) (maxSteps := 2000000) (disch := omega) only [go_sem, Go.Proofs.Try.results19]); rfl) ?_; refine eN hE ?_; simp [oneA, ren, renL])
      · have g1 : ((k.length : Int) > 100) = True := eq_true (by omega)
        (repeat' (first | refine awp_seq ?_ | refine awp_block ?_ | refine awp_skip ?_ | refine awp_exit ?_ | ((first | refine rR (fun K kp hK hkp => ?_) | refine cR cc ?_ | refine iG ?_); simp (implicitDefEqProofs := false) (maxSteps := 2000000) (disch := omega) only [go_sem, bne_self_eq_false, g1]; (repeat' (first | (refine hK _ ?_; clear hK hkp kp K) | (with_reducible refine And.intro ?_ ?_) | omega))) | ((first | refine aG (fun h => ?_) (fun h => ?_) | refine aD (fun h => ?_) (fun h => ?_) | refine aX (fun h => ?_) (fun h => ?_)) <;> simp only [h]) | refine awp_cond_t rfl ?_ | refine awp_cond_f rfl ?_ | ((refine awp_cond rfl (fun h => ?_) (fun h => ?_) <;> try simp only [ifs] at h) <;> (try (exfalso; omega))) | refine awp_ret ?_))
        (refine retA_is (by (simp (implicitDefEqProofs := false) (maxSteps := 2000000) (disch := omega) only [go_sem, Go.Proofs.Try.results19]); rfl) ?_; refine eN hE ?_; simp [oneA, ren, renL])
    · have z0 : (c != 0) = true := by simp [h1]
      rw [if_pos h1]
      (repeat' (first | refine awp_seq ?_ | refine awp_block ?_ | refine awp_skip ?_ | refine awp_exit ?_ | ((first | refine rR (fun K kp hK hkp => ?_) | refine cR cc ?_ | refine iG ?_); simp (implicitDefEqProofs := false) (maxSteps := 2000000) (disch := omega) only [go_sem, z0]; (repeat' (first | (refine hK _ ?_; clear hK hkp kp K) | (with_reducible refine And.intro ?_ ?_) | omega))) | ((first | refine aG (fun h => ?_) (fun h => ?_) | refine aD (fun h => ?_) (fun h => ?_) | refine aX (fun h => ?_) (fun h => ?_)) <;> simp only [h]) | refine awp_cond_t rfl ?_ | refine awp_cond_f rfl ?_ | ((refine awp_cond rfl (fun h => ?_) (fun h => ?_) <;> try simp only [ifs] at h) <;> (try (exfalso; omega))) | refine awp_ret ?_))
      (refine retA_is (by (simp (implicitDefEqProofs := false) (maxSteps := 2000000) (disch := omega) only [go_sem, Go.Proofs.Try.results19]); rfl) ?_; refine eN hE ?_; simp [oneA, ren, renL])
end Go.AM
/- The reference's Scanned; the law TreeScans. -/
namespace Go.AM
open Go Go.RowKit
attribute [local irreducible] AWP retA
@[simp high] theorem pt_eEts (l : List Et) : PT (.ro true 2 (l.map eEt)) = True := eq_true (.ro _ _ (pt_map _ _))
theorem scanM_step {l : List Et} {j : Nat} {x : Et} (h : l[j]? = some x) (k m : Ky) : scanM (l.take (j + 1)) k m = if (!ltK x.1 k && (decide (m.length = 0) || !ltK m x.1)) = true then scanM (l.take j) k m ++ [x] else scanM (l.take j) k m := by
  unfold scanM
  rw [List.take_add_one, h, List.filter_append]
  show _ ++ List.filter _ [x] = _
  rw [List.filter_cons]
  split
  · rfl
  · simp
set_option maxRecDepth 100000 in
set_option maxHeartbeats 8000000 in
theorem scanned_con (G : List (Nat × List Value)) (t u v : Bool) (ps : List PG) (root : Int) (k m : Ky) (ho : okPs2 ps) (R : List Et) (hR : askS ps root k m = 0 → ∀ r d : Nat, root = r → Trd ps r d → R = scanM (entsF ps d r) k m) :
    Con Go.Proofs.Try.prog G 20 [.agg [.ro t 5 (ps.map eP), .r (.int .i64 root)], .ro u 1 (k.map eByte), .ro v 1 (m.map eByte)] [] 0 (Is (scanA (askS ps root k m) R) [] 0) No := by
  have cc := treeFault_con G t ps root (okPs_of ho) ho.1
  rw [← chk_flt] at cc
  rw [scanA]
  by_cases h0 : askS ps root k m = 0
  · obtain ⟨hc, hk, hm⟩ := askS_chk h0
    obtain ⟨r, d, rfl, h⟩ := trd_of hc
    rw [h0, if_pos rfl, hR h0 r d rfl h]
    rw [chkR_t hc] at cc
    have ec := entriesOf_con G t h ho
    have hlen := flatE_len h.ok (lvl ps d [r])
    have := h.many
    have hlen : (entsF ps d r).length ≤ 16000 := by rw [entsF]; omega
    generalize entsF ps d r = l at *
    have g1 : ((k.length : Int) > 100) = False := eq_false (by omega)
    have g2 : ((m.length : Int) > 100) = False := eq_false (by omega)
    have hsl : ∀ j, (scanM (l.take j) k m).length ≤ 16000 := fun j => by
      have h1 := List.length_filter_le (fun e : Et => !ltK e.1 k && (decide (m.length = 0) || !ltK m e.1)) (l.take j)
      rw [List.length_take] at h1
      rw [scanM]; omega
    refine con_of_awp Go.Proofs.Try.func20 rfl (by kernel_rfl) (of_decide_eq_true (by kernel_rfl)) ?_; intro E hG hE; subst hG; simp only [ent]
    (repeat' (first | refine awp_seq ?_ | refine awp_block ?_ | refine awp_skip ?_ | refine awp_exit ?_ | ((first | refine rR (fun K kp hK hkp => ?_) | refine cR cc ?_ | refine cR ec ?_ | refine iG ?_); simp (implicitDefEqProofs := false) (maxSteps := 2000000) (disch := omega) only [go_sem, bne_self_eq_false, beq_self_eq_true, g1, g2]; (repeat' (first | (refine hK _ ?_; clear hK hkp kp K) | (with_reducible refine And.intro ?_ ?_) | omega))) | ((first | refine aG (fun h => ?_) (fun h => ?_) | refine aD (fun h => ?_) (fun h => ?_) | refine aX (fun h => ?_) (fun h => ?_)) <;> simp only [h]) | refine awp_cond_t rfl ?_ | refine awp_cond_f rfl ?_ | ((refine awp_cond rfl (fun h => ?_) (fun h => ?_) <;> try simp only [ifs] at h) <;> (try (exfalso; omega))) | refine awp_ret ?_))
    (refine AWP.emb (emb_nil 10 36 2 ?_) ?_; (· rfl); dsimp only)
    refine awp_loop (fun j : Nat => ⟨[(11, .r (.int .i64 j)), (10, .s 1 0 (scanM (l.take j) k m).length), (9, .ro true 2 (l.map eEt)), (2, .ro v 1 (m.map eByte)), (1, .ro u 1 (k.map eByte))], [(0, .box 24 [.ro t 5 (ps.map eP), .r (.int .i64 r)]), (1, .lst 36 2 ((scanM (l.take j) k m).map eEt))], 2⟩) (fun j => j ≤ l.length) (fun j => l.length - j) 0 ?_ ?_ ?_
    · exact Nat.zero_le _
    · (refine emb [0, 1] ?_ ?_ rfl ?_ ?_ ?_ ?_ <;> simp [okM, okO, lk, ren, renL, renNd, by_, hE, scanM] <;> (try omega) <;> (try (intro i hi; first | (rcases i with _ | _ | i; rfl; rfl; (exfalso; omega)) | (rcases i with _ | _ | _ | i; rfl; rfl; rfl; (exfalso; omega)) | (rcases i with _ | _ | _ | _ | i; rfl; rfl; rfl; rfl; (exfalso; omega)) | (rcases i with _ | _ | _ | _ | _ | i; rfl; rfl; rfl; rfl; rfl; (exfalso; omega)) | (rcases i with _ | _ | _ | _ | _ | _ | i; rfl; rfl; rfl; rfl; rfl; rfl; (exfalso; omega)))))
    intro j hj
    by_cases hlt : j < l.length
    · have zj : ((j : Int) < (l.length : Int)) = True := eq_true (by omega)
      obtain ⟨x, hx⟩ : ∃ x, l[j]? = some x := ⟨_, List.getElem?_eq_getElem hlt⟩
      have hst := scanM_step hx k m
      have hcl := hsl j
      have b1 := keyBefore_con E.G true u x.1 k
      have b2 := keyBefore_con E.G v true m x.1
      change Con _ _ _ _ _ _ (Is (.r (.bool (ltK x.1 k))) [] 0) No at b1
      change Con _ _ _ _ _ _ (Is (.r (.bool (ltK m x.1))) [] 0) No at b2
      generalize hcur : scanM (l.take j) k m = cur at *
      cases h1 : ltK x.1 k
      · rw [h1] at b1
        by_cases hm0 : m.length = 0
        · have z2 : ((m.length : Int) == 0) = true := by simpa using hm0
          rw [h1, if_pos (by simp [hm0])] at hst
          (repeat' (first | refine awp_seq ?_ | refine awp_block ?_ | refine awp_skip ?_ | refine awp_exit ?_ | ((first | refine rR (fun K kp hK hkp => ?_) | refine cR b1 ?_ | refine iG ?_); simp (implicitDefEqProofs := false) (maxSteps := 2000000) (disch := omega) only [go_sem, zj, hx, eEt, z2]; (repeat' (first | (refine hK _ ?_; clear hK hkp kp K) | (with_reducible refine And.intro ?_ ?_) | omega))) | ((first | refine aG (fun h => ?_) (fun h => ?_) | refine aD (fun h => ?_) (fun h => ?_) | refine aX (fun h => ?_) (fun h => ?_)) <;> simp only [h]) | refine awp_cond_t rfl ?_ | refine awp_cond_f rfl ?_ | ((refine awp_cond rfl (fun h => ?_) (fun h => ?_) <;> try simp only [ifs] at h) <;> (try (exfalso; omega))) | refine awp_ret ?_))
          ((first | (refine nextB (j + 1) ?_ ?_ ?_) | (refine nextA (j + 1) ?_ ?_ ?_) | (refine nextE (j + 1) ?_ ?_ ?_)); rotate_left; (· (try dsimp only); (first | omega | (simp only [List.length_drop, List.length_cons, List.length_append]; omega) | (simp; done) | (simp; omega))); (· (refine emb [0, 3] ?_ ?_ rfl ?_ ?_ ?_ ?_ <;> simp [okM, okO, lk, ren, renL, renNd, by_, hE, hst, eEt] <;> (try omega) <;> (try (intro i hi; first | (rcases i with _ | _ | i; rfl; rfl; (exfalso; omega)) | (rcases i with _ | _ | _ | i; rfl; rfl; rfl; (exfalso; omega)) | (rcases i with _ | _ | _ | _ | i; rfl; rfl; rfl; rfl; (exfalso; omega)) | (rcases i with _ | _ | _ | _ | _ | i; rfl; rfl; rfl; rfl; rfl; (exfalso; omega)) | (rcases i with _ | _ | _ | _ | _ | _ | i; rfl; rfl; rfl; rfl; rfl; rfl; (exfalso; omega)))))))
          omega
        · have z2 : ((m.length : Int) == 0) = false := by simp; intro h; subst h; exact hm0 rfl
          cases h2 : ltK m x.1
          · rw [h2] at b2
            rw [h1, h2, if_pos (by simp)] at hst
            (repeat' (first | refine awp_seq ?_ | refine awp_block ?_ | refine awp_skip ?_ | refine awp_exit ?_ | ((first | refine rR (fun K kp hK hkp => ?_) | refine cR b1 ?_ | refine cR b2 ?_ | refine iG ?_); simp (implicitDefEqProofs := false) (maxSteps := 2000000) (disch := omega) only [go_sem, zj, hx, eEt, z2]; (repeat' (first | (refine hK _ ?_; clear hK hkp kp K) | (with_reducible refine And.intro ?_ ?_) | omega))) | ((first | refine aG (fun h => ?_) (fun h => ?_) | refine aD (fun h => ?_) (fun h => ?_) | refine aX (fun h => ?_) (fun h => ?_)) <;> simp only [h]) | refine awp_cond_t rfl ?_ | refine awp_cond_f rfl ?_ | ((refine awp_cond rfl (fun h => ?_) (fun h => ?_) <;> try simp only [ifs] at h) <;> (try (exfalso; omega))) | refine awp_ret ?_))
            ((first | (refine nextB (j + 1) ?_ ?_ ?_) | (refine nextA (j + 1) ?_ ?_ ?_) | (refine nextE (j + 1) ?_ ?_ ?_)); rotate_left; (· (try dsimp only); (first | omega | (simp only [List.length_drop, List.length_cons, List.length_append]; omega) | (simp; done) | (simp; omega))); (· (refine emb [0, 3] ?_ ?_ rfl ?_ ?_ ?_ ?_ <;> simp [okM, okO, lk, ren, renL, renNd, by_, hE, hst, eEt] <;> (try omega) <;> (try (intro i hi; first | (rcases i with _ | _ | i; rfl; rfl; (exfalso; omega)) | (rcases i with _ | _ | _ | i; rfl; rfl; rfl; (exfalso; omega)) | (rcases i with _ | _ | _ | _ | i; rfl; rfl; rfl; rfl; (exfalso; omega)) | (rcases i with _ | _ | _ | _ | _ | i; rfl; rfl; rfl; rfl; rfl; (exfalso; omega)) | (rcases i with _ | _ | _ | _ | _ | _ | i; rfl; rfl; rfl; rfl; rfl; rfl; (exfalso; omega)))))))
            omega
          · rw [h2] at b2
            rw [h1, h2, if_neg (by simp [hm0])] at hst
            (repeat' (first | refine awp_seq ?_ | refine awp_block ?_ | refine awp_skip ?_ | refine awp_exit ?_ | ((first | refine rR (fun K kp hK hkp => ?_) | refine cR b1 ?_ | refine cR b2 ?_ | refine iG ?_); simp (implicitDefEqProofs := false) (maxSteps := 2000000) (disch := omega) only [go_sem, zj, hx, eEt, z2]; (repeat' (first | (refine hK _ ?_; clear hK hkp kp K) | (with_reducible refine And.intro ?_ ?_) | omega))) | ((first | refine aG (fun h => ?_) (fun h => ?_) | refine aD (fun h => ?_) (fun h => ?_) | refine aX (fun h => ?_) (fun h => ?_)) <;> simp only [h]) | refine awp_cond_t rfl ?_ | refine awp_cond_f rfl ?_ | ((refine awp_cond rfl (fun h => ?_) (fun h => ?_) <;> try simp only [ifs] at h) <;> (try (exfalso; omega))) | refine awp_ret ?_))
            ((first | (refine nextB (j + 1) ?_ ?_ ?_) | (refine nextA (j + 1) ?_ ?_ ?_) | (refine nextE (j + 1) ?_ ?_ ?_)); rotate_left; (· (try dsimp only); (first | omega | (simp only [List.length_drop, List.length_cons, List.length_append]; omega) | (simp; done) | (simp; omega))); (· (refine emb [0, 1] ?_ ?_ rfl ?_ ?_ ?_ ?_ <;> simp [okM, okO, lk, ren, renL, renNd, by_, hE, hst, hcur, eEt] <;> (try omega) <;> (try (intro i hi; first | (rcases i with _ | _ | i; rfl; rfl; (exfalso; omega)) | (rcases i with _ | _ | _ | i; rfl; rfl; rfl; (exfalso; omega)) | (rcases i with _ | _ | _ | _ | i; rfl; rfl; rfl; rfl; (exfalso; omega)) | (rcases i with _ | _ | _ | _ | _ | i; rfl; rfl; rfl; rfl; rfl; (exfalso; omega)) | (rcases i with _ | _ | _ | _ | _ | _ | i; rfl; rfl; rfl; rfl; rfl; rfl; (exfalso; omega)))))))
            omega
      · rw [h1] at b1
        rw [h1, if_neg (by simp)] at hst
        (repeat' (first | refine awp_seq ?_ | refine awp_block ?_ | refine awp_skip ?_ | refine awp_exit ?_ | ((first | refine rR (fun K kp hK hkp => ?_) | refine cR b1 ?_ | refine iG ?_); simp (implicitDefEqProofs := false) (maxSteps := 2000000) (disch := omega) only [go_sem, zj, hx, eEt]; (repeat' (first | (refine hK _ ?_; clear hK hkp kp K) | (with_reducible refine And.intro ?_ ?_) | omega))) | ((first | refine aG (fun h => ?_) (fun h => ?_) | refine aD (fun h => ?_) (fun h => ?_) | refine aX (fun h => ?_) (fun h => ?_)) <;> simp only [h]) | refine awp_cond_t rfl ?_ | refine awp_cond_f rfl ?_ | ((refine awp_cond rfl (fun h => ?_) (fun h => ?_) <;> try simp only [ifs] at h) <;> (try (exfalso; omega))) | refine awp_ret ?_))
        ((first | (refine nextB (j + 1) ?_ ?_ ?_) | (refine nextA (j + 1) ?_ ?_ ?_) | (refine nextE (j + 1) ?_ ?_ ?_)); rotate_left; (· (try dsimp only); (first | omega | (simp only [List.length_drop, List.length_cons, List.length_append]; omega) | (simp; done) | (simp; omega))); (· (refine emb [0, 1] ?_ ?_ rfl ?_ ?_ ?_ ?_ <;> simp [okM, okO, lk, ren, renL, renNd, by_, hE, hst, hcur, eEt] <;> (try omega) <;> (try (intro i hi; first | (rcases i with _ | _ | i; rfl; rfl; (exfalso; omega)) | (rcases i with _ | _ | _ | i; rfl; rfl; rfl; (exfalso; omega)) | (rcases i with _ | _ | _ | _ | i; rfl; rfl; rfl; rfl; (exfalso; omega)) | (rcases i with _ | _ | _ | _ | _ | i; rfl; rfl; rfl; rfl; rfl; (exfalso; omega)) | (rcases i with _ | _ | _ | _ | _ | _ | i; rfl; rfl; rfl; rfl; rfl; rfl; (exfalso; omega)))))))
        omega
    · obtain rfl : j = l.length := by omega
      rw [List.take_length]
      have hcl := hsl l.length
      rw [List.take_length] at hcl
      (repeat' (first | refine awp_seq ?_ | refine awp_block ?_ | refine awp_skip ?_ | refine awp_exit ?_ | ((first | refine rR (fun K kp hK hkp => ?_) | refine iG ?_); simp (implicitDefEqProofs := false) (maxSteps := 2000000) (disch := omega) only [go_sem]; (repeat' (first | (refine hK _ ?_; clear hK hkp kp K) | (with_reducible refine And.intro ?_ ?_) | omega))) | ((first | refine aG (fun h => ?_) (fun h => ?_) | refine aD (fun h => ?_) (fun h => ?_) | refine aX (fun h => ?_) (fun h => ?_)) <;> simp only [h]) | refine awp_cond_t rfl ?_ | refine awp_cond_f rfl ?_ | ((refine awp_cond rfl (fun h => ?_) (fun h => ?_) <;> try simp only [ifs] at h) <;> (try (exfalso; omega))) | refine awp_ret ?_))
      (refine retA_is (by (simp (implicitDefEqProofs := false) (maxSteps := 2000000) (disch := omega) only [go_sem, Go.Proofs.Try.results20]); rfl) ?_; refine embS_frz (by simp only [oneA]; simp (implicitDefEqProofs := false) (maxSteps := 2000000) (disch := omega) only [go_sem]; rfl) ?_; refine (embV_nil hE (by simp) ?_).s; simp [oneA, ren, renL])
  · rw [if_neg h0]
    rw [askS] at h0 ⊢
    obtain ⟨c, hc⟩ : ∃ c, chkR ps root = c := ⟨_, rfl⟩
    rw [hc] at h0 cc ⊢
    refine Con.res (y := .tup [.r (.slice none 0 0), .r (.int .i64 (if c ≠ 0 then c else if k.length ≤ 100 ∧ m.length ≤ 100 then 0 else 1))]) ?_ (fun w z th v hr => rep_tupnil hr)
    refine con_of_awp Go.Proofs.Try.func20 rfl (by kernel_rfl) (of_decide_eq_true (by kernel_rfl)) ?_; intro E hG hE; subst hG; simp only [ent]
    by_cases h1 : c = 0
    · subst h1
      rw [if_neg (by simp)] at h0 ⊢
      have hl : ¬ (k.length ≤ 100 ∧ m.length ≤ 100) := fun hl => h0 (if_pos hl)
      rw [if_neg hl]
      by_cases hk : k.length ≤ 100
      · have g1 : ((k.length : Int) > 100) = False := eq_false (by omega)
        have g2 : ((m.length : Int) > 100) = True := eq_true (by omega)
        (repeat' (first | refine awp_seq ?_ | refine awp_block ?_ | refine awp_skip ?_ | refine awp_exit ?_ | ((first | refine rR (fun K kp hK hkp => ?_) | refine cR cc ?_ | refine iG ?_); simp (implicitDefEqProofs := false) (maxSteps := 2000000) (disch := omega) only [go_sem, beq_self_eq_true, g1, g2]; (repeat' (first | (refine hK _ ?_; clear hK hkp kp K) | (with_reducible refine And.intro ?_ ?_) | omega))) | ((first | refine aG (fun h => ?_) (fun h => ?_) | refine aD (fun h => ?_) (fun h => ?_) | refine aX (fun h => ?_) (fun h => ?_)) <;> simp only [h]) | refine awp_cond_t rfl ?_ | refine awp_cond_f rfl ?_ | ((refine awp_cond rfl (fun h => ?_) (fun h => ?_) <;> try simp only [ifs] at h) <;> (try (exfalso; omega))) | refine awp_ret ?_))
        (refine retA_is (by (simp (implicitDefEqProofs := false) (maxSteps := 2000000) (disch := omega) only [go_sem, Go.Proofs.Try.results20]); rfl) ?_; refine eN hE ?_; simp [oneA, ren, renL])
      · have g1 : ((k.length : Int) > 100) = True := eq_true (by omega)
        (repeat' (first | refine awp_seq ?_ | refine awp_block ?_ | refine awp_skip ?_ | refine awp_exit ?_ | ((first | refine rR (fun K kp hK hkp => ?_) | refine cR cc ?_ | refine iG ?_); simp (implicitDefEqProofs := false) (maxSteps := 2000000) (disch := omega) only [go_sem, beq_self_eq_true, g1]; (repeat' (first | (refine hK _ ?_; clear hK hkp kp K) | (with_reducible refine And.intro ?_ ?_) | omega))) | ((first | refine aG (fun h => ?_) (fun h => ?_) | refine aD (fun h => ?_) (fun h => ?_) | refine aX (fun h => ?_) (fun h => ?_)) <;> simp only [h]) | refine awp_cond_t rfl ?_ | refine awp_cond_f rfl ?_ | ((refine awp_cond rfl (fun h => ?_) (fun h => ?_) <;> try simp only [ifs] at h) <;> (try (exfalso; omega))) | refine awp_ret ?_))
        (refine retA_is (by (simp (implicitDefEqProofs := false) (maxSteps := 2000000) (disch := omega) only [go_sem, Go.Proofs.Try.results20]); rfl) ?_; refine eN hE ?_; simp [oneA, ren, renL])
    · have z0 : (c != 0) = true := by simp [h1]
      have z1 : (c == 0) = false := by simp [h1]
      rw [if_pos h1]
      (repeat' (first | refine awp_seq ?_ | refine awp_block ?_ | refine awp_skip ?_ | refine awp_exit ?_ | ((first | refine rR (fun K kp hK hkp => ?_) | refine cR cc ?_ | refine iG ?_); simp (implicitDefEqProofs := false) (maxSteps := 2000000) (disch := omega) only [go_sem, z0, z1]; (repeat' (first | (refine hK _ ?_; clear hK hkp kp K) | (with_reducible refine And.intro ?_ ?_) | omega))) | ((first | refine aG (fun h => ?_) (fun h => ?_) | refine aD (fun h => ?_) (fun h => ?_) | refine aX (fun h => ?_) (fun h => ?_)) <;> simp only [h]) | refine awp_cond_t rfl ?_ | refine awp_cond_f rfl ?_ | ((refine awp_cond rfl (fun h => ?_) (fun h => ?_) <;> try simp only [ifs] at h) <;> (try (exfalso; omega))) | refine awp_ret ?_))
      (refine retA_is (by (simp (implicitDefEqProofs := false) (maxSteps := 2000000) (disch := omega) only [go_sem, Go.Proofs.Try.results20]); rfl) ?_; refine eN hE ?_; simp [oneA, ren, renL])
theorem sameEt_con (G : List (Nat × List Value)) (x : Et) : Con Go.Proofs.Try.prog G 18 [.agg (eEt x), .agg (eEt x)] [] 0 (Is (.r (.bool true)) [] 0) No := by
  refine con_of_awp Go.Proofs.Try.func18 rfl (by kernel_rfl) (of_decide_eq_true (by kernel_rfl)) ?_; intro E hG hE; subst hG; simp only [ent]
  (repeat' (first | refine awp_seq ?_ | refine awp_block ?_ | refine awp_skip ?_ | refine awp_exit ?_ | ((first | refine rR (fun K kp hK hkp => ?_) | refine iG ?_); simp (implicitDefEqProofs := false) (maxSteps := 2000000) (disch := omega) only [go_sem, eEt, beq_self_eq_true, unb_map]; (repeat' (first | (refine hK _ ?_; clear hK hkp kp K) | (with_reducible refine And.intro ?_ ?_) | omega))) | ((first | refine aG (fun h => ?_) (fun h => ?_) | refine aD (fun h => ?_) (fun h => ?_) | refine aX (fun h => ?_) (fun h => ?_)) <;> simp only [h]) | refine awp_cond_t rfl ?_ | refine awp_cond_f rfl ?_ | ((refine awp_cond rfl (fun h => ?_) (fun h => ?_) <;> try simp only [ifs] at h) <;> (try (exfalso; omega))) | refine awp_ret ?_))
  (refine retA_is (by (simp (implicitDefEqProofs := false) (maxSteps := 2000000) (disch := omega) only [go_sem, Go.Proofs.Try.results18]); rfl) ?_; refine eN hE ?_; simp [oneA, ren, renL])
set_option maxRecDepth 100000 in
set_option maxHeartbeats 4000000 in
theorem sameEts_con (G : List (Nat × List Value)) (l : List Et) (hl : l.length ≤ 1048576) : Con Go.Proofs.Try.prog G 21 [.ro true 2 (l.map eEt), .ro true 2 (l.map eEt)] [] 0 (Is (.r (.bool true)) [] 0) No := by
  refine con_of_awp Go.Proofs.Try.func21 rfl (by kernel_rfl) (of_decide_eq_true (by kernel_rfl)) ?_; intro E hG hE; subst hG; simp only [ent]
  (repeat' (first | refine awp_seq ?_ | refine awp_block ?_ | refine awp_skip ?_ | refine awp_exit ?_ | ((first | refine rR (fun K kp hK hkp => ?_) | refine rD (id := 6) mixed 10 [0,1,2,3,4,5,6,7,8,9] (fun K kp hK hkp => ?_) | refine iG ?_ | refine iD ?_); simp (implicitDefEqProofs := false) (maxSteps := 2000000) (disch := omega) only [go_sem, bne_self_eq_false]; (repeat' (first | (refine hK _ ?_; clear hK hkp kp K) | (with_reducible refine And.intro ?_ ?_) | omega))) | ((first | refine aG (fun h => ?_) (fun h => ?_) | refine aD (fun h => ?_) (fun h => ?_) | refine aX (fun h => ?_) (fun h => ?_)) <;> simp only [h]) | refine awp_cond_t rfl ?_ | refine awp_cond_f rfl ?_ | ((refine awp_cond rfl (fun h => ?_) (fun h => ?_) <;> try simp only [ifs] at h) <;> (try (exfalso; omega))) | refine awp_ret ?_))
  refine awp_loop (fun j : Nat => ⟨[(5, .r (.int .i64 j)), (0, .ro true 2 (l.map eEt)), (1, .ro true 2 (l.map eEt))], [], 0⟩) (fun j => j ≤ l.length) (fun j => l.length - j) 0 ?_ ?_ ?_
  · exact Nat.zero_le _
  · (refine emb [] ?_ ?_ rfl ?_ ?_ ?_ ?_ <;> simp [okM, okO, lk, ren, renL, renNd, by_, hE] <;> (try omega) <;> (try (intro i hi; first | (rcases i with _ | _ | i; rfl; rfl; (exfalso; omega)) | (rcases i with _ | _ | _ | i; rfl; rfl; rfl; (exfalso; omega)) | (rcases i with _ | _ | _ | _ | i; rfl; rfl; rfl; rfl; (exfalso; omega)) | (rcases i with _ | _ | _ | _ | _ | i; rfl; rfl; rfl; rfl; rfl; (exfalso; omega)) | (rcases i with _ | _ | _ | _ | _ | _ | i; rfl; rfl; rfl; rfl; rfl; rfl; (exfalso; omega)))))
  intro j hj
  by_cases hlt : j < l.length
  · have zj : ((j : Int) < (l.length : Int)) = True := eq_true (by omega)
    obtain ⟨x, hx⟩ : ∃ x, l[j]? = some x := ⟨_, List.getElem?_eq_getElem hlt⟩
    have sc := sameEt_con E.G x
    simp only [eEt] at sc
    (repeat' (first | refine awp_seq ?_ | refine awp_block ?_ | refine awp_skip ?_ | refine awp_exit ?_ | ((first | refine rR (fun K kp hK hkp => ?_) | refine rD (id := 6) mixed 10 [0,1,2,3,4,5,6,7,8,9] (fun K kp hK hkp => ?_) | refine cR sc ?_ | refine cD sc ?_ | refine iG ?_ | refine iD ?_); simp (implicitDefEqProofs := false) (maxSteps := 2000000) (disch := omega) only [go_sem, zj, hx, eEt]; (repeat' (first | (refine hK _ ?_; clear hK hkp kp K) | (with_reducible refine And.intro ?_ ?_) | omega))) | ((first | refine aG (fun h => ?_) (fun h => ?_) | refine aD (fun h => ?_) (fun h => ?_) | refine aX (fun h => ?_) (fun h => ?_)) <;> simp only [h]) | refine awp_cond_t rfl ?_ | refine awp_cond_f rfl ?_ | ((refine awp_cond rfl (fun h => ?_) (fun h => ?_) <;> try simp only [ifs] at h) <;> (try (exfalso; omega))) | refine awp_ret ?_))
    ((first | (refine nextB (j + 1) ?_ ?_ ?_) | (refine nextA (j + 1) ?_ ?_ ?_) | (refine nextE (j + 1) ?_ ?_ ?_)); rotate_left; (· (try dsimp only); (first | omega | (simp only [List.length_drop, List.length_cons, List.length_append]; omega) | (simp; done) | (simp; omega))); (· (refine emb [] ?_ ?_ rfl ?_ ?_ ?_ ?_ <;> simp [okM, okO, lk, ren, renL, renNd, by_, hE] <;> (try omega) <;> (try (intro i hi; first | (rcases i with _ | _ | i; rfl; rfl; (exfalso; omega)) | (rcases i with _ | _ | _ | i; rfl; rfl; rfl; (exfalso; omega)) | (rcases i with _ | _ | _ | _ | i; rfl; rfl; rfl; rfl; (exfalso; omega)) | (rcases i with _ | _ | _ | _ | _ | i; rfl; rfl; rfl; rfl; rfl; (exfalso; omega)) | (rcases i with _ | _ | _ | _ | _ | _ | i; rfl; rfl; rfl; rfl; rfl; rfl; (exfalso; omega)))))))
    omega
  · obtain rfl : j = l.length := by omega
    (repeat' (first | refine awp_seq ?_ | refine awp_block ?_ | refine awp_skip ?_ | refine awp_exit ?_ | ((first | refine rR (fun K kp hK hkp => ?_) | refine rD (id := 6) mixed 10 [0,1,2,3,4,5,6,7,8,9] (fun K kp hK hkp => ?_) | refine iG ?_ | refine iD ?_); simp (implicitDefEqProofs := false) (maxSteps := 2000000) (disch := omega) only [go_sem]; (repeat' (first | (refine hK _ ?_; clear hK hkp kp K) | (with_reducible refine And.intro ?_ ?_) | omega))) | ((first | refine aG (fun h => ?_) (fun h => ?_) | refine aD (fun h => ?_) (fun h => ?_) | refine aX (fun h => ?_) (fun h => ?_)) <;> simp only [h]) | refine awp_cond_t rfl ?_ | refine awp_cond_f rfl ?_ | ((refine awp_cond rfl (fun h => ?_) (fun h => ?_) <;> try simp only [ifs] at h) <;> (try (exfalso; omega))) | refine awp_ret ?_))
    (refine retA_is (by (simp (implicitDefEqProofs := false) (maxSteps := 2000000) (disch := omega) only [go_sem, Go.Proofs.Try.results21]); rfl) ?_; refine eN hE ?_; simp [oneA, ren, renL])
theorem scans_same (ps : List PG) (root : Int) (k m : Ky) : ∃ R : List Et, R.length ≤ 16000 ∧ ∀ r d : Nat, root = r → Trd ps r d → R = scanM (entsF ps d r) k m := by
  by_cases h : ∃ r d : Nat, root = r ∧ Trd ps r d
  · obtain ⟨r, d, rfl, h⟩ := h
    refine ⟨scanM (entsF ps d r) k m, ?_, fun r' d' e h' => ?_⟩
    · have h1 := List.length_filter_le (fun e : Et => !ltK e.1 k && (decide (m.length = 0) || !ltK m e.1)) (entsF ps d r)
      have h2 := flatE_len h.ok (lvl ps d [r])
      have h3 := h.many
      rw [entsF] at h1
      rw [scanM, entsF]; omega
    · obtain rfl : r = r' := by omega
      obtain rfl := good_deep (kids_ne h.ok) d r _ _ _ _ d' h.good h'.good
      rfl
  · exact ⟨[], Nat.zero_le _, fun r d e h' => absurd ⟨r, d, e, h'⟩ h⟩
set_option maxRecDepth 100000 in
set_option maxHeartbeats 4000000 in
theorem lawScans_con (G : List (Nat × List Value)) (ps : List PG) (root : Int) (k m : Ky) (ho : okPs2 ps) (hk : k.length ≤ 1048576) (hm : m.length ≤ 1048576) : Con Go.Proofs.Try.prog G 6 [.agg [.ro true 5 (ps.map eP), .r (.int .i64 root)], .ro true 1 (k.map eByte), .ro true 1 (m.map eByte)] [] 0 (Is (.r (.bool true)) [] 0) No := by
  obtain ⟨R, hRl, hR⟩ := scans_same ps root k m
  have tc := trees_con G true ps root ho
  have oc := octetsT_con G true k (by omega)
  have oc2 := octetsT_con G true m (by omega)
  have fc := scan_con G true ps root k m ho R fun _ r d e h => hR r d e h
  have gc := scanned_con G true true true ps root k m ho R fun _ r d e h => hR r d e h
  have sc := sameTree_con G true true ps root ho
  rw [scanA] at fc gc
  have hRl2 : (if askS ps root k m = 0 then R else []).length ≤ 16000 := by split <;> simp_all
  generalize (if askS ps root k m = 0 then R else []) = R2 at *
  have ec := sameEts_con G R2 (by omega)
  refine con_of_awp Go.Proofs.Try.func6 rfl (by kernel_rfl) (of_decide_eq_true (by kernel_rfl)) ?_; intro E hG hE; subst hG; simp only [ent]
  (repeat' (first | refine awp_seq ?_ | refine awp_block ?_ | refine awp_skip ?_ | refine awp_exit ?_ | ((first | refine rR (fun K kp hK hkp => ?_) | refine rD (id := 2) mixed 11 [0,1,3,2,4,5,6,7,8,9,10] (fun K kp hK hkp => ?_) | refine cR tc ?_ | refine cD tc ?_ | refine cR oc ?_ | refine cD oc ?_ | refine cR oc2 ?_ | refine cD oc2 ?_ | refine cR fc ?_ | refine cD fc ?_ | refine cR gc ?_ | refine cD gc ?_ | refine cR ec ?_ | refine cD ec ?_ | refine cR sc ?_ | refine cD sc ?_ | refine iG ?_ | refine iD ?_); simp (implicitDefEqProofs := false) (maxSteps := 2000000) (disch := omega) only [go_sem, beq_self_eq_true]; (repeat' (first | (refine hK _ ?_; clear hK hkp kp K) | (with_reducible refine And.intro ?_ ?_) | omega))) | ((first | refine aG (fun h => ?_) (fun h => ?_) | refine aD (fun h => ?_) (fun h => ?_) | refine aX (fun h => ?_) (fun h => ?_)) <;> simp only [h]) | refine awp_cond_t rfl ?_ | refine awp_cond_f rfl ?_ | ((refine awp_cond rfl (fun h => ?_) (fun h => ?_) <;> try simp only [ifs] at h) <;> (try (exfalso; omega))) | refine awp_ret ?_))
  (refine retA_is (by (simp (implicitDefEqProofs := false) (maxSteps := 2000000) (disch := omega) only [go_sem, Go.Proofs.Try.results6]); rfl) ?_; refine eN hE ?_; simp [oneA, ren, renL])
end Go.AM
/- tree.Above: its contract. -/
namespace Go.AM
open Go Go.RowKit
attribute [local irreducible] AWP retA
def okA (k : Ky) (l : List Et) : Prop := ∀ e ∈ l, e.1 = k
def cutA2 (k : Ky) (l : List Et) : Prop := ∃ l' e, l = l' ++ [e] ∧ okA k l' ∧ e.1 ≠ k
def aboveA : Option Et → AV
  | some e => .tup [.agg (eEt e), .r (.int .i64 0)]
  | none => .tup [.agg [.r (.slice none 0 0), .r (.int .i64 0)], .r (.int .i64 8)]
theorem find_ok {k : Ky} {l : List Et} (h : okA k l) : l.find? (fun e => e.1 != k) = none := by
  rw [List.find?_eq_none]
  intro e he
  simp [h e he]
theorem find_cut {k : Ky} {l all : List Et} (h : cutA2 k l) (hp : l <+: all) : all.find? (fun e => e.1 != k) = l.getLast? := by
  obtain ⟨l', e, rfl, hk, hs⟩ := h
  obtain ⟨r, rfl⟩ := hp
  rw [List.getLast?_concat, List.append_assoc, List.find?_append, find_ok hk]
  simp [hs]
theorem above_same (l : List Et) (k : Ky) : (l.filter (fun e => !ltK e.1 k)).find? (fun e => e.1 != k) = l.find? (fun e => ltK k e.1) := by
  rw [List.find?_filter]
  congr 1
  funext e
  cases h1 : ltK k e.1
  · cases h2 : ltK e.1 k
    · rw [ltK_total h1 h2]; simp
    · simp
  · have h2 := ltK_asymm h1
    have h3 : e.1 ≠ k := (ltK_ne h1).symm
    simp [h2, h3]
set_option maxRecDepth 100000 in
set_option maxHeartbeats 8000000 in
theorem above_good (G : List (Nat × List Value)) {ps : List PG} {r d : Nat} (h : Trd ps r d) (ho : okPs2 ps) (hc : ChkOK ps r) (k : Ky) (hk : k.length ≤ 100) :
    Con Go.Proofs.Try.prog G 16 [.agg [.ro true 5 (ps.map eP), .r (.int .i64 r)], .ro true 1 (k.map eByte)] [] 0 (Is (aboveA (((entsF ps d r).filter (fun e => !ltK e.1 k)).find? (fun e => e.1 != k))) [] 0) No := by
  obtain ⟨q0, hq0, hq1, hq2⟩ := leaf_at h k
  have hL := lv_ok h
  have fc : ∀ G, Con Go.Proofs.Try.prog G 35 [.agg [.ro true 5 (ps.map eP), .r (.int .i64 r)], .ro true 1 (k.map eByte)] [] 0 (Is (.tup [.r (.int .i64 (leafAt (lvl ps d [r]) q0)), .r (.int .i64 (placeM (pg ps (leafF ps k d r)) k)), .r (.bool (thereM (pg ps (leafF ps k d r)) k))]) [] 0) No := fun G => by
    rw [hq1]; exact find_con G true true ps r d k h.ok h.kin h.good h.rl h.n h.dl
  rw [← hq2]
  generalize hall : remF ps (lvl ps d [r]) q0 (placeM (pg ps (leafF ps k d r)) k) = all at *
  refine ⟨by kernel_rfl, fun w0 th z0 own vs hown hmem hr => ?_⟩
  have hth : th = [] := List.length_eq_zero_iff.1 hmem.len
  subst hth
  have hz0 := hmem.zlt
  have hG0 := hmem.globs
  have hA0 := at_entry (G := G) (N := (Go.Proofs.Try.f16).ntmps) hz0 hG0 hr (of_decide_eq_true (by kernel_rfl))
  refine (callsIn_wide (n := 9)).1 (callsIn_of_wp_marks Go.Proofs.Try.func16 rfl trivial ((wpIn_wide).2 ?_))
  generalize ({ tmps := _, defers := [] } : Act) = a0 at hA0 ⊢
  obtain ⟨E, hEq⟩ : ∃ E : Env, E = ⟨w0, fun _ => False, z0, G, [], []⟩ := ⟨_, rfl⟩
  have hE : E.th0.length = 0 := by rw [hEq]; rfl
  have hGE : E.G = G := by rw [hEq]
  unfold At at hA0
  rw [← hEq] at hA0
  have cc := check_con2 E.G ps r (okPs_of ho)
  rw [chkR_t hc] at cc
  have ec := each_con E.G true true ps r k
  have g1 : ((k.length : Int) > 100) = False := eq_false (by omega)
  refine wp_seq ?_
  refine segO (S1 := ⟨[(5, .p 3 0 0), (4, .p 2 0 0), (3, .p 1 0 0), (2, .p 0 0 0)], [(0, .box 24 [.ro true 5 (ps.map eP), .r (.int .i64 r)]), (1, .box 30 [.ro true 1 (k.map eByte)]), (2, .box 36 [.r (.slice none 0 0), .r (.int .i64 0)]), (3, .box 26 [.r (.int .i64 0)])], 4⟩) ?_ hA0 ?_
  · simp only [ent]
    (repeat' (first | refine awp_seq ?_ | refine awp_block ?_ | refine awp_skip ?_ | refine awp_exit ?_ | ((first | refine rR (fun K kp hK hkp => ?_) | refine iG ?_); simp (implicitDefEqProofs := false) (maxSteps := 2000000) (disch := omega) only [go_sem]; (repeat' (first | (refine hK _ ?_; clear hK hkp kp K) | (with_reducible refine And.intro ?_ ?_) | omega))) | ((first | refine aG (fun h => ?_) (fun h => ?_) | refine aD (fun h => ?_) (fun h => ?_) | refine aX (fun h => ?_) (fun h => ?_)) <;> simp only [h]) | refine awp_cond_t rfl ?_ | refine awp_cond_f rfl ?_ | ((refine awp_cond rfl (fun h => ?_) (fun h => ?_) <;> try simp only [ifs] at h) <;> (try (exfalso; omega))) | refine awp_ret ?_))
    show Emb E _ _ _
    (refine emb [0, 1, 2, 3] ?_ ?_ rfl ?_ ?_ ?_ ?_ <;> simp [okM, okO, lk, ren, renL, renNd, by_, hE] <;> (try omega) <;> (try (intro i hi; first | (rcases i with _ | _ | i; rfl; rfl; (exfalso; omega)) | (rcases i with _ | _ | _ | i; rfl; rfl; rfl; (exfalso; omega)) | (rcases i with _ | _ | _ | _ | i; rfl; rfl; rfl; rfl; (exfalso; omega)) | (rcases i with _ | _ | _ | _ | _ | i; rfl; rfl; rfl; rfl; rfl; (exfalso; omega)) | (rcases i with _ | _ | _ | _ | _ | _ | i; rfl; rfl; rfl; rfl; rfl; rfl; (exfalso; omega)))))
  intro th1 z1 a1 w1 hs1
  refine wp_seq ?_
  refine segO (S1 := ⟨[(5, .p 3 0 0), (4, .p 2 0 0), (3, .p 1 0 0), (2, .p 0 0 0)], [(0, .box 24 [.ro true 5 (ps.map eP), .r (.int .i64 r)]), (1, .box 30 [.ro true 1 (k.map eByte)]), (2, .box 36 [.r (.slice none 0 0), .r (.int .i64 0)]), (3, .box 26 [.r (.int .i64 0)])], 4⟩) ?_ hs1 ?_
  · (repeat' (first | refine awp_seq ?_ | refine awp_block ?_ | refine awp_skip ?_ | refine awp_exit ?_ | ((first | refine rR (fun K kp hK hkp => ?_) | refine cR cc ?_ | refine iG ?_); simp (implicitDefEqProofs := false) (maxSteps := 2000000) (disch := omega) only [go_sem, bne_self_eq_false]; (repeat' (first | (refine hK _ ?_; clear hK hkp kp K) | (with_reducible refine And.intro ?_ ?_) | omega))) | ((first | refine aG (fun h => ?_) (fun h => ?_) | refine aD (fun h => ?_) (fun h => ?_) | refine aX (fun h => ?_) (fun h => ?_)) <;> simp only [h]) | refine awp_cond_t rfl ?_ | refine awp_cond_f rfl ?_ | ((refine awp_cond rfl (fun h => ?_) (fun h => ?_) <;> try simp only [ifs] at h) <;> (try (exfalso; omega))) | refine awp_ret ?_))
    show Emb E _ _ _
    (refine emb [0, 1, 2, 3] ?_ ?_ rfl ?_ ?_ ?_ ?_ <;> simp [okM, okO, lk, ren, renL, renNd, by_, hE] <;> (try omega) <;> (try (intro i hi; first | (rcases i with _ | _ | i; rfl; rfl; (exfalso; omega)) | (rcases i with _ | _ | _ | i; rfl; rfl; rfl; (exfalso; omega)) | (rcases i with _ | _ | _ | _ | i; rfl; rfl; rfl; rfl; (exfalso; omega)) | (rcases i with _ | _ | _ | _ | _ | i; rfl; rfl; rfl; rfl; rfl; (exfalso; omega)) | (rcases i with _ | _ | _ | _ | _ | _ | i; rfl; rfl; rfl; rfl; rfl; rfl; (exfalso; omega)))))
  intro th2 z2 a2 w2 hs2
  refine wp_seq ?_
  refine segO (S1 := ⟨[(5, .p 3 0 0), (4, .p 2 0 0), (3, .p 1 0 0), (2, .p 0 0 0)], [(0, .box 24 [.ro true 5 (ps.map eP), .r (.int .i64 r)]), (1, .box 30 [.ro true 1 (k.map eByte)]), (2, .box 36 [.r (.slice none 0 0), .r (.int .i64 0)]), (3, .box 26 [.r (.int .i64 0)])], 4⟩) ?_ hs2 ?_
  · (repeat' (first | refine awp_seq ?_ | refine awp_block ?_ | refine awp_skip ?_ | refine awp_exit ?_ | ((first | refine rR (fun K kp hK hkp => ?_) | refine iG ?_); simp (implicitDefEqProofs := false) (maxSteps := 2000000) (disch := omega) only [go_sem, g1]; (repeat' (first | (refine hK _ ?_; clear hK hkp kp K) | (with_reducible refine And.intro ?_ ?_) | omega))) | ((first | refine aG (fun h => ?_) (fun h => ?_) | refine aD (fun h => ?_) (fun h => ?_) | refine aX (fun h => ?_) (fun h => ?_)) <;> simp only [h]) | refine awp_cond_t rfl ?_ | refine awp_cond_f rfl ?_ | ((refine awp_cond rfl (fun h => ?_) (fun h => ?_) <;> try simp only [ifs] at h) <;> (try (exfalso; omega))) | refine awp_ret ?_))
    show Emb E _ _ _
    (refine emb [0, 1, 2, 3] ?_ ?_ rfl ?_ ?_ ?_ ?_ <;> simp [okM, okO, lk, ren, renL, renNd, by_, hE] <;> (try omega) <;> (try (intro i hi; first | (rcases i with _ | _ | i; rfl; rfl; (exfalso; omega)) | (rcases i with _ | _ | _ | i; rfl; rfl; rfl; (exfalso; omega)) | (rcases i with _ | _ | _ | _ | i; rfl; rfl; rfl; rfl; (exfalso; omega)) | (rcases i with _ | _ | _ | _ | _ | i; rfl; rfl; rfl; rfl; rfl; (exfalso; omega)) | (rcases i with _ | _ | _ | _ | _ | _ | i; rfl; rfl; rfl; rfl; rfl; rfl; (exfalso; omega)))))
  intro th3 z3 a3 w3 hs3
  refine wp_seq ?_
  refine wp_seq ?_
  refine segO (S1 := ⟨[(20, eachA true true ps r k), (5, .p 3 0 0), (4, .p 2 0 0), (3, .p 1 0 0), (2, .p 0 0 0)], [(0, .box 24 [.ro true 5 (ps.map eP), .r (.int .i64 r)]), (1, .box 30 [.ro true 1 (k.map eByte)]), (2, .box 36 [.r (.slice none 0 0), .r (.int .i64 0)]), (3, .box 26 [.r (.int .i64 0)])], 4⟩) ?_ hs3 ?_
  · simp only [eachA] at ec
    (repeat' (first | refine awp_seq ?_ | refine awp_block ?_ | refine awp_skip ?_ | refine awp_exit ?_ | ((first | refine rR (fun K kp hK hkp => ?_) | refine cR ec ?_ | refine iG ?_); simp (implicitDefEqProofs := false) (maxSteps := 2000000) (disch := omega) only [go_sem]; (repeat' (first | (refine hK _ ?_; clear hK hkp kp K) | (with_reducible refine And.intro ?_ ?_) | omega))) | ((first | refine aG (fun h => ?_) (fun h => ?_) | refine aD (fun h => ?_) (fun h => ?_) | refine aX (fun h => ?_) (fun h => ?_)) <;> simp only [h]) | refine awp_cond_t rfl ?_ | refine awp_cond_f rfl ?_ | ((refine awp_cond rfl (fun h => ?_) (fun h => ?_) <;> try simp only [ifs] at h) <;> (try (exfalso; omega))) | refine awp_ret ?_))
    show Emb E _ _ _
    (refine emb [0, 1, 2, 3] ?_ ?_ rfl ?_ ?_ ?_ ?_ <;> simp [okM, okO, lk, ren, renL, renNd, by_, hE, eachA] <;> (try omega) <;> (try (intro i hi; first | (rcases i with _ | _ | i; rfl; rfl; (exfalso; omega)) | (rcases i with _ | _ | _ | i; rfl; rfl; rfl; (exfalso; omega)) | (rcases i with _ | _ | _ | _ | i; rfl; rfl; rfl; rfl; (exfalso; omega)) | (rcases i with _ | _ | _ | _ | _ | i; rfl; rfl; rfl; rfl; rfl; (exfalso; omega)) | (rcases i with _ | _ | _ | _ | _ | _ | i; rfl; rfl; rfl; rfl; rfl; rfl; (exfalso; omega)))))
  intro th5 z5 a5 w5 hs5
  refine wp_block ?_
  rw [hEq] at hs5
  clear hs1 hs2 hs3 hA0 cc ec
  obtain ⟨y, hy, hry⟩ := hs5.slots 20 _ rfl
  unfold eachA at hry
  cases hry with
  | fn _ _ _ ys hl hx =>
  have hr2 : Reps w5 z5 th5 [.re true [.ro true 5 (ps.map eP), .r (.int .i64 r)] 0, .re true [.ro true 1 (k.map eByte)] 0] ys := ⟨hl, hx⟩
  obtain ⟨pT, qT, rfl, r1, r2⟩ := hr2.head
  obtain ⟨pK, qK, rfl, r3, r4⟩ := r2.head
  obtain rfl := r4.of_nil
  have r1 := Rep.unpure rfl r1
  have r3 := Rep.unpure rfl r3
  have hlen5 : th5.length = 4 := hs5.mem.len
  have hS05 : Since w0 z0 w5 z5 := since_of_mem hs5.mem
  refine wp_range (G := G) (N := (Go.Proofs.Try.f16).ntmps) (kk := 7) (w0 := w0) (z0 := z0) (zc := z5) (th0 := th5) (th := th5) (m := [(5, .p 3 0 0), (4, .p 2 0 0), (3, .p 1 0 0), (2, .p 0 0 0)]) (eA := fun x : Et => .agg (eEt x)) (all := all) (gf := 55) (lb := #[pT, pK])
    (fun _ => [(0, .box 24 [.ro true 5 (ps.map eP), .r (.int .i64 r)]), (1, .box 30 [.ro true 1 (k.map eByte)]), (2, .box 36 [.r (.slice none 0 0), .r (.int .i64 0)]), (3, .box 26 [.r (.int .i64 0)])]) 4
    (fun _ x => ⟨[(7, .p 4 0 0), (5, .p 3 0 0), (4, .p 2 0 0), (3, .p 1 0 0), (2, .p 0 0 0)], [(0, .box 24 [.ro true 5 (ps.map eP), .r (.int .i64 r)]), (1, .box 30 [.ro true 1 (k.map eByte)]), (2, .box 36 [.r (.slice none 0 0), .r (.int .i64 0)]), (3, .box 26 [.r (.int .i64 0)]), (4, .box 36 (eEt x))], 5⟩)
    (fun _ pre => [(0, .box 24 [.ro true 5 (ps.map eP), .r (.int .i64 r)]), (1, .box 30 [.ro true 1 (k.map eByte)]), (2, .box 36 (eEt (pre.getLastD ([], 0)))), (3, .box 26 [.r (.int .i64 0)])]) 4
    (okA k) (fun e pre => e = .ret ∧ cutA2 k pre) (fun _ => rfl) (fun _ _ => rfl) (fun _ _ => rfl) (fun v pre h => (by cases h.1)) ?hok hs5.mem ?hsl (fun _ _ h => h) hs5.size hs5.dfs ?hg (by kernel_rfl) (of_decide_eq_true (by kernel_rfl)) rfl ?hit ?hassign ?hbody ?hdone ?hstop
  case hok => exact fun e he => (by cases he)
  case hsl =>
    intro i x hi
    refine hs5.slots i x ?_
    simp only [lk] at hi ⊢
    by_cases h20 : 20 = i
    · subst h20; simp at hi
    · rw [if_neg h20]; exact hi
  case hg => simp only [Act.eval, Array.getD_eq_getD_getElem?, hy, Option.getD_some]
  case hit =>
    intro J Jx W z Y hzlt hS hJ
    rw [← hall] at Y
    have he := each1_any (G := G) hL ho h.ok fc Y W z hzlt (fun g cs hg => by
      obtain ⟨h1, h2⟩ := hG0 g cs hg
      have h3 := hS05.trans hS
      exact ⟨h3.sub _ _ h1, fun j v hv => (cell_heap (h3.ext.same g (hz0 _ _ h1)) j).trans (h2 j v hv)⟩) pT pK
      (.cons (r1.on' ⟨hS.sub, fun t b hb => hS.ext.same b (hs5.mem.zlt t b hb)⟩) (.cons (r3.on' ⟨hS.sub, fun t b hb => hS.ext.same b (hs5.mem.zlt t b hb)⟩) .nil)) hJ
    rw [hall] at he
    simpa using he
  case hassign =>
    intro E pre x hpx hk hG hE
    rw [hlen5] at hE
    refine awr_region (fun K kp hK hkp => ?_)
    (simp (implicitDefEqProofs := false) (maxSteps := 2000000) (disch := omega) only [go_sem, eEt]; (repeat' (first | (refine hK _ ?_; clear hK hkp kp K) | (with_reducible refine And.intro ?_ ?_) | omega)))
    · rfl
    · (refine emb [0, 1, 2, 3, 4] ?_ ?_ rfl ?_ ?_ ?_ ?_ <;> simp [okM, okO, lk, ren, renL, renNd, by_, hE, eEt] <;> (try omega) <;> (try (intro i hi; first | (rcases i with _ | _ | i; rfl; rfl; (exfalso; omega)) | (rcases i with _ | _ | _ | i; rfl; rfl; rfl; (exfalso; omega)) | (rcases i with _ | _ | _ | _ | i; rfl; rfl; rfl; rfl; (exfalso; omega)) | (rcases i with _ | _ | _ | _ | _ | i; rfl; rfl; rfl; rfl; rfl; (exfalso; omega)) | (rcases i with _ | _ | _ | _ | _ | _ | i; rfl; rfl; rfl; rfl; rfl; rfl; (exfalso; omega)))))
  case hbody =>
    intro E pre x hpx hok hG hE
    rw [hlen5] at hE
    have hbc := bEq_con E.G true true x.1 k
    refine awr_block ?_
    refine awr_seq ?_
    refine awr_region (fun K kp hK hkp => ?_)
    cases hx1 : (x.1 == k)
    · rw [hx1] at hbc
      have hne : x.1 ≠ k := by simpa using hx1
      (simp (implicitDefEqProofs := false) (maxSteps := 2000000) (disch := omega) only [go_sem, eEt]; (repeat' (first | (refine hK _ ?_; clear hK hkp kp K) | (with_reducible refine And.intro ?_ ?_) | omega)))
      refine cR hbc ?_
      (simp (implicitDefEqProofs := false) (maxSteps := 2000000) (disch := omega) only [go_sem, eEt]; (repeat' (first | (refine hK _ ?_; clear hK hkp kp K) | (with_reducible refine And.intro ?_ ?_) | omega)))
      refine awr_cond_t rfl ?_
      refine awr_seq ?_
      refine awr_region (fun K kp hK hkp => ?_)
      (simp (implicitDefEqProofs := false) (maxSteps := 2000000) (disch := omega) only [go_sem, eEt]; (repeat' (first | (refine hK _ ?_; clear hK hkp kp K) | (with_reducible refine And.intro ?_ ?_) | omega)))
      refine awr_ret ?_
      refine Or.inr ⟨by simp, ⟨rfl, pre, x, rfl, hok, hne⟩, ?_⟩
      rw [show (pre ++ [x]).getLastD ([], 0) = x by simp]
      (refine emb [0, 1, 2, 3] ?_ ?_ rfl ?_ ?_ ?_ ?_ <;> simp [okM, okO, lk, ren, renL, renNd, by_, hE, eEt] <;> (try omega) <;> (try (intro i hi; first | (rcases i with _ | _ | i; rfl; rfl; (exfalso; omega)) | (rcases i with _ | _ | _ | i; rfl; rfl; rfl; (exfalso; omega)) | (rcases i with _ | _ | _ | _ | i; rfl; rfl; rfl; rfl; (exfalso; omega)) | (rcases i with _ | _ | _ | _ | _ | i; rfl; rfl; rfl; rfl; rfl; (exfalso; omega)) | (rcases i with _ | _ | _ | _ | _ | _ | i; rfl; rfl; rfl; rfl; rfl; rfl; (exfalso; omega)))))
    · rw [hx1] at hbc
      have he : x.1 = k := by simpa using hx1
      (simp (implicitDefEqProofs := false) (maxSteps := 2000000) (disch := omega) only [go_sem, eEt]; (repeat' (first | (refine hK _ ?_; clear hK hkp kp K) | (with_reducible refine And.intro ?_ ?_) | omega)))
      refine cR hbc ?_
      (simp (implicitDefEqProofs := false) (maxSteps := 2000000) (disch := omega) only [go_sem, eEt]; (repeat' (first | (refine hK _ ?_; clear hK hkp kp K) | (with_reducible refine And.intro ?_ ?_) | omega)))
      refine awr_cond_f rfl ?_
      refine awr_skip ?_
      refine Or.inl ⟨rfl, ?_, ?_⟩
      · intro e he'
        rcases List.mem_append.1 he' with he' | he'
        · exact hok e he'
        · rw [List.mem_singleton.1 he']; exact he
      · (refine emb [0, 1, 2, 3] ?_ ?_ rfl ?_ ?_ ?_ ?_ <;> simp [okM, okO, lk, ren, renL, renNd, by_, hE, eEt] <;> (try omega) <;> (try (intro i hi; first | (rcases i with _ | _ | i; rfl; rfl; (exfalso; omega)) | (rcases i with _ | _ | _ | i; rfl; rfl; rfl; (exfalso; omega)) | (rcases i with _ | _ | _ | _ | i; rfl; rfl; rfl; rfl; (exfalso; omega)) | (rcases i with _ | _ | _ | _ | _ | i; rfl; rfl; rfl; rfl; rfl; (exfalso; omega)) | (rcases i with _ | _ | _ | _ | _ | _ | i; rfl; rfl; rfl; rfl; rfl; rfl; (exfalso; omega)))))
  case hdone =>
    intro W z' hk hJ hd
    have hres := find_ok hk
    dsimp only [Exit.inBlock, Exit.then]
    rw [hres]
    obtain ⟨th6, z6, hs6, hb6, hD6⟩ := hJ.sim hs5.size
    have hE : (EpM w5.heap.size w0 G th5 W z6).th0.length = 4 := hlen5
    refine wp_seq ?_
    refine segO (S1 := ⟨[(5, .p 3 0 0), (4, .p 2 0 0)], [(0, .box 24 [.ro true 5 (ps.map eP), .r (.int .i64 r)]), (1, .box 30 [.ro true 1 (k.map eByte)]), (2, .box 36 [.r (.slice none 0 0), .r (.int .i64 0)]), (3, .box 26 [.r (.int .i64 8)])], 4⟩) ?_ hs6 ?_
    · (repeat' (first | refine awp_seq ?_ | refine awp_block ?_ | refine awp_skip ?_ | refine awp_exit ?_ | ((first | refine rR (fun K kp hK hkp => ?_) | refine iG ?_); simp (implicitDefEqProofs := false) (maxSteps := 2000000) (disch := omega) only [go_sem]; (repeat' (first | (refine hK _ ?_; clear hK hkp kp K) | (with_reducible refine And.intro ?_ ?_) | omega))) | ((first | refine aG (fun h => ?_) (fun h => ?_) | refine aD (fun h => ?_) (fun h => ?_) | refine aX (fun h => ?_) (fun h => ?_)) <;> simp only [h]) | refine awp_cond_t rfl ?_ | refine awp_cond_f rfl ?_ | ((refine awp_cond rfl (fun h => ?_) (fun h => ?_) <;> try simp only [ifs] at h) <;> (try (exfalso; omega))) | refine awp_ret ?_))
      show Emb _ _ _ _
      (refine emb [0, 1, 2, 3] ?_ ?_ rfl ?_ ?_ ?_ ?_ <;> simp [okM, okO, lk, ren, renL, renNd, by_, hE] <;> (try omega) <;> (try (intro i hi; first | (rcases i with _ | _ | i; rfl; rfl; (exfalso; omega)) | (rcases i with _ | _ | _ | i; rfl; rfl; rfl; (exfalso; omega)) | (rcases i with _ | _ | _ | _ | i; rfl; rfl; rfl; rfl; (exfalso; omega)) | (rcases i with _ | _ | _ | _ | _ | i; rfl; rfl; rfl; rfl; rfl; (exfalso; omega)) | (rcases i with _ | _ | _ | _ | _ | _ | i; rfl; rfl; rfl; rfl; rfl; rfl; (exfalso; omega)))))
    intro th7 z7 a7 w7 hs7
    refine wp_ret ?_
    refine ret_range hs7 rfl hb6 hS05.ext.size hD6 hd hG0 hz0 ?_
    intro E hE
    refine ⟨_, by (simp (implicitDefEqProofs := false) (maxSteps := 2000000) (disch := omega) only [go_sem, Go.Proofs.Try.results16]; rfl), ?_⟩
    refine eN hE ?_
    simp [oneA, ren, renL, aboveA]
  case hstop =>
    intro e pre W z' hpre hX hJ hd
    obtain ⟨rfl, hcut⟩ := hX
    have hres := find_cut hcut hpre
    obtain ⟨l', x, rfl, _, _⟩ := hcut
    rw [List.getLast?_concat] at hres
    refine wp_ret ?_
    dsimp only [Exit.inBlock, Exit.then]
    rw [hres]
    obtain ⟨th6, z6, hs6, hb6, hD6⟩ := hJ.sim hs5.size
    refine ret_range hs6 rfl hb6 hS05.ext.size hD6 hd hG0 hz0 ?_
    intro E hE
    rw [show (l' ++ [x]).getLastD ([], 0) = x by simp]
    refine ⟨_, by (simp (implicitDefEqProofs := false) (maxSteps := 2000000) (disch := omega) only [go_sem, Go.Proofs.Try.results16, eEt]; rfl), ?_⟩
    refine eN hE ?_
    simp [oneA, ren, renL, aboveA, eEt]
end Go.AM
/- Above: both sides; the law TreeAboves. -/
namespace Go.AM
open Go Go.RowKit
attribute [local irreducible] AWP retA
noncomputable def askB (ps : List PG) (root : Int) (k : Ky) : Int := if chkR ps root ≠ 0 then chkR ps root else if k.length ≤ 100 then 0 else 1
theorem askB_chk {ps : List PG} {root : Int} {k : Ky} (h : askB ps root k = 0) : ChkOK ps root ∧ k.length ≤ 100 := by
  rw [askB] at h
  by_cases hc : ChkOK ps root
  · rw [chkR_t hc] at h
    refine ⟨hc, ?_⟩
    by_cases hl : k.length ≤ 100
    · exact hl
    · rw [if_neg (by simp), if_neg hl] at h; cases h
  · rw [chkR_f hc] at h; simp at h
/-- The first entry above, by hand. -/
def abF (k : Ky) : List Et → Option Et
  | [] => none
  | e :: r => if ltK k e.1 = true then some e else abF k r
theorem abF_eq (k : Ky) : ∀ l, abF k l = l.find? (fun e => ltK k e.1)
  | [] => rfl
  | e :: r => by
    rw [abF, List.find?_cons]
    cases h : ltK k e.1
    · simp only [Bool.false_eq_true, if_false]; exact abF_eq k r
    · simp
def aboA (a : Int) (R : Option Et) : AV := if a = 0 then (match R with
  | some e => .tup [.agg (eEt e), .r (.int .i64 0)]
  | none => .tup [.agg [.ro true 1 [], .r (.int .i64 0)], .r (.int .i64 8)]) else .tup [.agg [.ro true 1 [], .r (.int .i64 0)], .r (.int .i64 a)]
theorem rep_aggnil {w : World} {z : Zone} {th : List NLoc} {t : Bool} {k : Nat} {x y : AV} {v : Value} (h : Rep w z th (.tup [.agg [.r (.slice none 0 0), x], y]) v) : Rep w z th (.tup [.agg [.ro t k [], x], y]) v := by
  cases h with
  | tup _ c ys hl hx =>
    refine .tup _ _ ys hl (fun i u q h1 h2 => ?_)
    cases i with
    | zero =>
      have := hx 0 _ q rfl h2
      cases h1
      cases this with
      | agg _ c2 us hl2 hx2 =>
        refine .agg _ _ us hl2 (fun j u2 q2 h3 h4 => ?_)
        cases j with
        | zero =>
          have := hx2 0 _ q2 rfl h4
          cases h3
          cases this with
          | r => exact .nil _ _ _ _ _
        | succ j => exact hx2 (j + 1) u2 q2 h3 h4
    | succ i => exact hx (i + 1) u q h1 h2
set_option maxRecDepth 100000 in
set_option maxHeartbeats 4000000 in
theorem above_con (G : List (Nat × List Value)) (ps : List PG) (root : Int) (k : Ky) (ho : okPs2 ps) (R : Option Et) (hR : askB ps root k = 0 → ∀ r d : Nat, root = r → Trd ps r d → R = abF k (entsF ps d r)) :
    Con Go.Proofs.Try.prog G 16 [.agg [.ro true 5 (ps.map eP), .r (.int .i64 root)], .ro true 1 (k.map eByte)] [] 0 (Is (aboA (askB ps root k) R) [] 0) No := by
  unfold aboA
  by_cases h0 : askB ps root k = 0
  · obtain ⟨hc, hk⟩ := askB_chk h0
    obtain ⟨r, d, rfl, h⟩ := trd_of hc
    rw [if_pos h0, hR h0 r d rfl h, abF_eq, ← above_same]
    have ag := above_good G h ho hc k hk
    cases hf : ((entsF ps d r).filter (fun e => !ltK e.1 k)).find? (fun e => e.1 != k) with
    | some e => rw [hf] at ag; exact ag
    | none => rw [hf] at ag; exact ag.res (fun w z th v hr => rep_aggnil hr)
  · have cc := check_con2 G ps root (okPs_of ho)
    rw [if_neg h0]
    rw [askB] at h0 ⊢
    obtain ⟨c, hc⟩ : ∃ c, chkR ps root = c := ⟨_, rfl⟩
    rw [hc] at h0 cc ⊢
    refine Con.res (y := .tup [.agg [.r (.slice none 0 0), .r (.int .i64 0)], .r (.int .i64 (if c ≠ 0 then c else if k.length ≤ 100 then 0 else 1))]) ?_ (fun w z th v hr => rep_aggnil hr)
    refine con_of_awp Go.Proofs.Try.func16 rfl (by kernel_rfl) (of_decide_eq_true (by kernel_rfl)) ?_; intro E hG hE; subst hG; simp only [ent]
    by_cases h1 : c = 0
    · subst h1
      rw [if_neg (by simp)] at h0 ⊢
      have hk : ¬ k.length ≤ 100 := fun hl => h0 (if_pos hl)
      rw [if_neg hk]
      have g1 : ((k.length : Int) > 100) = True := eq_true (by omega)
      (repeat' (first | refine awp_seq ?_ | refine awp_block ?_ | refine awp_skip ?_ | refine awp_exit ?_ | ((first | refine rR (fun K kp hK hkp => ?_) | refine cR cc ?_ | refine iG ?_); simp (implicitDefEqProofs := false) (maxSteps := 2000000) (disch := omega) only [go_sem, bne_self_eq_false, g1]; (repeat' (first | (refine hK _ ?_; clear hK hkp kp K) | (with_reducible refine And.intro ?_ ?_) | omega))) | ((first | refine aG (fun h => ?_) (fun h => ?_) | refine aD (fun h => ?_) (fun h => ?_) | refine aX (fun h => ?_) (fun h => ?_)) <;> simp only [h]) | refine awp_cond_t rfl ?_ | refine awp_cond_f rfl ?_ | ((refine awp_cond rfl (fun h => ?_) (fun h => ?_) <;> try simp only [ifs] at h) <;> (try (exfalso; omega))) | refine awp_ret ?_))
      (refine retA_is (by (simp (implicitDefEqProofs := false) (maxSteps := 2000000) (disch := omega) only [go_sem, Go.Proofs.Try.results16]); rfl) ?_; refine eN hE ?_; simp [oneA, ren, renL])
    · have z0 : (c != 0) = true := by simp [h1]
      rw [if_pos h1]
      (repeat' (first | refine awp_seq ?_ | refine awp_block ?_ | refine awp_skip ?_ | refine awp_exit ?_ | ((first | refine rR (fun K kp hK hkp => ?_) | refine cR cc ?_ | refine iG ?_); simp (implicitDefEqProofs := false) (maxSteps := 2000000) (disch := omega) only [go_sem, z0]; (repeat' (first | (refine hK _ ?_; clear hK hkp kp K) | (with_reducible refine And.intro ?_ ?_) | omega))) | ((first | refine aG (fun h => ?_) (fun h => ?_) | refine aD (fun h => ?_) (fun h => ?_) | refine aX (fun h => ?_) (fun h => ?_)) <;> simp only [h]) | refine awp_cond_t rfl ?_ | refine awp_cond_f rfl ?_ | ((refine awp_cond rfl (fun h => ?_) (fun h => ?_) <;> try simp only [ifs] at h) <;> (try (exfalso; omega))) | refine awp_ret ?_))
      (refine retA_is (by (simp (implicitDefEqProofs := false) (maxSteps := 2000000) (disch := omega) only [go_sem, Go.Proofs.Try.results16]); rfl) ?_; refine eN hE ?_; simp [oneA, ren, renL])
set_option maxRecDepth 100000 in
set_option maxHeartbeats 4000000 in
theorem aboveKey_con (G : List (Nat × List Value)) (t u : Bool) (ps : List PG) (root : Int) (k : Ky) (ho : okPs2 ps) (R : Option Et) (hR : askB ps root k = 0 → ∀ r d : Nat, root = r → Trd ps r d → R = abF k (entsF ps d r)) :
    Con Go.Proofs.Try.prog G 17 [.agg [.ro t 5 (ps.map eP), .r (.int .i64 root)], .ro u 1 (k.map eByte)] [] 0 (Is (aboA (askB ps root k) R) [] 0) No := by
  have cc := treeFault_con G t ps root (okPs_of ho) ho.1
  rw [← chk_flt] at cc
  unfold aboA
  by_cases h0 : askB ps root k = 0
  · obtain ⟨hc, hk⟩ := askB_chk h0
    obtain ⟨r, d, rfl, h⟩ := trd_of hc
    rw [if_pos h0]
    have hR := hR h0 r d rfl h
    rw [chkR_t hc] at cc
    have ec := entriesOf_con G t h ho
    have hlen := flatE_len h.ok (lvl ps d [r])
    have := h.many
    have hlen : (entsF ps d r).length ≤ 16000 := by rw [entsF]; omega
    generalize entsF ps d r = l at *
    have g1 : ((k.length : Int) > 100) = False := eq_false (by omega)
    have key : ∀ y, (match R with
      | some e => .tup [.agg (eEt e), .r (.int .i64 0)]
      | none => .tup [.agg [.r (.slice none 0 0), .r (.int .i64 0)], .r (.int .i64 8)] : AV) = y → Con Go.Proofs.Try.prog G 17 [.agg [.ro t 5 (ps.map eP), .r (.int .i64 r)], .ro u 1 (k.map eByte)] [] 0 (Is y [] 0) No := by
      intro y hy
      refine con_of_awp Go.Proofs.Try.func17 rfl (by kernel_rfl) (of_decide_eq_true (by kernel_rfl)) ?_; intro E hG hE; subst hG; simp only [ent]
      (repeat' (first | refine awp_seq ?_ | refine awp_block ?_ | refine awp_skip ?_ | refine awp_exit ?_ | ((first | refine rR (fun K kp hK hkp => ?_) | refine cR cc ?_ | refine cR ec ?_ | refine iG ?_); simp (implicitDefEqProofs := false) (maxSteps := 2000000) (disch := omega) only [go_sem, bne_self_eq_false, beq_self_eq_true, g1]; (repeat' (first | (refine hK _ ?_; clear hK hkp kp K) | (with_reducible refine And.intro ?_ ?_) | omega))) | ((first | refine aG (fun h => ?_) (fun h => ?_) | refine aD (fun h => ?_) (fun h => ?_) | refine aX (fun h => ?_) (fun h => ?_)) <;> simp only [h]) | refine awp_cond_t rfl ?_ | refine awp_cond_f rfl ?_ | ((refine awp_cond rfl (fun h => ?_) (fun h => ?_) <;> try simp only [ifs] at h) <;> (try (exfalso; omega))) | refine awp_ret ?_))
      refine awp_loop (fun j : Nat => ⟨[(8, .r (.int .i64 j)), (7, .ro true 2 (l.map eEt)), (4, .p 1 0 0), (1, .ro u 1 (k.map eByte))], [(0, .box 24 [.ro t 5 (ps.map eP), .r (.int .i64 r)]), (1, .box 36 [.r (.slice none 0 0), .r (.int .i64 0)])], 2⟩) (fun j => j ≤ l.length ∧ R = abF k (l.drop j)) (fun j => l.length - j) 0 ?_ ?_ ?_
      · exact ⟨Nat.zero_le _, hR⟩
      · (refine emb [0, 1] ?_ ?_ rfl ?_ ?_ ?_ ?_ <;> simp [okM, okO, lk, ren, renL, renNd, by_, hE] <;> (try omega) <;> (try (intro i hi; first | (rcases i with _ | _ | i; rfl; rfl; (exfalso; omega)) | (rcases i with _ | _ | _ | i; rfl; rfl; rfl; (exfalso; omega)) | (rcases i with _ | _ | _ | _ | i; rfl; rfl; rfl; rfl; (exfalso; omega)) | (rcases i with _ | _ | _ | _ | _ | i; rfl; rfl; rfl; rfl; rfl; (exfalso; omega)) | (rcases i with _ | _ | _ | _ | _ | _ | i; rfl; rfl; rfl; rfl; rfl; rfl; (exfalso; omega)))))
      rintro j ⟨hj, hRj⟩
      by_cases hlt : j < l.length
      · have zj : ((j : Int) < (l.length : Int)) = True := eq_true (by omega)
        obtain ⟨x, hx⟩ : ∃ x, l[j]? = some x := ⟨_, List.getElem?_eq_getElem hlt⟩
        rw [drop_at hx, abF] at hRj
        have b1 := keyBefore_con E.G u true k x.1
        change Con _ _ _ _ _ _ (Is (.r (.bool (ltK k x.1))) [] 0) No at b1
        cases h1 : ltK k x.1
        · rw [h1] at b1
          rw [h1, if_neg (by simp)] at hRj
          (repeat' (first | refine awp_seq ?_ | refine awp_block ?_ | refine awp_skip ?_ | refine awp_exit ?_ | ((first | refine rR (fun K kp hK hkp => ?_) | refine cR b1 ?_ | refine iG ?_); simp (implicitDefEqProofs := false) (maxSteps := 2000000) (disch := omega) only [go_sem, zj, hx, eEt]; (repeat' (first | (refine hK _ ?_; clear hK hkp kp K) | (with_reducible refine And.intro ?_ ?_) | omega))) | ((first | refine aG (fun h => ?_) (fun h => ?_) | refine aD (fun h => ?_) (fun h => ?_) | refine aX (fun h => ?_) (fun h => ?_)) <;> simp only [h]) | refine awp_cond_t rfl ?_ | refine awp_cond_f rfl ?_ | ((refine awp_cond rfl (fun h => ?_) (fun h => ?_) <;> try simp only [ifs] at h) <;> (try (exfalso; omega))) | refine awp_ret ?_))
          ((first | (refine nextB (j + 1) ?_ ?_ ?_) | (refine nextA (j + 1) ?_ ?_ ?_) | (refine nextE (j + 1) ?_ ?_ ?_)); rotate_left; (· (try dsimp only); (first | omega | (simp only [List.length_drop, List.length_cons, List.length_append]; omega) | (simp; done) | (simp; omega))); (· (refine emb [0, 1] ?_ ?_ rfl ?_ ?_ ?_ ?_ <;> simp [okM, okO, lk, ren, renL, renNd, by_, hE] <;> (try omega) <;> (try (intro i hi; first | (rcases i with _ | _ | i; rfl; rfl; (exfalso; omega)) | (rcases i with _ | _ | _ | i; rfl; rfl; rfl; (exfalso; omega)) | (rcases i with _ | _ | _ | _ | i; rfl; rfl; rfl; rfl; (exfalso; omega)) | (rcases i with _ | _ | _ | _ | _ | i; rfl; rfl; rfl; rfl; rfl; (exfalso; omega)) | (rcases i with _ | _ | _ | _ | _ | _ | i; rfl; rfl; rfl; rfl; rfl; rfl; (exfalso; omega)))))))
          exact ⟨by omega, hRj⟩
        · rw [h1] at b1
          rw [h1, if_pos rfl] at hRj
          rw [hRj] at hy
          (repeat' (first | refine awp_seq ?_ | refine awp_block ?_ | refine awp_skip ?_ | refine awp_exit ?_ | ((first | refine rR (fun K kp hK hkp => ?_) | refine cR b1 ?_ | refine iG ?_); simp (implicitDefEqProofs := false) (maxSteps := 2000000) (disch := omega) only [go_sem, zj, hx, eEt]; (repeat' (first | (refine hK _ ?_; clear hK hkp kp K) | (with_reducible refine And.intro ?_ ?_) | omega))) | ((first | refine aG (fun h => ?_) (fun h => ?_) | refine aD (fun h => ?_) (fun h => ?_) | refine aX (fun h => ?_) (fun h => ?_)) <;> simp only [h]) | refine awp_cond_t rfl ?_ | refine awp_cond_f rfl ?_ | ((refine awp_cond rfl (fun h => ?_) (fun h => ?_) <;> try simp only [ifs] at h) <;> (try (exfalso; omega))) | refine awp_ret ?_))
          subst hy
          (refine retA_is (by (simp (implicitDefEqProofs := false) (maxSteps := 2000000) (disch := omega) only [go_sem, Go.Proofs.Try.results17, eEt]); rfl) ?_; refine eN hE ?_; simp [oneA, ren, renL, eEt])
      · obtain rfl : j = l.length := by omega
        rw [List.drop_length] at hRj
        rw [show R = none from hRj] at hy
        (repeat' (first | refine awp_seq ?_ | refine awp_block ?_ | refine awp_skip ?_ | refine awp_exit ?_ | ((first | refine rR (fun K kp hK hkp => ?_) | refine iG ?_); simp (implicitDefEqProofs := false) (maxSteps := 2000000) (disch := omega) only [go_sem]; (repeat' (first | (refine hK _ ?_; clear hK hkp kp K) | (with_reducible refine And.intro ?_ ?_) | omega))) | ((first | refine aG (fun h => ?_) (fun h => ?_) | refine aD (fun h => ?_) (fun h => ?_) | refine aX (fun h => ?_) (fun h => ?_)) <;> simp only [h]) | refine awp_cond_t rfl ?_ | refine awp_cond_f rfl ?_ | ((refine awp_cond rfl (fun h => ?_) (fun h => ?_) <;> try simp only [ifs] at h) <;> (try (exfalso; omega))) | refine awp_ret ?_))
        subst hy
        (refine retA_is (by (simp (implicitDefEqProofs := false) (maxSteps := 2000000) (disch := omega) only [go_sem, Go.Proofs.Try.results17]); rfl) ?_; refine eN hE ?_; simp [oneA, ren, renL])
    cases R with
    | some e => exact key _ rfl
    | none => exact (key _ rfl).res (fun w z th v hr => rep_aggnil hr)
  · rw [if_neg h0]
    rw [askB] at h0 ⊢
    obtain ⟨c, hc⟩ : ∃ c, chkR ps root = c := ⟨_, rfl⟩
    rw [hc] at h0 cc ⊢
    refine Con.res (y := .tup [.agg [.r (.slice none 0 0), .r (.int .i64 0)], .r (.int .i64 (if c ≠ 0 then c else if k.length ≤ 100 then 0 else 1))]) ?_ (fun w z th v hr => rep_aggnil hr)
    refine con_of_awp Go.Proofs.Try.func17 rfl (by kernel_rfl) (of_decide_eq_true (by kernel_rfl)) ?_; intro E hG hE; subst hG; simp only [ent]
    by_cases h1 : c = 0
    · subst h1
      rw [if_neg (by simp)] at h0 ⊢
      have hk : ¬ k.length ≤ 100 := fun hl => h0 (if_pos hl)
      rw [if_neg hk]
      have g1 : ((k.length : Int) > 100) = True := eq_true (by omega)
      (repeat' (first | refine awp_seq ?_ | refine awp_block ?_ | refine awp_skip ?_ | refine awp_exit ?_ | ((first | refine rR (fun K kp hK hkp => ?_) | refine cR cc ?_ | refine iG ?_); simp (implicitDefEqProofs := false) (maxSteps := 2000000) (disch := omega) only [go_sem, beq_self_eq_true, g1]; (repeat' (first | (refine hK _ ?_; clear hK hkp kp K) | (with_reducible refine And.intro ?_ ?_) | omega))) | ((first | refine aG (fun h => ?_) (fun h => ?_) | refine aD (fun h => ?_) (fun h => ?_) | refine aX (fun h => ?_) (fun h => ?_)) <;> simp only [h]) | refine awp_cond_t rfl ?_ | refine awp_cond_f rfl ?_ | ((refine awp_cond rfl (fun h => ?_) (fun h => ?_) <;> try simp only [ifs] at h) <;> (try (exfalso; omega))) | refine awp_ret ?_))
      (refine retA_is (by (simp (implicitDefEqProofs := false) (maxSteps := 2000000) (disch := omega) only [go_sem, Go.Proofs.Try.results17]); rfl) ?_; refine eN hE ?_; simp [oneA, ren, renL])
    · have z0 : (c != 0) = true := by simp [h1]
      have z1 : (c == 0) = false := by simp [h1]
      rw [if_pos h1]
      (repeat' (first | refine awp_seq ?_ | refine awp_block ?_ | refine awp_skip ?_ | refine awp_exit ?_ | ((first | refine rR (fun K kp hK hkp => ?_) | refine cR cc ?_ | refine iG ?_); simp (implicitDefEqProofs := false) (maxSteps := 2000000) (disch := omega) only [go_sem, z0, z1]; (repeat' (first | (refine hK _ ?_; clear hK hkp kp K) | (with_reducible refine And.intro ?_ ?_) | omega))) | ((first | refine aG (fun h => ?_) (fun h => ?_) | refine aD (fun h => ?_) (fun h => ?_) | refine aX (fun h => ?_) (fun h => ?_)) <;> simp only [h]) | refine awp_cond_t rfl ?_ | refine awp_cond_f rfl ?_ | ((refine awp_cond rfl (fun h => ?_) (fun h => ?_) <;> try simp only [ifs] at h) <;> (try (exfalso; omega))) | refine awp_ret ?_))
      (refine retA_is (by (simp (implicitDefEqProofs := false) (maxSteps := 2000000) (disch := omega) only [go_sem, Go.Proofs.Try.results17]); rfl) ?_; refine eN hE ?_; simp [oneA, ren, renL])
theorem abs_same (ps : List PG) (root : Int) (k : Ky) : ∃ R : Option Et, ∀ r d : Nat, root = r → Trd ps r d → R = abF k (entsF ps d r) := by
  by_cases h : ∃ r d : Nat, root = r ∧ Trd ps r d
  · obtain ⟨r, d, rfl, h⟩ := h
    refine ⟨abF k (entsF ps d r), fun r' d' e h' => ?_⟩
    obtain rfl : r = r' := by omega
    obtain rfl := good_deep (kids_ne h.ok) d r _ _ _ _ d' h.good h'.good
    rfl
  · exact ⟨none, fun r d e h' => absurd ⟨r, d, e, h'⟩ h⟩
set_option maxRecDepth 100000 in
set_option maxHeartbeats 4000000 in
theorem lawAboves_con (G : List (Nat × List Value)) (ps : List PG) (root : Int) (k : Ky) (ho : okPs2 ps) (hk : k.length ≤ 1048576) : Con Go.Proofs.Try.prog G 5 [.agg [.ro true 5 (ps.map eP), .r (.int .i64 root)], .ro true 1 (k.map eByte)] [] 0 (Is (.r (.bool true)) [] 0) No := by
  obtain ⟨R, hR⟩ := abs_same ps root k
  have tc := trees_con G true ps root ho
  have oc := octetsT_con G true k (by omega)
  have fc := above_con G ps root k ho R fun _ r d e h => hR r d e h
  have gc := aboveKey_con G true true ps root k ho R fun _ r d e h => hR r d e h
  obtain ⟨x, a, hxa⟩ : ∃ (x : Et) (a : Int), aboA (askB ps root k) R = .tup [.agg (eEt x), .r (.int .i64 a)] := by
    unfold aboA
    split
    · cases R with
      | some e => exact ⟨e, 0, rfl⟩
      | none => exact ⟨([], 0), 8, rfl⟩
    · exact ⟨([], 0), _, rfl⟩
  rw [hxa] at fc gc
  have sc := sameEt_con G x
  simp only [eEt] at fc gc sc
  refine con_of_awp Go.Proofs.Try.func5 rfl (by kernel_rfl) (of_decide_eq_true (by kernel_rfl)) ?_; intro E hG hE; subst hG; simp only [ent]
  (repeat' (first | refine awp_seq ?_ | refine awp_block ?_ | refine awp_skip ?_ | refine awp_exit ?_ | ((first | refine rR (fun K kp hK hkp => ?_) | refine cR tc ?_ | refine cR oc ?_ | refine cR fc ?_ | refine cR gc ?_ | refine cR sc ?_ | refine iG ?_); simp (implicitDefEqProofs := false) (maxSteps := 2000000) (disch := omega) only [go_sem, beq_self_eq_true, eEt]; (repeat' (first | (refine hK _ ?_; clear hK hkp kp K) | (with_reducible refine And.intro ?_ ?_) | omega))) | ((first | refine aG (fun h => ?_) (fun h => ?_) | refine aD (fun h => ?_) (fun h => ?_) | refine aX (fun h => ?_) (fun h => ?_)) <;> simp only [h]) | refine awp_cond_t rfl ?_ | refine awp_cond_f rfl ?_ | ((refine awp_cond rfl (fun h => ?_) (fun h => ?_) <;> try simp only [ifs] at h) <;> (try (exfalso; omega))) | refine awp_ret ?_))
  (refine retA_is (by (simp (implicitDefEqProofs := false) (maxSteps := 2000000) (disch := omega) only [go_sem, Go.Proofs.Try.results5]); rfl) ?_; refine eN hE ?_; simp [oneA, ren, renL])
end Go.AM
/- How arguments that came in read: lemmas out of the kit's readings, in the walks' own terms. -/
namespace Go.Proofs.Yteebiklebedneaa
open Go.ChangeShapes Go.WideShapes Go.ChangeAt Go.RowKit
theorem own : ownKnob Try.prog.godebug = none := by kernel_rfl
theorem laidOut : laidOutB Try.prog = true := by kernel_rfl
set_option maxRecDepth 100000 in
theorem open_i64 {H : Type} {enc : TypeId × Value → H} {w : World} {base : Nat} {spare : Nat → Bool} {held : Bool} {b0 : Nat} {v : Value} {d : DataW H} {p : List MemPlace}
    (hv : Value.okWide Try.prog w .any b0 3 v) (h : DataW.Trod enc Try.prog w base spare held 3 v d p) : ∃ n : Int, v = .int .i64 n ∧ (Lit.int .i64 n).wf = true := by
  obtain ⟨n, rfl, _, _, w0⟩ := open_int Try.underlying3 hv h
  exact ⟨n, rfl, w0⟩
theorem i64_bd {n : Int} (h : (Lit.int .i64 n).wf = true) : -9223372036854775808 ≤ n ∧ n ≤ 9223372036854775807 := by
  simp [Lit.wf, IntKind.min, IntKind.max, IntKind.signed, IntKind.bits] at h
  omega
end Go.Proofs.Yteebiklebedneaa
/- How bytes that came in read; bulk. -/
namespace Go.Proofs.Yteebiklebedneaa
open Go.ChangeShapes Go.WideShapes Go.ChangeAt Go.RowKit Go.AM
theorem bulk_one {H : Type} (d : DataW H) : 1 ≤ Rows.uptoBulk d := by
  cases d with
  | lit l => cases l <;> simp [Rows.uptoBulk]
  | nil => simp [Rows.uptoBulk]
  | ptr d => simp [Rows.uptoBulk]
  | slice elems spare => simp [Rows.uptoBulk]
  | agg parts => simp [Rows.uptoBulk]
  | iface t d => simp [Rows.uptoBulk]
  | map entries => simp [Rows.uptoBulk]
  | held h => simp [Rows.uptoBulk]
theorem bulk_length {H : Type} : ∀ l : List (DataW H), l.length ≤ Rows.uptoBulkAll l
  | [] => by simp [Rows.uptoBulkAll]
  | x :: r => by have := bulk_one x; have := bulk_length r; simp only [Rows.uptoBulkAll, List.length_cons]; omega
theorem bulk_slice {H : Type} (ds rest : List (DataW H)) : ds.length + 1 ≤ Rows.uptoBulk (.slice ds rest) := by
  have := bulk_length ds
  simp only [Rows.uptoBulk]; omega
theorem bulk_bound {H : Type} {l : List (DataW H)} (hk : Rows.uptoSmall H l = true) : Rows.uptoBulkAll l ≤ 1048576 := of_decide_eq_true hk
theorem bulk_of {H α : Type} {l : List α} {R : α → DataW H → Prop} {d : DataW H} (h : (l = [] ∧ d = .nil) ∨ ∃ ds rest, d = .slice ds rest ∧ ds.length = l.length ∧ ∀ (i : Nat) y, l[i]? = some y → ∃ d, ds[i]? = some d ∧ R y d) : l.length ≤ Rows.uptoBulk d := by
  rcases h with ⟨rfl, _⟩ | ⟨ds, rest, rfl, h, _⟩
  · exact Nat.zero_le _
  · have := bulk_slice ds rest; omega
end Go.Proofs.Yteebiklebedneaa
/- How bytes that came in read. -/
namespace Go.Proofs.Yteebiklebedneaa
open Go.ChangeShapes Go.WideShapes Go.ChangeAt Go.RowKit Go.AM
theorem leaf_u8 {H : Type} {E : TypeId × Value → H} {w : World} {base : Nat} {spare : Nat → Bool} {held : Bool} (fuel : Nat) (cs : List Value) (x : DataW H × List MemPlace)
    (h : DataW.trod E Try.prog w base spare held fuel 5 cs = some x) : ∃ y : UInt8, Reps w (zAll w) [] (eByte y) cs ∧ (∀ v ∈ cs, v.oneCell' = true) ∧ True := by
  obtain ⟨n, rfl, _, wf⟩ := DataW.trod_int Try.underlying5 h
  have hb : 0 ≤ n ∧ n ≤ 255 := by simpa [Lit.wf, IntKind.min, IntKind.max, IntKind.signed, IntKind.bits] using wf
  refine ⟨UInt8.ofNat n.toNat, ?_, by simp [Value.oneCell'], trivial⟩
  have : ((UInt8.ofNat n.toNat).toNat : Int) = n := by
    rw [UInt8.toNat_ofNat_of_lt' (by simp [UInt8.size]; omega)]; omega
  rw [eByte, this]
  exact rep1 (.r _ _)
/-- Bytes that came in. -/
theorem open_bytes {H : Type} {E : TypeId × Value → H} {w : World} {base : Nat} {spare : Nat → Bool} {held : Bool} {b0 : Nat} {v : Value} {d : DataW H} {p : List MemPlace}
    (hv : Value.okWide Try.prog w .any b0 30 v) (h : DataW.Trod E Try.prog w base spare held 30 v d p) :
    ∃ l : List UInt8, Rep w (zAll w) [] (.ro true 1 (l.map eByte)) v ∧ l.length ≤ Rows.uptoBulk d ∧ (l = [] ∨ ∃ el sp, d = .slice el sp ∧ el.length = l.length) := by
  obtain ⟨f, hf⟩ := h
  obtain ⟨u, l, h1, h2, _, h3⟩ := open_ro eByte (fun _ _ => True) true Try.underlying30 (show Try.prog.cellsOf 5 = 1 by kernel_rfl) (by omega) leaf_u8 hf
  obtain ⟨a', n', c', rfl⟩ := okWide_slice Try.underlying30 hv
  obtain rfl : Value.slice a' n' c' = u := List.head_eq_of_cons_eq (show [Value.slice a' n' c'] = [u] from h1)
  exact ⟨l, h2, bulk_of h3, h3.imp (fun h => h.1) (fun ⟨ds, rest, h4, h5, _⟩ => ⟨ds, rest, h4, h5⟩)⟩
end Go.Proofs.Yteebiklebedneaa
/- How a tree that came in reads. -/
namespace Go.Proofs.Yteebiklebedneaa
open Go.ChangeShapes Go.WideShapes Go.ChangeAt Go.RowKit Go.AM
theorem bulk_mem {H : Type} : ∀ {l : List (DataW H)} {d : DataW H}, d ∈ l → Rows.uptoBulk d ≤ Rows.uptoBulkAll l
  | x :: r, d, h => by
    rcases List.mem_cons.1 h with rfl | h
    · simp only [Rows.uptoBulkAll]; omega
    · have := bulk_mem h; simp only [Rows.uptoBulkAll]; omega
/-- What holds of an element by its own bulk holds of all by the slice's. -/
theorem bulk_all {H α : Type} {l : List α} {f : α → Nat} {d : DataW H} (h : (l = [] ∧ d = .nil) ∨ ∃ ds rest, d = .slice ds rest ∧ ds.length = l.length ∧ ∀ (i : Nat) y, l[i]? = some y → ∃ d, ds[i]? = some d ∧ f y ≤ Rows.uptoBulk d) : ∀ y ∈ l, f y ≤ Rows.uptoBulk d := by
  intro c hc
  obtain ⟨i, hi⟩ := List.mem_iff_getElem?.1 hc
  rcases h with ⟨rfl, _⟩ | ⟨ds, rest, rfl, _, h6⟩
  · simp at hi
  · obtain ⟨d, h1, h2⟩ := h6 i c hi
    have := bulk_mem (List.mem_of_getElem? h1)
    simp only [Rows.uptoBulk]; omega
theorem cellsU8 : Try.prog.cellsOf 5 = 1 := by kernel_rfl
theorem cellsKy : Try.prog.cellsOf 30 = 1 := by kernel_rfl
theorem cellsIn : Try.prog.cellsOf 3 = 1 := by kernel_rfl
theorem leaf_int1 {H : Type} {E : TypeId × Value → H} {w : World} {base : Nat} {spare : Nat → Bool} {held : Bool} (fuel : Nat) (cs : List Value) (x : DataW H × List MemPlace)
    (h : DataW.trod E Try.prog w base spare held fuel 3 cs = some x) : ∃ y : Int, Reps w (zAll w) [] (eI y) cs ∧ (∀ v ∈ cs, v.oneCell' = true) ∧ True := by
  obtain ⟨n, rfl, _, _⟩ := DataW.trod_int Try.underlying3 h
  exact ⟨n, .cons (.r _ _) .nil, by simp [Value.oneCell'], trivial⟩
theorem leaf_ky {H : Type} {E : TypeId × Value → H} {w : World} {base : Nat} {spare : Nat → Bool} {held : Bool} (fuel : Nat) (cs : List Value) (x : DataW H × List MemPlace)
    (h : DataW.trod E Try.prog w base spare held fuel 30 cs = some x) : ∃ y : Ky, Reps w (zAll w) [] (eKy y) cs ∧ (∀ v ∈ cs, v.oneCell' = true) ∧ y.length ≤ Rows.uptoBulk x.1 := by
  obtain ⟨u, l, h1, h2, h4, h3⟩ := open_ro eByte (fun _ _ => True) true Try.underlying30 cellsU8 (by omega) leaf_u8 h
  subst h1
  exact ⟨l, .cons h2 .nil, by simpa using h4, bulk_of h3⟩
theorem list5 {α : Type} {l : List α} (h : l.length = 5) : ∃ a b c d e, l = [a, b, c, d, e] := by
  match l, h with
  | [a, b, c, d, e], _ => exact ⟨a, b, c, d, e, rfl⟩
def okP (p : PG) (n : Nat) : Prop := p.keys.length ≤ n ∧ p.kids.length ≤ n ∧ p.high.length ≤ n ∧ ∀ k ∈ p.keys, k.length ≤ n
theorem cellsPg : Try.prog.cellsOf 52 = 5 := by kernel_rfl
set_option maxRecDepth 100000 in
theorem leaf_pg {H : Type} {E : TypeId × Value → H} {w : World} {base : Nat} {spare : Nat → Bool} {held : Bool} (fuel : Nat) (cs : List Value) (x : DataW H × List MemPlace)
    (h : DataW.trod E Try.prog w base spare held fuel 52 cs = some x) : ∃ y : PG, Reps w (zAll w) [] (eP y) cs ∧ (∀ v ∈ cs, v.oneCell' = true) ∧ okP y (Rows.uptoBulk x.1) := by
  obtain ⟨xs, n, _, hx, hl, hxl, hff⟩ := DataW.trod_struct Try.underlying52 h
  rw [cellsPg] at hl
  obtain ⟨c0, c1, c2, c3, c4, rfl⟩ := list5 hl
  obtain ⟨x0, x1, x2, x3, x4, rfl⟩ := list5 (l := xs) hxl
  have cb : Try.prog.cellsOf 4 = 1 := by kernel_rfl
  have ck : Try.prog.cellsOf 49 = 1 := by kernel_rfl
  have ci : Try.prog.cellsOf 50 = 1 := by kernel_rfl
  have h0 : DataW.trod E Try.prog w base spare held n 4 (([c0, c1, c2, c3, c4].drop 0).take (Try.prog.cellsOf 4)) = some x0 := hff 0 _ rfl
  rw [cb] at h0
  have h1 : DataW.trod E Try.prog w base spare held n 49 (([c0, c1, c2, c3, c4].drop 1).take (Try.prog.cellsOf 49)) = some x1 := hff 1 _ rfl
  rw [ck] at h1
  have h2 : DataW.trod E Try.prog w base spare held n 50 (([c0, c1, c2, c3, c4].drop 2).take (Try.prog.cellsOf 50)) = some x2 := hff 2 _ rfl
  rw [ci] at h2
  have h3 : DataW.trod E Try.prog w base spare held n 30 (([c0, c1, c2, c3, c4].drop 3).take (Try.prog.cellsOf 30)) = some x3 := hff 3 _ rfl
  rw [cellsKy] at h3
  have h4 : DataW.trod E Try.prog w base spare held n 3 (([c0, c1, c2, c3, c4].drop 4).take (Try.prog.cellsOf 3)) = some x4 := hff 4 _ rfl
  rw [cellsIn] at h4
  obtain ⟨lf, e0, _⟩ := DataW.trod_bool Try.underlying4 h0
  obtain ⟨u1, lk, e1, r1, o1, g1⟩ := open_ro eKy (fun y d => y.length ≤ Rows.uptoBulk d) true Try.underlying49 cellsKy (by omega) leaf_ky h1
  obtain ⟨u2, li, e2, r2, o2, g2⟩ := open_ro eI (fun _ _ => True) true Try.underlying50 cellsIn (by omega) leaf_int1 h2
  obtain ⟨u3, lh, e3, r3, o3, g3⟩ := open_ro eByte (fun _ _ => True) true Try.underlying30 cellsU8 (by omega) leaf_u8 h3
  obtain ⟨nx, e4, _, _⟩ := DataW.trod_int Try.underlying3 h4
  simp at e0 e1 e2 e3 e4
  subst e0 e1 e2 e3 e4
  refine ⟨⟨lf, lk, li, lh, nx⟩, .cons (.r _ _) (.cons r1 (.cons r2 (.cons r3 (.cons (.r _ _) .nil)))), (by
    intro v hv
    simp only [List.mem_cons, List.not_mem_nil, or_false] at hv
    rcases hv with rfl | rfl | rfl | rfl | rfl <;> first | rfl | assumption), ?_⟩
  rw [hx]
  have b1 := bulk_of g1
  have b2 := bulk_of g2
  have b3 := bulk_of g3
  have b4 := bulk_all g1
  simp only [List.map_cons, List.map_nil, Rows.uptoBulk, Rows.uptoBulkAll]
  exact ⟨by simp only; omega, by simp only; omega, by simp only; omega, fun k hk => by have := b4 k hk; omega⟩
theorem cellsTr : Try.prog.cellsOf 24 = 2 := by kernel_rfl
set_option maxRecDepth 100000 in
/-- A tree that came in. -/
theorem open_tree {H : Type} {enc : TypeId × Value → H} {w : World} {base : Nat} {spare : Nat → Bool} {held : Bool} {b0 : Nat} {v : Value} {d : DataW H} {p : List MemPlace}
    (hv : Value.okWide Try.prog w .any b0 24 v) (h : DataW.Trod enc Try.prog w base spare held 24 v d p) :
    ∃ (ps : List PG) (root : Int), Rep w (zAll w) [] (.agg [.ro true 5 (ps.map eP), .r (.int .i64 root)]) v ∧ (Rows.uptoBulk d ≤ 1048576 → okPs2 ps) := by
  obtain ⟨c0, c1, y0, y1, m, rfl, rfl, _, h0, h1⟩ := Joins.open_agg2 Try.underlying24 (by kernel_rfl) cellsTr hv h
  obtain ⟨u0, l, e0, r0, o0, g0⟩ := open_ro eP (fun y d => okP y (Rows.uptoBulk d)) true Try.underlying22 cellsPg (by omega) leaf_pg h0
  obtain ⟨rt, e1, _, _⟩ := DataW.trod_int Try.underlying3 h1
  simp at e0 e1
  subst e0 e1
  have hr : Reps w (zAll w) [] [.ro true 5 (l.map eP), .r (.int .i64 rt)] [c0, .int .i64 rt] := .cons r0 (.cons (.r _ _) .nil)
  refine ⟨l, rt, .agg _ _ _ hr.1 hr.2, fun hb => ?_⟩
  simp only [Rows.uptoBulk, Rows.uptoBulkAll] at hb
  have b0 := bulk_of g0
  refine ⟨by omega, fun q hq => ?_⟩
  obtain ⟨i, hi⟩ := List.mem_iff_getElem?.1 hq
  rcases g0 with ⟨rfl, _⟩ | ⟨ds, rest, hd, _, h6⟩
  · simp at hi
  · obtain ⟨d, k1, k2, k3, k4, k5⟩ := h6 i q hi
    have k6 := bulk_mem (List.mem_of_getElem? k1)
    rw [hd] at hb
    simp only [Rows.uptoBulk] at hb
    exact ⟨by omega, by omega, by omega, fun k hk => by have := k5 k hk; omega⟩
end Go.Proofs.Yteebiklebedneaa
