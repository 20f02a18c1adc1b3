/- Texts of the law TreeInserts, part 7: lemmas; what is proved stands in the last text. -/
import Derived.Test.YteebiklebedneaaZz6
import Derived.Test.YteebiklebedneaaRows
import Derived.WalkKit
import Derived.ProofKit
import Derived.OpenShut
import Derived.ShutString
import Derived.ChangeOld
import Derived.Below
import Derived.Lib.SmallJoins
import Derived.Test.YteebiklebedneaaZz4
import Derived.Test.YteebiklebedneaaZz1
import Derived.JoinedCond
import Derived.SizedLaws
import Derived.Deep.Strs
set_option linter.unusedSimpArgs false
set_option linter.unusedVariables false
/- tree.split. -/
namespace Go.AM
open Go Go.RowKit
attribute [local irreducible] AWP retA
theorem set_same {α : Type} {l : List α} {i : Nat} {x : α} (h : l[i]? = some x) : l.set i x = l := by
  obtain ⟨hl, rfl⟩ := List.getElem?_eq_some_iff.1 h
  exact List.set_getElem_self hl
set_option maxRecDepth 100000 in
set_option maxHeartbeats 8000000 in
theorem split_con (G : List (Nat × List Value)) (qs : List PG) (root : Int) (i : Nat) (p : PG) (up : Ky) (hp : qs[i]? = some p) (h5 : p.keys.length = 5) (hk5 : p.kids.length = if p.leaf then 5 else 6) (hup : p.keys[2]? = some up) (hul : up.length ≤ 1048576) (hn : qs.length ≤ 1048576) :
    Con Go.Proofs.Try.prog G 50 [.p 0 0 0, .r (.int .i64 i)] [(0, .box 24 [.s 1 0 qs.length, .r (.int .i64 root)]), (1, .ul 52 5 (qs.map uP) [])] 2
      (Is (.tup [.ro true 1 (up.map eByte), .r (.int .i64 qs.length)]) [(0, .box 24 [.s 3 0 (qs.length + 1), .r (.int .i64 root)]), (3, .ul 52 5 ((splitM qs i p).map uP) [])] 4) No := by
  have hi : i < qs.length := (List.getElem?_eq_some_iff.1 hp).1
  have zi : ((i : Int) < (qs.length : Int)) = True := eq_true (by omega)
  have hpu : (qs.map uP)[i]? = some (uP p) := by rw [List.getElem?_map, hp]; rfl
  have hmid : midM p = up := by rw [midM, List.getD_eq_getElem?_getD, hup]; rfl
  obtain ⟨A1, hA1⟩ : ∃ x, p.keys.take 2 = x := ⟨_, rfl⟩
  obtain ⟨A2, hA2⟩ : ∃ x, p.kids.take (if p.leaf then 2 else 3) = x := ⟨_, rfl⟩
  obtain ⟨B1, hB1⟩ : ∃ x, p.keys.drop (if p.leaf then 2 else 3) = x := ⟨_, rfl⟩
  obtain ⟨B2, hB2⟩ : ∃ x, p.kids.drop (if p.leaf then 2 else 3) = x := ⟨_, rfl⟩
  have hA1l : A1.length = 2 := by rw [← hA1, List.length_take, h5]; rfl
  have hA2l : A2.length = if p.leaf then 2 else 3 := by rw [← hA2, List.length_take, hk5]; cases p.leaf <;> rfl
  have hB1l : B1.length = if p.leaf then 3 else 2 := by rw [← hB1, List.length_drop, h5]; cases p.leaf <;> rfl
  have hB2l : B2.length = 3 := by rw [← hB2, List.length_drop, hk5]; cases p.leaf <;> rfl
  have bc := cloneK_any G true up hul
  have k2 := cloneKs_own G false A1 (by omega)
  have c2 := cloneI_own G false A2 (by rw [hA2l]; split <;> omega)
  have k1 := cloneKs_own G false B1 (by rw [hB1l]; split <;> omega)
  have c1 := cloneI_own G false B2 (by omega)
  have hid : (qs.map uP).set i (uP p) = qs.map uP := by rw [← List.map_set, set_same hp]
  have e5 : (uP p).length = 5 := rfl
  have hs5 : ∀ e, ((qs.map uP).set i e)[i]? = some e := fun e => by rw [List.getElem?_set_self (by simpa using hi)]
  refine con_of_awp Go.Proofs.Try.func50 rfl (by kernel_rfl) (of_decide_eq_true (by kernel_rfl)) ?_; intro E hG hE; subst hG; simp only [ent]
  (refine AWP.emb (emb_open (T := ?z1T) (k := ?z1k) (els := ?z1e) (T' := ?z1T1) (k' := ?z1k1) (els' := ?z1e1) (op := ?z1op) (e := ?z1ee) 1 i 1 ?z1h ?z1he ?z1hj ?z1ho) ?z1g; (case z1h => rfl); (case z1he => exact hpu); (case z1hj => rfl); (case z1ho => simp [lk2]); simp only [List.length_map])
  (refine AWP.emb (emb_open (T := ?z2T) (k := ?z2k) (els := ?z2e) (T' := ?z2T1) (k' := ?z2k1) (els' := ?z2e1) (op := ?z2op) (e := ?z2ee) 1 i 2 ?z2h ?z2he ?z2hj ?z2ho) ?z2g; (case z2h => rfl); (case z2he => exact hpu); (case z2hj => rfl); (case z2ho => simp [lk2]); simp only [List.length_map])
  have dz1 : dfzR true (p.keys.map eKy) = p.keys.map eKy := dfzR_map true eKy eKy (fun _ => rfl) _
  have dz2 : dfzR true (p.kids.map eI) = p.kids.map eI := dfzR_map true eI eI (fun _ => rfl) _
  (refine AWP.emb (emb_toL (T := ?z3T) (k := ?z3k) (els := ?z3e) 2 ?z3h) ?z3g; (case z3h => rfl); simp only [setNd, dz1])
  (refine AWP.emb (emb_toL (T := ?z4T) (k := ?z4k) (els := ?z4e) 3 ?z4h) ?z4g; (case z4h => rfl); simp only [setNd, dz2, Nat.reduceAdd])
  refine awp_seq ?_
  (refine rR (fun K kp hK hkp => ?_); simp (implicitDefEqProofs := false) (maxSteps := 2000000) (disch := omega) only [go_sem]; (repeat' (first | (refine hK _ ?_; clear hK hkp kp K) | (with_reducible refine And.intro ?_ ?_) | omega)))
  refine awp_seq ?_
  (refine rR (fun K kp hK hkp => ?_); simp (implicitDefEqProofs := false) (maxSteps := 2000000) (disch := omega) only [go_sem, zi, hp, uP]; (repeat' (first | (refine hK _ ?_; clear hK hkp kp K) | (with_reducible refine And.intro ?_ ?_) | omega)))
  refine awp_seq ?_
  (refine rR (fun K kp hK hkp => ?_); simp (implicitDefEqProofs := false) (maxSteps := 2000000) (disch := omega) only [go_sem]; (repeat' (first | (refine hK _ ?_; clear hK hkp kp K) | (with_reducible refine And.intro ?_ ?_) | omega)))
  refine awp_seq ?_
  (refine rR (fun K kp hK hkp => ?_); simp (implicitDefEqProofs := false) (maxSteps := 2000000) (disch := omega) only [go_sem, hup, h5, eKy]; (repeat' (first | (refine hK _ ?_; clear hK hkp kp K) | (with_reducible refine And.intro ?_ ?_) | omega)))
  refine awp_cut2 (fx := ⟨[(8, .ro true 1 (up.map eByte)), (7, .p 3 0 0), (6, .p 2 0 0), (1, .r (.int .i64 i)), (0, .p 0 0 0)], [(0, .box 24 [.s 1 0 qs.length, .r (.int .i64 root)]), (1, .ul 52 5 (qs.map uP) []), (2, .box 52 [.r (.bool p.leaf), .s 4 0 A1.length, .s 5 0 A2.length, .ro true 1 (p.high.map eByte), .r (.int .i64 p.next)]), (3, .box 52 [.r (.bool p.leaf), .s 6 0 B1.length, .s 7 0 B2.length, .ro true 1 (p.high.map eByte), .r (.int .i64 p.next)]),
    (4, .lst 30 1 (A1.map eKy)), (5, .lst 3 1 (A2.map eI)), (6, .lst 30 1 (B1.map eKy)), (7, .lst 3 1 (B2.map eI))], 8⟩) ?_ fun K hcut => ?_
  rotate_left
  · have t1 : ((p.keys.map eKy).take 5) = p.keys.map eKy := List.take_of_length_le (by simp [h5])
    have d4 : (p.keys.map eKy).take 2 = A1.map eKy := by rw [← List.map_take, hA1]
    cases hlf : p.leaf
    · simp only [hlf, Bool.false_eq_true, ↓reduceIte] at hk5 hA2 hB1 hB2 hA2l hB1l hcut ⊢
      have t2 : ((p.kids.map eI).take 6) = p.kids.map eI := List.take_of_length_le (by simp [hk5])
      have d1 : ((p.keys.map eKy).drop 3).take 2 = B1.map eKy := by rw [← List.map_drop, hB1, List.take_of_length_le (by simp [hB1l])]
      have d2 : ((p.kids.map eI).drop 3).take 3 = B2.map eI := by rw [← List.map_drop, hB2, List.take_of_length_le (by simp [hB2l])]
      have d3 : (p.kids.map eI).take 3 = A2.map eI := by rw [← List.map_take, hA2]
      rw [hB1l] at k1
      rw [hB2l] at c1
      rw [hA1l] at k2
      rw [hA2l] at c2
      rw [hk5]
      refine AWP.emb (st' := ⟨[(8, .ro true 1 (up.map eByte)), (7, .p 5 0 0), (6, .p 4 0 0), (1, .r (.int .i64 i)), (0, .p 0 0 0)], [(0, .box 24 [.s 1 0 qs.length, .r (.int .i64 root)]), (1, .ul 52 5 (qs.map uP) [(i, 2, .s 3 0 6), (i, 1, .s 2 0 5)]), (2, .lst 30 1 (p.keys.map eKy)), (3, .lst 3 1 (p.kids.map eI)), (4, .box 52 [.r (.bool false), .s 2 0 5, .s 3 0 6, .ro true 1 (p.high.map eByte), .r (.int .i64 p.next)]), (5, .box 52 [.r (.bool false), .r (.slice none 0 0), .r (.slice none 0 0), .ro true 1 (p.high.map eByte), .r (.int .i64 p.next)])], 6⟩) ?_ ?_
      · (refine emb [0, 1, 2, 3, 4, 5] ?_ ?_ rfl ?_ ?_ ?_ ?_ <;> simp [okM, okO, lk, ren, renL, renNd, by_, hE, renOp] <;> (try omega) <;> (try (intro i hi; first | (rcases i with _ | _ | i; rfl; rfl; (exfalso; omega)) | (rcases i with _ | _ | _ | i; rfl; rfl; rfl; (exfalso; omega)) | (rcases i with _ | _ | _ | _ | i; rfl; rfl; rfl; rfl; (exfalso; omega)) | (rcases i with _ | _ | _ | _ | _ | i; rfl; rfl; rfl; rfl; rfl; (exfalso; omega)) | (rcases i with _ | _ | _ | _ | _ | _ | i; rfl; rfl; rfl; rfl; rfl; rfl; (exfalso; omega)))))
      refine awp_seq ?_
      (repeat' (first | refine awp_seq ?_ | refine awp_block ?_ | refine awp_skip ?_ | refine awp_exit ?_ | ((first | refine rR (fun K kp hK hkp => ?_) | refine rD (id := 5) mixed 9 [0,1,2,4,5,6,3,8,7] (fun K kp hK hkp => ?_) | refine rD (id := 7) mixed 9 [0,1,2,4,5,6,3,8,7] (fun K kp hK hkp => ?_) | refine rX (id := 10) mixed [] 11 [0,2,3,4,5,6,1,7,8,9,10] (fun K kp hK hkp => ?_) | refine rD (id := 11) mixed 7 [0,1,2,3,4,5,6] (fun K kp hK hkp => ?_) | refine rX (id := 12) mixed [] 11 [0,1,2,3,4,5,6,7,8,9,10] (fun K kp hK hkp => ?_) | refine rD (id := 13) mixed 10 [0,2,3,4,5,6,7,1,8,9] (fun K kp hK hkp => ?_) | refine cR k1 ?_ | refine cD k1 ?_ | refine cX k1 ?_ | refine cR c1 ?_ | refine cD c1 ?_ | refine cX c1 ?_ | refine cR k2 ?_ | refine cD k2 ?_ | refine cX k2 ?_ | refine cR c2 ?_ | refine cD c2 ?_ | refine cX c2 ?_ | refine iG ?_ | refine iD ?_ | refine iX ?_); simp (implicitDefEqProofs := false) (maxSteps := 2000000) (disch := omega) only [go_sem, d1, d2, d3, d4, ne_eq, reduceCtorEq, not_false_eq_true]; (repeat' (first | (refine hK _ ?_; clear hK hkp kp K) | (with_reducible refine And.intro ?_ ?_) | omega))) | ((first | refine aG (fun h => ?_) (fun h => ?_) | refine aD (fun h => ?_) (fun h => ?_) | refine aX (fun h => ?_) (fun h => ?_)) <;> simp only [h]) | refine awp_cond_t rfl ?_ | refine awp_cond_f rfl ?_ | ((refine awp_cond rfl (fun h => ?_) (fun h => ?_) <;> try simp only [ifs] at h) <;> (try (exfalso; omega))) | refine awp_ret ?_))
      refine hcut _ ?_
      refine Emb.trans (emb_toU 2 rfl) ?_
      refine Emb.trans (emb_toU 3 rfl) ?_
      simp only [setNd]
      (refine Emb.trans (emb_close (T := ?z5T) (k := ?z5k) (els := ?z5e) (T' := ?z5T1) (k' := ?z5k1) (els' := ?z5e1) (op := ?z5op) (e := ?z5ee) (m := ?z5m) (lo := ?z5lo) (len := ?z5len) 1 i 1 ?z5h ?z5ho ?z5hm ?z5hn ?z5hl ?z5he ?z5hj) ?z5g; (case z5h => rfl); (case z5he => exact hpu); (case z5ho => (simp only [lk2, and_self, if_true, ↓reduceIte, List.length_map, h5, e5, t1, true_and, Nat.reduceLeDiff, Nat.reduceAdd, Nat.lt_irrefl, and_false]; rfl)); (case z5hm => rfl); (case z5hn => simp); (case z5hl => simp [List.length_map, h5, e5, t1, true_and, Nat.reduceLeDiff, Nat.reduceAdd, Nat.lt_irrefl, and_false]); (case z5hj => simp [List.length_map, h5, e5, t1, true_and, Nat.reduceLeDiff, Nat.reduceAdd, Nat.lt_irrefl, and_false]); simp only [rm, rm2, and_self, Nat.le_refl, Nat.zero_add, Nat.lt_add_one, Nat.reduceLT, Nat.reduceEqDiff, ↓reduceIte, if_true, List.drop_zero, List.set_cons_zero, List.set_cons_succ, List.length_map, h5, e5, t1, true_and, Nat.reduceLeDiff, Nat.reduceAdd, Nat.lt_irrefl, and_false])
      (refine Emb.trans (emb_close (T := ?z6T) (k := ?z6k) (els := ?z6e) (T' := ?z6T1) (k' := ?z6k1) (els' := ?z6e1) (op := ?z6op) (e := ?z6ee) (m := ?z6m) (lo := ?z6lo) (len := ?z6len) 1 i 2 ?z6h ?z6ho ?z6hm ?z6hn ?z6hl ?z6he ?z6hj) ?z6g; (case z6h => rfl); (case z6he => exact hs5 _); (case z6ho => (simp only [lk2, and_self, if_true, ↓reduceIte, List.length_map, hk5, e5, t2, List.length_set, List.set_set, true_and, Nat.reduceLeDiff, Nat.reduceAdd, Nat.lt_irrefl, and_false]; rfl)); (case z6hm => rfl); (case z6hn => simp); (case z6hl => simp [List.length_map, hk5, e5, t2, List.length_set, List.set_set, true_and, Nat.reduceLeDiff, Nat.reduceAdd, Nat.lt_irrefl, and_false]); (case z6hj => simp [List.length_map, hk5, e5, t2, List.length_set, List.set_set, true_and, Nat.reduceLeDiff, Nat.reduceAdd, Nat.lt_irrefl, and_false]); simp only [rm, rm2, and_self, Nat.le_refl, Nat.zero_add, Nat.lt_add_one, Nat.reduceLT, Nat.reduceEqDiff, ↓reduceIte, if_true, List.drop_zero, List.set_cons_zero, List.set_cons_succ, List.length_map, hk5, e5, t2, List.length_set, List.set_set, true_and, Nat.reduceLeDiff, Nat.reduceAdd, Nat.lt_irrefl, and_false])
      change Emb _ _ ⟨_, (1, .ul _ _ (List.set _ _ (uP p)) _) :: _, _⟩ _
      rw [hid]
      (refine emb [0, 1, 4, 5, 9, 8, 6, 7] ?_ ?_ rfl ?_ ?_ ?_ ?_ <;> simp [okM, okO, lk, ren, renL, renNd, by_, hE, renOp, hA1l, hA2l, hB1l, hB2l] <;> (try omega) <;> (try (intro i hi; first | (rcases i with _ | _ | i; rfl; rfl; (exfalso; omega)) | (rcases i with _ | _ | _ | i; rfl; rfl; rfl; (exfalso; omega)) | (rcases i with _ | _ | _ | _ | i; rfl; rfl; rfl; rfl; (exfalso; omega)) | (rcases i with _ | _ | _ | _ | _ | i; rfl; rfl; rfl; rfl; rfl; (exfalso; omega)) | (rcases i with _ | _ | _ | _ | _ | _ | i; rfl; rfl; rfl; rfl; rfl; rfl; (exfalso; omega)))))
    · simp only [hlf, ↓reduceIte] at hk5 hA2 hB1 hB2 hA2l hB1l hcut ⊢
      have t2 : ((p.kids.map eI).take 5) = p.kids.map eI := List.take_of_length_le (by simp [hk5])
      have d1 : ((p.keys.map eKy).drop 2).take 3 = B1.map eKy := by rw [← List.map_drop, hB1, List.take_of_length_le (by simp [hB1l])]
      have d2 : ((p.kids.map eI).drop 2).take 3 = B2.map eI := by rw [← List.map_drop, hB2, List.take_of_length_le (by simp [hB2l])]
      have d3 : (p.kids.map eI).take 2 = A2.map eI := by rw [← List.map_take, hA2]
      rw [hB1l] at k1
      rw [hB2l] at c1
      rw [hA1l] at k2
      rw [hA2l] at c2
      rw [hk5]
      refine AWP.emb (st' := ⟨[(8, .ro true 1 (up.map eByte)), (7, .p 5 0 0), (6, .p 4 0 0), (1, .r (.int .i64 i)), (0, .p 0 0 0)], [(0, .box 24 [.s 1 0 qs.length, .r (.int .i64 root)]), (1, .ul 52 5 (qs.map uP) [(i, 2, .s 3 0 5), (i, 1, .s 2 0 5)]), (2, .lst 30 1 (p.keys.map eKy)), (3, .lst 3 1 (p.kids.map eI)), (4, .box 52 [.r (.bool true), .s 2 0 5, .s 3 0 5, .ro true 1 (p.high.map eByte), .r (.int .i64 p.next)]), (5, .box 52 [.r (.bool true), .r (.slice none 0 0), .r (.slice none 0 0), .ro true 1 (p.high.map eByte), .r (.int .i64 p.next)])], 6⟩) ?_ ?_
      · (refine emb [0, 1, 2, 3, 4, 5] ?_ ?_ rfl ?_ ?_ ?_ ?_ <;> simp [okM, okO, lk, ren, renL, renNd, by_, hE, renOp] <;> (try omega) <;> (try (intro i hi; first | (rcases i with _ | _ | i; rfl; rfl; (exfalso; omega)) | (rcases i with _ | _ | _ | i; rfl; rfl; rfl; (exfalso; omega)) | (rcases i with _ | _ | _ | _ | i; rfl; rfl; rfl; rfl; (exfalso; omega)) | (rcases i with _ | _ | _ | _ | _ | i; rfl; rfl; rfl; rfl; rfl; (exfalso; omega)) | (rcases i with _ | _ | _ | _ | _ | _ | i; rfl; rfl; rfl; rfl; rfl; rfl; (exfalso; omega)))))
      refine awp_seq ?_
      (repeat' (first | refine awp_seq ?_ | refine awp_block ?_ | refine awp_skip ?_ | refine awp_exit ?_ | ((first | refine rR (fun K kp hK hkp => ?_) | refine rD (id := 5) mixed 9 [0,1,2,4,5,6,3,8,7] (fun K kp hK hkp => ?_) | refine rD (id := 7) mixed 9 [0,1,2,4,5,6,3,8,7] (fun K kp hK hkp => ?_) | refine rX (id := 10) mixed [] 11 [0,2,3,4,5,6,1,7,8,9,10] (fun K kp hK hkp => ?_) | refine rD (id := 11) mixed 7 [0,1,2,3,4,5,6] (fun K kp hK hkp => ?_) | refine rX (id := 12) mixed [] 11 [0,1,2,3,4,5,6,7,8,9,10] (fun K kp hK hkp => ?_) | refine rD (id := 13) mixed 10 [0,2,3,4,5,6,7,1,8,9] (fun K kp hK hkp => ?_) | refine cR k1 ?_ | refine cD k1 ?_ | refine cX k1 ?_ | refine cR c1 ?_ | refine cD c1 ?_ | refine cX c1 ?_ | refine cR k2 ?_ | refine cD k2 ?_ | refine cX k2 ?_ | refine cR c2 ?_ | refine cD c2 ?_ | refine cX c2 ?_ | refine iG ?_ | refine iD ?_ | refine iX ?_); simp (implicitDefEqProofs := false) (maxSteps := 2000000) (disch := omega) only [go_sem, d1, d2, d3, d4, ne_eq, reduceCtorEq, not_false_eq_true]; (repeat' (first | (refine hK _ ?_; clear hK hkp kp K) | (with_reducible refine And.intro ?_ ?_) | omega))) | ((first | refine aG (fun h => ?_) (fun h => ?_) | refine aD (fun h => ?_) (fun h => ?_) | refine aX (fun h => ?_) (fun h => ?_)) <;> simp only [h]) | refine awp_cond_t rfl ?_ | refine awp_cond_f rfl ?_ | ((refine awp_cond rfl (fun h => ?_) (fun h => ?_) <;> try simp only [ifs] at h) <;> (try (exfalso; omega))) | refine awp_ret ?_))
      refine hcut _ ?_
      refine Emb.trans (emb_toU 2 rfl) ?_
      refine Emb.trans (emb_toU 3 rfl) ?_
      simp only [setNd]
      (refine Emb.trans (emb_close (T := ?z7T) (k := ?z7k) (els := ?z7e) (T' := ?z7T1) (k' := ?z7k1) (els' := ?z7e1) (op := ?z7op) (e := ?z7ee) (m := ?z7m) (lo := ?z7lo) (len := ?z7len) 1 i 1 ?z7h ?z7ho ?z7hm ?z7hn ?z7hl ?z7he ?z7hj) ?z7g; (case z7h => rfl); (case z7he => exact hpu); (case z7ho => (simp only [lk2, and_self, if_true, ↓reduceIte, List.length_map, h5, e5, t1, true_and, Nat.reduceLeDiff, Nat.reduceAdd, Nat.lt_irrefl, and_false]; rfl)); (case z7hm => rfl); (case z7hn => simp); (case z7hl => simp [List.length_map, h5, e5, t1, true_and, Nat.reduceLeDiff, Nat.reduceAdd, Nat.lt_irrefl, and_false]); (case z7hj => simp [List.length_map, h5, e5, t1, true_and, Nat.reduceLeDiff, Nat.reduceAdd, Nat.lt_irrefl, and_false]); simp only [rm, rm2, and_self, Nat.le_refl, Nat.zero_add, Nat.lt_add_one, Nat.reduceLT, Nat.reduceEqDiff, ↓reduceIte, if_true, List.drop_zero, List.set_cons_zero, List.set_cons_succ, List.length_map, h5, e5, t1, true_and, Nat.reduceLeDiff, Nat.reduceAdd, Nat.lt_irrefl, and_false])
      (refine Emb.trans (emb_close (T := ?z8T) (k := ?z8k) (els := ?z8e) (T' := ?z8T1) (k' := ?z8k1) (els' := ?z8e1) (op := ?z8op) (e := ?z8ee) (m := ?z8m) (lo := ?z8lo) (len := ?z8len) 1 i 2 ?z8h ?z8ho ?z8hm ?z8hn ?z8hl ?z8he ?z8hj) ?z8g; (case z8h => rfl); (case z8he => exact hs5 _); (case z8ho => (simp only [lk2, and_self, if_true, ↓reduceIte, List.length_map, hk5, e5, t2, List.length_set, List.set_set, true_and, Nat.reduceLeDiff, Nat.reduceAdd, Nat.lt_irrefl, and_false]; rfl)); (case z8hm => rfl); (case z8hn => simp); (case z8hl => simp [List.length_map, hk5, e5, t2, List.length_set, List.set_set, true_and, Nat.reduceLeDiff, Nat.reduceAdd, Nat.lt_irrefl, and_false]); (case z8hj => simp [List.length_map, hk5, e5, t2, List.length_set, List.set_set, true_and, Nat.reduceLeDiff, Nat.reduceAdd, Nat.lt_irrefl, and_false]); simp only [rm, rm2, and_self, Nat.le_refl, Nat.zero_add, Nat.lt_add_one, Nat.reduceLT, Nat.reduceEqDiff, ↓reduceIte, if_true, List.drop_zero, List.set_cons_zero, List.set_cons_succ, List.length_map, hk5, e5, t2, List.length_set, List.set_set, true_and, Nat.reduceLeDiff, Nat.reduceAdd, Nat.lt_irrefl, and_false])
      change Emb _ _ ⟨_, (1, .ul _ _ (List.set _ _ (uP p)) _) :: _, _⟩ _
      rw [hid]
      (refine emb [0, 1, 4, 5, 9, 8, 6, 7] ?_ ?_ rfl ?_ ?_ ?_ ?_ <;> simp [okM, okO, lk, ren, renL, renNd, by_, hE, renOp, hA1l, hA2l, hB1l, hB2l] <;> (try omega) <;> (try (intro i hi; first | (rcases i with _ | _ | i; rfl; rfl; (exfalso; omega)) | (rcases i with _ | _ | _ | i; rfl; rfl; rfl; (exfalso; omega)) | (rcases i with _ | _ | _ | _ | i; rfl; rfl; rfl; rfl; (exfalso; omega)) | (rcases i with _ | _ | _ | _ | _ | i; rfl; rfl; rfl; rfl; rfl; (exfalso; omega)) | (rcases i with _ | _ | _ | _ | _ | _ | i; rfl; rfl; rfl; rfl; rfl; rfl; (exfalso; omega)))))
  · clear k1 c1 k2 c2 hid e5 dz1 dz2 h5 hk5 hup
    refine awp_seq ?_
    refine rX (id := 10) mixed [2] 11 [0,2,3,4,5,6,1,7,8,9,10] (fun K kp hK hkp => ?_)
    simp (implicitDefEqProofs := false) (maxSteps := 2000000) (disch := omega) only [go_sem, ne_eq, reduceCtorEq, not_false_eq_true]
    (((first | apply callR_i (bc) | apply callD_i (bc) | apply callX_i (bc)); (case hb => (simp (implicitDefEqProofs := false) (maxSteps := 2000000) (disch := omega) only [go_sem, ne_eq, reduceCtorEq, not_false_eq_true]; first | done | rfl)); (case hp => (first | (simp [-List.map_drop, -List.map_take, ne_eq, reduceCtorEq, not_false_eq_true]; done) | exact .ro _ _ (pt_map _ _))); (case hq => (first | (simp [-List.map_drop, -List.map_take]; done) | (intro _ h; simp only [List.mem_singleton] at h; subst h; exact pt_map _ _)))); simp (implicitDefEqProofs := false) (maxSteps := 2000000) (disch := omega) only [go_sem, ne_eq, reduceCtorEq, not_false_eq_true]; (repeat' (first | (refine hK _ ?_; clear hK hkp kp K) | (with_reducible refine And.intro ?_ ?_) | omega)))
    refine AWP.emb (st' := ⟨[(8, .ro true 1 (up.map eByte)), (7, .p 3 0 0), (6, .p 2 0 0), (1, .r (.int .i64 i)), (0, .p 0 0 0)], [(0, .box 24 [.s 1 0 qs.length, .r (.int .i64 root)]), (1, .ul 52 5 (qs.map uP) []), (2, .box 52 [.r (.bool p.leaf), .s 4 0 A1.length, .s 5 0 A2.length, .ro true 1 (up.map eByte), .r (.int .i64 qs.length)]), (3, .box 52 [.r (.bool p.leaf), .s 6 0 B1.length, .s 7 0 B2.length, .ro true 1 (p.high.map eByte), .r (.int .i64 p.next)]),
      (4, .ul 30 1 (A1.map eKy) []), (5, .ul 3 1 (A2.map eI) []), (6, .ul 30 1 (B1.map eKy) []), (7, .ul 3 1 (B2.map eI) [])], 8⟩) ?_ ?_
    · refine Emb.trans (emb_toU 4 rfl) ?_
      refine Emb.trans (emb_toU 5 rfl) ?_
      refine Emb.trans (emb_toU 6 rfl) ?_
      refine Emb.trans (emb_toU 7 rfl) ?_
      simp only [setNd]
      (refine emb [0, 1, 2, 3, 4, 5, 6, 7] ?_ ?_ rfl ?_ ?_ ?_ ?_ <;> simp [okM, okO, lk, ren, renL, renNd, by_, hE, renOp] <;> (try omega) <;> (try (intro i hi; first | (rcases i with _ | _ | i; rfl; rfl; (exfalso; omega)) | (rcases i with _ | _ | _ | i; rfl; rfl; rfl; (exfalso; omega)) | (rcases i with _ | _ | _ | _ | i; rfl; rfl; rfl; rfl; (exfalso; omega)) | (rcases i with _ | _ | _ | _ | _ | i; rfl; rfl; rfl; rfl; rfl; (exfalso; omega)) | (rcases i with _ | _ | _ | _ | _ | _ | i; rfl; rfl; rfl; rfl; rfl; rfl; (exfalso; omega)))))
    have t1 : (A1.map eKy).take A1.length = A1.map eKy := List.take_of_length_le (by simp)
    have t2 : (A2.map eI).take A2.length = A2.map eI := List.take_of_length_le (by simp)
    have t3 : (B1.map eKy).take B1.length = B1.map eKy := List.take_of_length_le (by simp)
    have t4 : (B2.map eI).take B2.length = B2.map eI := List.take_of_length_le (by simp)
    refine awp_seq ?_
    (refine rD (id := 11) mixed 7 [0,1,2,3,4,5,6] (fun K kp hK hkp => ?_); simp (implicitDefEqProofs := false) (maxSteps := 2000000) (disch := omega) only [go_sem, zi, hp, uP, ne_eq, reduceCtorEq, not_false_eq_true, Option.some.injEq, Nat.reduceEqDiff]; (repeat' (first | (refine hK _ ?_; clear hK hkp kp K) | (with_reducible refine And.intro ?_ ?_) | omega)))
    (refine AWP.emb (emb_close (T := ?z9T) (k := ?z9k) (els := ?z9e) (T' := ?z9T1) (k' := ?z9k1) (els' := ?z9e1) (op := ?z9op) (e := ?z9ee) (m := ?z9m) (lo := ?z9lo) (len := ?z9len) 1 i 1 ?z9h ?z9ho ?z9hm ?z9hn ?z9hl ?z9he ?z9hj) ?z9g; (case z9h => rfl); (case z9he => exact hs5 _); (case z9ho => (simp only [lk2, and_self, if_true, ↓reduceIte, List.length_map, t1, List.set_set, List.length_cons, List.length_nil, true_and, Nat.reduceLeDiff, Nat.reduceAdd, Nat.lt_irrefl, and_false]; rfl)); (case z9hm => rfl); (case z9hn => simp); (case z9hl => simp [List.length_map, t1, List.set_set, List.length_cons, List.length_nil, true_and, Nat.reduceLeDiff, Nat.reduceAdd, Nat.lt_irrefl, and_false]); (case z9hj => simp [List.length_map, t1, List.set_set, List.length_cons, List.length_nil, true_and, Nat.reduceLeDiff, Nat.reduceAdd, Nat.lt_irrefl, and_false]); simp only [rm, rm2, and_self, Nat.le_refl, Nat.zero_add, Nat.lt_add_one, Nat.reduceLT, Nat.reduceEqDiff, ↓reduceIte, if_true, List.drop_zero, List.set_cons_zero, List.set_cons_succ, List.length_map, t1, List.set_set, List.length_cons, List.length_nil, true_and, Nat.reduceLeDiff, Nat.reduceAdd, Nat.lt_irrefl, and_false])
    (refine AWP.emb (emb_close (T := ?z10T) (k := ?z10k) (els := ?z10e) (T' := ?z10T1) (k' := ?z10k1) (els' := ?z10e1) (op := ?z10op) (e := ?z10ee) (m := ?z10m) (lo := ?z10lo) (len := ?z10len) 1 i 2 ?z10h ?z10ho ?z10hm ?z10hn ?z10hl ?z10he ?z10hj) ?z10g; (case z10h => rfl); (case z10he => exact hs5 _); (case z10ho => (simp only [lk2, and_self, if_true, ↓reduceIte, List.length_map, t2, List.set_set, List.length_cons, List.length_nil, true_and, Nat.reduceLeDiff, Nat.reduceAdd, Nat.lt_irrefl, and_false]; rfl)); (case z10hm => rfl); (case z10hn => simp); (case z10hl => simp [List.length_map, t2, List.set_set, List.length_cons, List.length_nil, true_and, Nat.reduceLeDiff, Nat.reduceAdd, Nat.lt_irrefl, and_false]); (case z10hj => simp [List.length_map, t2, List.set_set, List.length_cons, List.length_nil, true_and, Nat.reduceLeDiff, Nat.reduceAdd, Nat.lt_irrefl, and_false]); simp only [rm, rm2, and_self, Nat.le_refl, Nat.zero_add, Nat.lt_add_one, Nat.reduceLT, Nat.reduceEqDiff, ↓reduceIte, if_true, List.drop_zero, List.set_cons_zero, List.set_cons_succ, List.length_map, t2, List.set_set, List.length_cons, List.length_nil, true_and, Nat.reduceLeDiff, Nat.reduceAdd, Nat.lt_irrefl, and_false])
    have hleft : (qs.map uP).set i (uP (leftM p (midM p) qs.length)) = (qs.set i (leftM p (midM p) qs.length)).map uP := by rw [List.map_set]
    have eL : uP (leftM p (midM p) qs.length) = [.r (.bool p.leaf), .u 30 1 (A1.map eKy), .u 3 1 (A2.map eI), .ro true 1 (up.map eByte), .r (.int .i64 qs.length)] := by simp only [uP, leftM, hmid, hA1, hA2]
    have eR : uP (rightM p) = [.r (.bool p.leaf), .u 30 1 (B1.map eKy), .u 3 1 (B2.map eI), .ro true 1 (p.high.map eByte), .r (.int .i64 p.next)] := by simp only [uP, rightM, hB1, hB2]
    rw [← eL, hleft]
    have hll : ((qs.set i (leftM p (midM p) qs.length)).map uP).length = qs.length := by simp
    have hl0 : (qs.set i (leftM p (midM p) qs.length)).length = qs.length := by simp
    have hS : splitM qs i p = qs.set i (leftM p (midM p) qs.length) ++ [rightM p] := rfl
    rw [hS]
    clear eL hleft t1 t2 hs5
    generalize qs.set i (leftM p (midM p) qs.length) = us at *
    refine awp_seq ?_
    (refine rF (id := 12) mixed 7 [0] [1,2,3,4,5,6] (fun K kp hK hkp => ?_); simp (implicitDefEqProofs := false) (maxSteps := 2000000) (disch := omega) only [go_sem, hl0, ne_eq, reduceCtorEq, not_false_eq_true, Option.some.injEq, Nat.reduceEqDiff]; (repeat' (first | (refine hK _ ?_; clear hK hkp kp K) | (with_reducible refine And.intro ?_ ?_) | omega)))
    (refine AWP.emb (emb_close (T := ?z11T) (k := ?z11k) (els := ?z11e) (T' := ?z11T1) (k' := ?z11k1) (els' := ?z11e1) (op := ?z11op) (e := ?z11ee) (m := ?z11m) (lo := ?z11lo) (len := ?z11len) 9 qs.length 1 ?z11h ?z11ho ?z11hm ?z11hn ?z11hl ?z11he ?z11hj) ?z11g; (case z11h => rfl); (case z11he => exact at_end _ hll); (case z11ho => (simp only [lk2, and_self, if_true, ↓reduceIte, List.length_map, t3, set_end _ _ hll, List.length_cons, List.length_nil, true_and, Nat.reduceLeDiff, Nat.reduceAdd, Nat.lt_irrefl, and_false]; rfl)); (case z11hm => rfl); (case z11hn => simp); (case z11hl => simp [List.length_map, t3, set_end _ _ hll, List.length_cons, List.length_nil, true_and, Nat.reduceLeDiff, Nat.reduceAdd, Nat.lt_irrefl, and_false]); (case z11hj => simp [List.length_map, t3, set_end _ _ hll, List.length_cons, List.length_nil, true_and, Nat.reduceLeDiff, Nat.reduceAdd, Nat.lt_irrefl, and_false]); simp only [rm, rm2, and_self, Nat.le_refl, Nat.zero_add, Nat.lt_add_one, Nat.reduceLT, Nat.reduceEqDiff, ↓reduceIte, if_true, List.drop_zero, List.set_cons_zero, List.set_cons_succ, List.length_map, t3, set_end _ _ hll, List.length_cons, List.length_nil, true_and, Nat.reduceLeDiff, Nat.reduceAdd, Nat.lt_irrefl, and_false])
    (refine AWP.emb (emb_close (T := ?z12T) (k := ?z12k) (els := ?z12e) (T' := ?z12T1) (k' := ?z12k1) (els' := ?z12e1) (op := ?z12op) (e := ?z12ee) (m := ?z12m) (lo := ?z12lo) (len := ?z12len) 9 qs.length 2 ?z12h ?z12ho ?z12hm ?z12hn ?z12hl ?z12he ?z12hj) ?z12g; (case z12h => rfl); (case z12he => exact at_end _ hll); (case z12ho => (simp only [lk2, and_self, if_true, ↓reduceIte, List.length_map, t4, set_end _ _ hll, List.length_cons, List.length_nil, true_and, Nat.reduceLeDiff, Nat.reduceAdd, Nat.lt_irrefl, and_false]; rfl)); (case z12hm => rfl); (case z12hn => simp); (case z12hl => simp [List.length_map, t4, set_end _ _ hll, List.length_cons, List.length_nil, true_and, Nat.reduceLeDiff, Nat.reduceAdd, Nat.lt_irrefl, and_false]); (case z12hj => simp [List.length_map, t4, set_end _ _ hll, List.length_cons, List.length_nil, true_and, Nat.reduceLeDiff, Nat.reduceAdd, Nat.lt_irrefl, and_false]); simp only [rm, rm2, and_self, Nat.le_refl, Nat.zero_add, Nat.lt_add_one, Nat.reduceLT, Nat.reduceEqDiff, ↓reduceIte, if_true, List.drop_zero, List.set_cons_zero, List.set_cons_succ, List.length_map, t4, set_end _ _ hll, List.length_cons, List.length_nil, true_and, Nat.reduceLeDiff, Nat.reduceAdd, Nat.lt_irrefl, and_false])
    rw [← eR]
    have hs3 : us.map uP ++ [uP (rightM p)] = (us ++ [rightM p]).map uP := by rw [List.map_append]; rfl
    rw [hs3]
    have e1 : ((qs.length + 1 : Nat) : Int) - 1 = (qs.length : Int) := by omega
    (repeat' (first | refine awp_seq ?_ | refine awp_block ?_ | refine awp_skip ?_ | refine awp_exit ?_ | ((first | refine rR (fun K kp hK hkp => ?_) | refine rD (id := 5) mixed 9 [0,1,2,4,5,6,3,8,7] (fun K kp hK hkp => ?_) | refine rD (id := 7) mixed 9 [0,1,2,4,5,6,3,8,7] (fun K kp hK hkp => ?_) | refine rX (id := 10) mixed [] 11 [0,2,3,4,5,6,1,7,8,9,10] (fun K kp hK hkp => ?_) | refine rD (id := 11) mixed 7 [0,1,2,3,4,5,6] (fun K kp hK hkp => ?_) | refine rX (id := 12) mixed [] 11 [0,1,2,3,4,5,6,7,8,9,10] (fun K kp hK hkp => ?_) | refine rD (id := 13) mixed 10 [0,2,3,4,5,6,7,1,8,9] (fun K kp hK hkp => ?_) | refine cR bc ?_ | refine cD bc ?_ | refine cX bc ?_ | refine iG ?_ | refine iD ?_ | refine iX ?_); simp (implicitDefEqProofs := false) (maxSteps := 2000000) (disch := omega) only [go_sem, e1]; (repeat' (first | (refine hK _ ?_; clear hK hkp kp K) | (with_reducible refine And.intro ?_ ?_) | omega))) | ((first | refine aG (fun h => ?_) (fun h => ?_) | refine aD (fun h => ?_) (fun h => ?_) | refine aX (fun h => ?_) (fun h => ?_)) <;> simp only [h]) | refine awp_cond_t rfl ?_ | refine awp_cond_f rfl ?_ | ((refine awp_cond rfl (fun h => ?_) (fun h => ?_) <;> try simp only [ifs] at h) <;> (try (exfalso; omega))) | refine awp_ret ?_))
    (refine retA_is (by (simp (implicitDefEqProofs := false) (maxSteps := 2000000) (disch := omega) only [go_sem, Go.Proofs.Try.results50, renOp]); rfl) ?_; refine (embV2 [0, 1, 1, 9] ?_ ?_ ?_ ?_ ?_ ?_).s <;> simp [injO, oneA, okO, lk, ren, renL, renNd, by_, hE, renOp] <;> (try (intro i hi; first | (rcases i with _ | _ | i; rfl; rfl; (exfalso; omega)) | (rcases i with _ | _ | _ | i; rfl; rfl; rfl; (exfalso; omega)) | (rcases i with _ | _ | _ | _ | i; rfl; rfl; rfl; rfl; (exfalso; omega)) | (rcases i with _ | _ | _ | _ | _ | i; rfl; rfl; rfl; rfl; rfl; (exfalso; omega)) | (rcases i with _ | _ | _ | _ | _ | _ | i; rfl; rfl; rfl; rfl; rfl; rfl; (exfalso; omega)))))
end Go.AM
/- tree.Insert. -/
namespace Go.AM
open Go Go.RowKit
attribute [local irreducible] AWP retA
/-- What Insert makes of a tree that may be. -/
noncomputable def insR (ps : List PG) (k : Ky) (row : Int) (r d : Nat) : List PG × Int × Int :=
  if thereM (pg ps (leafF ps k d r)) k = true then ([], 0, 9) else if 4000 < (rootM r (loopM ps (pathF ps k d r).reverse k row)).1.length then ([], 0, 10) else ((rootM r (loopM ps (pathF ps k d r).reverse k row)).1, (rootM r (loopM ps (pathF ps k d r).reverse k row)).2, 0)
/-- What holds at the m-th page of the way up. -/
structure UpOK (ps : List PG) (r d : Nat) (way : List Nat) (R : List PG × Int) (m : Nat) (qs : List PG) (up : Ky) (kid : Int) : Prop where
  hm : m ≤ d + 1
  res : rootM r (loopM qs (way.take m).reverse up kid) = R
  same : ∀ (j x : Nat), j < m → way[j]? = some x → qs[x]? = some (pg ps x)
  len : qs.length + m ≤ ps.length + d + 1
  upl : up.length ≤ 1048576
set_option maxRecDepth 100000 in
set_option maxHeartbeats 8000000 in
theorem insLoop (G : List (Nat × List Value)) (t : Bool) (ps : List PG) (r d : Nat) (k : Ky) (row : Int) (ho : okPs2 ps) (h : Trd ps r d) (hk : k.length ≤ 1048576) (h0 : askM ps r k = 0) (hrow : 0 ≤ row) (ht : thereM (pg ps (leafF ps k d r)) k = false) (R : List PG × Int) (hR : rootM r (loopM ps (pathF ps k d r).reverse k row) = R) :
    Con Go.Proofs.Try.prog G 24 [.agg [.ro true 5 (ps.map eP), .r (.int .i64 r)], .ro t 1 (k.map eByte), .r (.int .i64 row)] [] 0 (Is (if 4000 < R.1.length then .tup [.agg [.r (.slice none 0 0), .r (.int .i64 0)], .r (.int .i64 10)] else delA (R.1, R.2, 0)) [] 0) No := by
  have cc := checked_con G t ps r k ho
  rw [h0] at cc
  have fc := find_con G true t ps r d k h.ok h.kin h.good h.rl h.n h.dl
  rw [ht] at fc
  have oc := ownT_con G true ps r ho
  have pc := path_conf G false false t ps r d k h.ok h.kin h.good h.rl h.n h.dl
  have bc := cloneK_any G t k hk
  have zr : (row < 0) = False := eq_false (by omega)
  have hpl := path_len ps k d r
  generalize hway : pathF ps k d r = way at *
  have e1 : ((d + 1 : Nat) : Int) - 1 = (d : Int) := by omega
  have hd4 : d ≤ 4000 := by have := h.dl; have := h.n; omega
  refine con_of_awp Go.Proofs.Try.func24 rfl (by kernel_rfl) (of_decide_eq_true (by kernel_rfl)) ?_; intro E hG hE; subst hG; simp only [ent]
  (repeat' (first | refine awp_seq ?_ | refine awp_block ?_ | refine awp_skip ?_ | refine awp_exit ?_ | ((first | refine rR (fun K kp hK hkp => ?_) | refine rD (id := 17) mixed 8 [0,1,2,3,4,5,6,7] (fun K kp hK hkp => ?_) | refine cR cc ?_ | refine cD cc ?_ | refine cR fc ?_ | refine cD fc ?_ | refine cR oc ?_ | refine cD oc ?_ | refine cR pc ?_ | refine cD pc ?_ | refine cR bc ?_ | refine cD bc ?_ | refine iG ?_ | refine iD ?_); simp (implicitDefEqProofs := false) (maxSteps := 2000000) (disch := omega) only [go_sem, bne_self_eq_false, zr, hpl, e1]; (repeat' (first | (refine hK _ ?_; clear hK hkp kp K) | (with_reducible refine And.intro ?_ ?_) | omega))) | ((first | refine aG (fun h => ?_) (fun h => ?_) | refine aD (fun h => ?_) (fun h => ?_) | refine aX (fun h => ?_) (fun h => ?_)) <;> simp only [h]) | refine awp_cond_t rfl ?_ | refine awp_cond_f rfl ?_ | ((refine awp_cond rfl (fun h => ?_) (fun h => ?_) <;> try simp only [ifs] at h) <;> (try (exfalso; omega))) | refine awp_ret ?_))
  refine awp_blk (fx := ⟨[(12, .p 1 0 0), (7, .r (.int .i64 0)), (6, .p 0 0 0)], [(0, .box 24 [.r (.slice none 0 0), .r (.int .i64 0)]), (1, .box 24 [.s 2 0 R.1.length, .r (.int .i64 R.2)]), (2, .lst 52 5 (R.1.map eP))], 3⟩) ?_ fun K hcut => ?_
  rotate_left
  · clear cc fc oc pc bc
    refine awp_loop (fun (i : Nat × List PG × Ky × Int) => ⟨[(16, .r (.int .i64 ((i.1 : Int) - 1))), (15, .r (.int .i64 i.2.2.2)), (14, .ro true 1 (i.2.2.1.map eByte)), (13, .ro true 1 (way.map eNt)), (12, .p 1 0 0), (7, .r (.int .i64 0)), (6, .p 0 0 0)], [(0, .box 24 [.r (.slice none 0 0), .r (.int .i64 0)]), (1, .box 24 [.s 2 0 i.2.1.length, .r (.int .i64 r)]), (2, .ul 52 5 (i.2.1.map uP) [])], 3⟩)
      (fun i => UpOK ps r d way R i.1 i.2.1 i.2.2.1 i.2.2.2) (fun i => i.1) (d + 1, ps, k, row) ?_ ?_ ?_
    · refine ⟨Nat.le_refl _, by rw [List.take_of_length_le (by omega)]; exact hR, fun j x hj hx => ?_, by simp only; omega, hk⟩
      subst hway
      obtain ⟨_, _, _, b4⟩ := path_step h.ok k d r [] [] h.good (.inl rfl) j x hx
      refine pg_in ?_
      rcases b4 with e | ⟨y, hy⟩
      · rw [e]; exact h.rl
      · exact h.kin y _ hy
    · (refine emb [1, 3, 2] ?_ ?_ rfl ?_ ?_ ?_ ?_ <;> simp [okM, okO, lk, ren, renL, renNd, by_, hE, renOp] <;> (try omega) <;> (try (intro i hi; first | (rcases i with _ | _ | i; rfl; rfl; (exfalso; omega)) | (rcases i with _ | _ | _ | i; rfl; rfl; rfl; (exfalso; omega)) | (rcases i with _ | _ | _ | _ | i; rfl; rfl; rfl; rfl; (exfalso; omega)) | (rcases i with _ | _ | _ | _ | _ | i; rfl; rfl; rfl; rfl; rfl; (exfalso; omega)) | (rcases i with _ | _ | _ | _ | _ | _ | i; rfl; rfl; rfl; rfl; rfl; rfl; (exfalso; omega)))))
    rintro ⟨m, qs, up, kid⟩ ⟨hm, hres, hsame, hlen, hupl⟩
    simp only at hm hres hsame hlen hupl
    have hps := h.n
    have hdl := h.dl
    cases m with
    | zero =>
      have z0 : ((((0 : Nat) : Int) - 1) < 0) = True := eq_true (by omega)
      have e3 : ((qs.length + 1 : Nat) : Int) - 1 = (qs.length : Int) := by omega
      have hqs : qs.length ≤ 9000 := by omega
      rw [List.take_zero] at hres
      have hR1 : R.1 = qs ++ [⟨false, [up], [(r : Int), kid], [], -1⟩] := by rw [← hres]; rfl
      have hR2 : R.2 = (qs.length : Int) := by rw [← hres]; rfl
      rw [hR1, hR2] at hcut
      (refine AWP.emb (emb_toL (T := ?z1T) (k := ?z1k) (els := ?z1e) 2 ?z1h) ?z1g; (case z1h => rfl); simp only [setNd, dfzR_uP])
      rw [← eP_f]
      (repeat' (first | refine awp_seq ?_ | refine awp_block ?_ | refine awp_skip ?_ | refine awp_exit ?_ | ((first | refine rR (fun K kp hK hkp => ?_) | refine rD (id := 17) mixed 8 [0,1,2,3,4,5,6,7] (fun K kp hK hkp => ?_) | refine iG ?_ | refine iD ?_); simp (implicitDefEqProofs := false) (maxSteps := 2000000) (disch := omega) only [go_sem, z0, e3]; (repeat' (first | (refine hK _ ?_; clear hK hkp kp K) | (with_reducible refine And.intro ?_ ?_) | omega))) | ((first | refine aG (fun h => ?_) (fun h => ?_) | refine aD (fun h => ?_) (fun h => ?_) | refine aX (fun h => ?_) (fun h => ?_)) <;> simp only [h]) | refine awp_cond_t rfl ?_ | refine awp_cond_f rfl ?_ | ((refine awp_cond rfl (fun h => ?_) (fun h => ?_) <;> try simp only [ifs] at h) <;> (try (exfalso; omega))) | refine awp_ret ?_))
      refine hcut _ ?_
      refine Emb.trans (emb_wk (els' := (qs ++ [(⟨false, [up], [(r : Int), kid], [], -1⟩ : PG)]).map eP) 6 rfl (by simp) (fun i e e' h1 h2 => ?_)) ?_
      · rw [List.map_append] at h2
        by_cases hi : i < (qs.map eP).length
        · rw [List.getElem?_append_left hi] at h1 h2
          rw [h1] at h2; cases h2
          exact wkL_refl _
        · rw [List.getElem?_append_right (by omega)] at h1 h2
          obtain ⟨j, hj⟩ : ∃ j, i - (qs.map eP).length = j := ⟨_, rfl⟩
          rw [hj] at h1 h2
          cases j with
          | succ j => simp at h1
          | zero =>
            cases h1; cases h2
            simp [wkL, wk, eP, eKy, eI]
      · simp only [setNd]
        (refine emb [0, 1, 6] ?_ ?_ rfl ?_ ?_ ?_ ?_ <;> simp [okM, okO, lk, ren, renL, renNd, by_, hE, renOp] <;> (try omega) <;> (try (intro i hi; first | (rcases i with _ | _ | i; rfl; rfl; (exfalso; omega)) | (rcases i with _ | _ | _ | i; rfl; rfl; rfl; (exfalso; omega)) | (rcases i with _ | _ | _ | _ | i; rfl; rfl; rfl; rfl; (exfalso; omega)) | (rcases i with _ | _ | _ | _ | _ | i; rfl; rfl; rfl; rfl; rfl; (exfalso; omega)) | (rcases i with _ | _ | _ | _ | _ | _ | i; rfl; rfl; rfl; rfl; rfl; rfl; (exfalso; omega)))))
    | succ m =>
      have e2 : ((m + 1 : Nat) : Int) - 1 = (m : Int) := by omega
      obtain ⟨x, hx⟩ : ∃ x, way[m]? = some x := ⟨_, List.getElem?_eq_getElem (by omega)⟩
      have hqx := hsame m x (by omega) hx
      have hxl : x < qs.length := (List.getElem?_eq_some_iff.1 hqx).1
      have hxp : x < ps.length := by
        subst hway
        obtain ⟨_, _, _, b4⟩ := path_step h.ok k d r [] [] h.good (.inl rfl) m x hx
        rcases b4 with e | ⟨y, hy⟩
        · rw [e]; exact h.rl
        · exact h.kin y _ hy
      have hpgq : pg qs x = pg ps x := pg_some hqx
      have hok := h.ok x _ (pg_in hxp)
      rw [List.take_add_one, hx] at hres
      simp only [Option.toList_some, List.reverse_append, List.reverse_cons, List.reverse_nil, List.nil_append, List.singleton_append, loopM, stepM, hpgq] at hres
      have hdis : ∀ j y, j < m → way[j]? = some y → x ≠ y := fun j y hj hy e => by
        subst hway e
        obtain ⟨l1, h1, g1⟩ := path_good h.ok k d r [] [] h.good m x hx
        obtain ⟨l2, h2, g2⟩ := path_good h.ok k d r [] [] h.good j x hy
        have := good_deep (kids_ne h.ok) _ _ _ _ _ _ _ g1 g2
        omega
      have hsam2 : ∀ (j y : Nat), j < m → way[j]? = some y → qs[y]? = some (pg ps y) := fun j y hj hy => hsame j y (by omega) hy
      clear hsame
      generalize pg ps x = p at *
      have hat := place_le p up
      have hk4 := hok.nk
      have hkl : p.kids.length = if p.leaf then p.keys.length else p.keys.length + 1 := by
        cases hlf : p.leaf
        · exact hok.ki hlf
        · exact hok.kl hlf
      have pc := place_conf E.G false true p up (srt_page hok) hk4
      generalize hatE : placeM p up = at_ at *
      have ik := insK_con E.G p.keys up at_ hat (by omega)
      obtain ⟨a2, ha2⟩ : ∃ a2, (if p.leaf then at_ else at_ + 1) = a2 := ⟨_, rfl⟩
      have ha2l : a2 ≤ p.kids.length := by rw [← ha2, hkl]; split <;> omega
      have ii := insI_con E.G p.kids kid a2 ha2l (by rw [hkl]; split <;> omega)
      have hpu : (qs.map uP)[x]? = some (uP p) := by rw [List.getElem?_map, hqx]; rfl
      have zm : ((m : Int) < 0) = False := eq_false (by omega)
      have zw : ((m : Int) < (way.length : Int)) = True := eq_true (by omega)
      have zx : ((x : Int) < (qs.length : Int)) = True := eq_true (by omega)
      simp only [e2]
      (refine AWP.emb (emb_open (T := ?z2T) (k := ?z2k) (els := ?z2e) (T' := ?z2T1) (k' := ?z2k1) (els' := ?z2e1) (op := ?z2op) (e := ?z2ee) 2 x 1 ?z2h ?z2he ?z2hj ?z2ho) ?z2g; (case z2h => rfl); (case z2he => exact hpu); (case z2hj => rfl); (case z2ho => simp [lk2]); simp only [List.length_map])
      (refine AWP.emb (emb_open (T := ?z3T) (k := ?z3k) (els := ?z3e) (T' := ?z3T1) (k' := ?z3k1) (els' := ?z3e1) (op := ?z3op) (e := ?z3ee) 2 x 2 ?z3h ?z3he ?z3hj ?z3ho) ?z3g; (case z3h => rfl); (case z3he => exact hpu); (case z3hj => rfl); (case z3ho => simp [lk2]); simp only [List.length_map])
      have dz1 : dfzR true (p.keys.map eKy) = p.keys.map eKy := dfzR_map true eKy eKy (fun _ => rfl) _
      have dz2 : dfzR true (p.kids.map eI) = p.kids.map eI := dfzR_map true eI eI (fun _ => rfl) _
      (refine AWP.emb (emb_toL (T := ?z4T) (k := ?z4k) (els := ?z4e) 3 ?z4h) ?z4g; (case z4h => rfl); simp only [setNd, dz1])
      (refine AWP.emb (emb_toL (T := ?z5T) (k := ?z5k) (els := ?z5e) 4 ?z5h) ?z5g; (case z5h => rfl); simp only [setNd, dz2, Nat.reduceAdd])
      clear hR
      (repeat' (first | refine awp_seq ?_ | refine awp_block ?_ | refine awp_skip ?_ | refine awp_exit ?_ | ((first | refine rR (fun K kp hK hkp => ?_) | refine rD (id := 17) mixed 8 [0,1,2,3,4,5,6,7] (fun K kp hK hkp => ?_) | refine cR pc ?_ | refine cD pc ?_ | refine iG ?_ | refine iD ?_); simp (implicitDefEqProofs := false) (maxSteps := 2000000) (disch := omega) only [go_sem, zm, zw, zx, hx, hqx, uP, eNt, hpl]; (repeat' (first | (refine hK _ ?_; clear hK hkp kp K) | (with_reducible refine And.intro ?_ ?_) | omega))) | ((first | refine aG (fun h => ?_) (fun h => ?_) | refine aD (fun h => ?_) (fun h => ?_) | refine aX (fun h => ?_) (fun h => ?_)) <;> simp only [h]) | refine awp_cond_t rfl ?_ | refine awp_cond_f rfl ?_ | ((refine awp_cond rfl (fun h => ?_) (fun h => ?_) <;> try simp only [ifs] at h) <;> (try (exfalso; omega))) | refine awp_ret ?_))
      have hsx : ∀ e, ((qs.map uP).set x e)[x]? = some e := fun e => by rw [List.getElem?_set_self (by simpa using hxl)]
      (refine callR_own [3, 5] (ik) ?_ ?_ ?_ ?_ ?_ ?_ ?_ ?_ rfl rfl ?_; (· simp [pasL, pas, idx, bor, borL, borC, lk, zx, hqx, uP, eKy, ne_eq, reduceCtorEq, not_false_eq_true, Value.oneCell']); (· simp [okO, lk, renNd, renL, ren, by_, zx, hqx, uP, eKy, ne_eq, reduceCtorEq, not_false_eq_true, Value.oneCell']); (· (intro i hi; simp only [List.length_cons, List.length_nil] at hi; repeat' (first | omega | exact ⟨_, rfl⟩ | (rcases i with _ | i)))); (· simp); (· simp); (· simp); (· simp [zx, hqx, uP, eKy, ne_eq, reduceCtorEq, not_false_eq_true, Value.oneCell']); (· simp [zx, hqx, uP, eKy, ne_eq, reduceCtorEq, not_false_eq_true, Value.oneCell']); simp only [mapO, fw, rmL, rm, List.map_cons, List.map_nil, List.foldl_cons, List.foldl_nil, List.getElem?_cons_zero, List.getElem?_cons_succ, List.getElem?_nil, List.length_cons, List.length_nil, Nat.zero_add, Nat.sub_self, Nat.add_zero, ↓reduceIte, Nat.reduceEqDiff, reduceCtorEq, Nat.reduceAdd, Nat.reduceSub, List.cons_append, List.nil_append, ren, renL, renNd, zx, hqx, uP, eKy, ne_eq, reduceCtorEq, not_false_eq_true, Value.oneCell']; simp (implicitDefEqProofs := false) (maxSteps := 2000000) (disch := omega) only [go_sem, zx, hqx, uP, eKy, ne_eq, reduceCtorEq, not_false_eq_true, Value.oneCell']; (repeat' (first | (refine hK _ ?_; clear hK hkp kp K) | (with_reducible refine And.intro ?_ ?_) | omega)))
      refine awp_cut (fx := ⟨[(18, .r (.int .i64 a2)), (17, .p 2 x 0), (16, .r (.int .i64 m)), (15, .r (.int .i64 kid)), (13, .ro true 1 (way.map eNt)), (12, .p 1 0 0), (7, .r (.int .i64 0)), (6, .p 0 0 0)], [(0, .box 24 [.r (.slice none 0 0), .r (.int .i64 0)]), (1, .box 24 [.s 2 0 qs.length, .r (.int .i64 r)]), (2, .ul 52 5 ((qs.map uP).set x [.r (.bool p.leaf), .any, .u 3 1 (p.kids.map eI), .ro true 1 (p.high.map eByte), .r (.int .i64 p.next)]) [(x, 1, .s 3 0 (p.keys.length + 1)), (x, 2, .s 4 0 p.kids.length)]), (3, .lst 30 1 ((insX p.keys at_ up).map eKy)), (4, .lst 3 1 (p.kids.map eI))], 5⟩) ?_ fun K2 hcut2 => ?_
      rotate_left
      · cases hlf : p.leaf
        · obtain rfl : at_ + 1 = a2 := by rw [← ha2, hlf]; rfl
          simp only [hlf] at hcut2
          have e4 : (at_ : Int) + 1 = ((at_ + 1 : Nat) : Int) := by omega
          (repeat' (first | refine awp_seq ?_ | refine awp_block ?_ | refine awp_skip ?_ | refine awp_exit ?_ | ((first | refine rR (fun K kp hK hkp => ?_) | refine rD (id := 17) mixed 8 [0,1,2,3,4,5,6,7] (fun K kp hK hkp => ?_) | refine iG ?_ | refine iD ?_); simp (implicitDefEqProofs := false) (maxSteps := 2000000) (disch := omega) only [go_sem, hlf, hsx, e4]; (repeat' (first | (refine hK _ ?_; clear hK hkp kp K) | (with_reducible refine And.intro ?_ ?_) | omega))) | ((first | refine aG (fun h => ?_) (fun h => ?_) | refine aD (fun h => ?_) (fun h => ?_) | refine aX (fun h => ?_) (fun h => ?_)) <;> simp only [h]) | refine awp_cond_t rfl ?_ | refine awp_cond_f rfl ?_ | ((refine awp_cond rfl (fun h => ?_) (fun h => ?_) <;> try simp only [ifs] at h) <;> (try (exfalso; omega))) | refine awp_ret ?_))
          refine hcut2 _ ?_
          (refine emb [0, 1, 2, 6, 4] ?_ ?_ rfl ?_ ?_ ?_ ?_ <;> simp [okM, okO, lk, ren, renL, renNd, by_, hE, renOp] <;> (try omega) <;> (try (intro i hi; first | (rcases i with _ | _ | i; rfl; rfl; (exfalso; omega)) | (rcases i with _ | _ | _ | i; rfl; rfl; rfl; (exfalso; omega)) | (rcases i with _ | _ | _ | _ | i; rfl; rfl; rfl; rfl; (exfalso; omega)) | (rcases i with _ | _ | _ | _ | _ | i; rfl; rfl; rfl; rfl; rfl; (exfalso; omega)) | (rcases i with _ | _ | _ | _ | _ | _ | i; rfl; rfl; rfl; rfl; rfl; rfl; (exfalso; omega)))))
        · obtain rfl : at_ = a2 := by rw [← ha2, hlf]; rfl
          simp only [hlf] at hcut2
          (repeat' (first | refine awp_seq ?_ | refine awp_block ?_ | refine awp_skip ?_ | refine awp_exit ?_ | ((first | refine rR (fun K kp hK hkp => ?_) | refine rD (id := 17) mixed 8 [0,1,2,3,4,5,6,7] (fun K kp hK hkp => ?_) | refine iG ?_ | refine iD ?_); simp (implicitDefEqProofs := false) (maxSteps := 2000000) (disch := omega) only [go_sem, hlf, hsx]; (repeat' (first | (refine hK _ ?_; clear hK hkp kp K) | (with_reducible refine And.intro ?_ ?_) | omega))) | ((first | refine aG (fun h => ?_) (fun h => ?_) | refine aD (fun h => ?_) (fun h => ?_) | refine aX (fun h => ?_) (fun h => ?_)) <;> simp only [h]) | refine awp_cond_t rfl ?_ | refine awp_cond_f rfl ?_ | ((refine awp_cond rfl (fun h => ?_) (fun h => ?_) <;> try simp only [ifs] at h) <;> (try (exfalso; omega))) | refine awp_ret ?_))
          refine hcut2 _ ?_
          (refine emb [0, 1, 2, 6, 4] ?_ ?_ rfl ?_ ?_ ?_ ?_ <;> simp [okM, okO, lk, ren, renL, renNd, by_, hE, renOp] <;> (try omega) <;> (try (intro i hi; first | (rcases i with _ | _ | i; rfl; rfl; (exfalso; omega)) | (rcases i with _ | _ | _ | i; rfl; rfl; rfl; (exfalso; omega)) | (rcases i with _ | _ | _ | _ | i; rfl; rfl; rfl; rfl; (exfalso; omega)) | (rcases i with _ | _ | _ | _ | _ | i; rfl; rfl; rfl; rfl; rfl; (exfalso; omega)) | (rcases i with _ | _ | _ | _ | _ | _ | i; rfl; rfl; rfl; rfl; rfl; rfl; (exfalso; omega)))))
      clear ik pc dz1 dz2
      (repeat' (first | refine awp_seq ?_ | refine awp_block ?_ | refine awp_skip ?_ | refine awp_exit ?_ | ((first | refine rR (fun K kp hK hkp => ?_) | refine rD (id := 17) mixed 8 [0,1,2,3,4,5,6,7] (fun K kp hK hkp => ?_) | refine iG ?_ | refine iD ?_); simp (implicitDefEqProofs := false) (maxSteps := 2000000) (disch := omega) only [go_sem, zx, hqx, hsx]; (repeat' (first | (refine hK _ ?_; clear hK hkp kp K) | (with_reducible refine And.intro ?_ ?_) | omega))) | ((first | refine aG (fun h => ?_) (fun h => ?_) | refine aD (fun h => ?_) (fun h => ?_) | refine aX (fun h => ?_) (fun h => ?_)) <;> simp only [h]) | refine awp_cond_t rfl ?_ | refine awp_cond_f rfl ?_ | ((refine awp_cond rfl (fun h => ?_) (fun h => ?_) <;> try simp only [ifs] at h) <;> (try (exfalso; omega))) | refine awp_ret ?_))
      (refine callR_own [4, 5] (ii) ?_ ?_ ?_ ?_ ?_ ?_ ?_ ?_ rfl rfl ?_; (· simp [pasL, pas, idx, bor, borL, borC, lk, zx, hsx, eI, ne_eq, reduceCtorEq, not_false_eq_true, Value.oneCell']); (· simp [okO, lk, renNd, renL, ren, by_, zx, hsx, eI, ne_eq, reduceCtorEq, not_false_eq_true, Value.oneCell']); (· (intro i hi; simp only [List.length_cons, List.length_nil] at hi; repeat' (first | omega | exact ⟨_, rfl⟩ | (rcases i with _ | i)))); (· simp); (· simp); (· simp); (· simp [zx, hsx, eI, ne_eq, reduceCtorEq, not_false_eq_true, Value.oneCell']); (· simp [zx, hsx, eI, ne_eq, reduceCtorEq, not_false_eq_true, Value.oneCell']); simp only [mapO, fw, rmL, rm, List.map_cons, List.map_nil, List.foldl_cons, List.foldl_nil, List.getElem?_cons_zero, List.getElem?_cons_succ, List.getElem?_nil, List.length_cons, List.length_nil, Nat.zero_add, Nat.sub_self, Nat.add_zero, ↓reduceIte, Nat.reduceEqDiff, reduceCtorEq, Nat.reduceAdd, Nat.reduceSub, List.cons_append, List.nil_append, ren, renL, renNd, zx, hsx, eI, ne_eq, reduceCtorEq, not_false_eq_true, Value.oneCell']; simp (implicitDefEqProofs := false) (maxSteps := 2000000) (disch := omega) only [go_sem, zx, hsx, eI, ne_eq, reduceCtorEq, not_false_eq_true, Value.oneCell']; (repeat' (first | (refine hK _ ?_; clear hK hkp kp K) | (with_reducible refine And.intro ?_ ?_) | omega)))
      obtain ⟨q, hq⟩ : ∃ q, rowX p at_ up kid = q := ⟨_, rfl⟩
      have q1 : insX p.keys at_ up = q.keys := by rw [← hq]; rfl
      have q2 : insX p.kids a2 kid = q.kids := by rw [← hq, ← ha2]; rfl
      have q3 : p.leaf = q.leaf := by rw [← hq]; rfl
      have q4 : p.high = q.high := by rw [← hq]; rfl
      have q5 : p.next = q.next := by rw [← hq]; rfl
      have ql : q.keys.length = p.keys.length + 1 := by rw [← q1, insX_len _ hat]
      have qk : q.kids.length = p.kids.length + 1 := by rw [← q2, insX_len _ ha2l]
      have hkm : ∀ y ∈ q.keys, y.length ≤ 1048576 := fun y hy => by
        rw [← q1] at hy
        rcases insX_mem hy with rfl | hy
        · exact hupl
        · obtain ⟨j, hj⟩ := List.mem_iff_getElem?.1 hy
          have := (hok.ks j (List.getElem?_eq_some_iff.1 hj).1).1
          rw [List.getD_eq_getElem?_getD, hj, Option.getD_some, keyB, Bool.and_eq_true, decide_eq_true_eq, decide_eq_true_eq] at this
          omega
      rw [hq] at hres
      rw [q1, q2, q3, q4, q5, ← ql, ← qk]
      have hkl2 : q.kids.length = if q.leaf then q.keys.length else q.keys.length + 1 := by
        rw [qk, ql, hkl, q3]; split <;> rfl
      have hq4 : q.keys.length ≤ 5 := by omega
      clear ii q1 q2 q3 q4 q5 hq ha2 ha2l hat hatE hkl hk4 qk ql
      refine AWP.emb (st' := ⟨[(17, .p 2 x 0), (16, .r (.int .i64 m)), (13, .ro true 1 (way.map eNt)), (12, .p 1 0 0), (7, .r (.int .i64 0)), (6, .p 0 0 0)], [(0, .box 24 [.r (.slice none 0 0), .r (.int .i64 0)]), (1, .box 24 [.s 2 0 qs.length, .r (.int .i64 r)]), (2, .ul 52 5 ((qs.map uP).set x [.r (.bool q.leaf), .any, .any, .ro true 1 (q.high.map eByte), .r (.int .i64 q.next)]) [(x, 2, .s 4 0 q.kids.length), (x, 1, .s 3 0 q.keys.length)]), (3, .ul 30 1 (q.keys.map eKy) []), (4, .ul 3 1 (q.kids.map eI) [])], 5⟩) ?_ ?_
      · refine Emb.trans (emb_toU 3 rfl) ?_
        refine Emb.trans (emb_toU 6 rfl) ?_
        simp only [setNd]
        (refine emb [0, 1, 2, 3, 6] ?_ ?_ rfl ?_ ?_ ?_ ?_ <;> simp [okM, okO, lk, ren, renL, renNd, by_, hE, renOp, List.set_set] <;> (try omega) <;> (try (intro i hi; first | (rcases i with _ | _ | i; rfl; rfl; (exfalso; omega)) | (rcases i with _ | _ | _ | i; rfl; rfl; rfl; (exfalso; omega)) | (rcases i with _ | _ | _ | _ | i; rfl; rfl; rfl; rfl; (exfalso; omega)) | (rcases i with _ | _ | _ | _ | _ | i; rfl; rfl; rfl; rfl; rfl; (exfalso; omega)) | (rcases i with _ | _ | _ | _ | _ | _ | i; rfl; rfl; rfl; rfl; rfl; rfl; (exfalso; omega)))))
      have t1 : (q.keys.map eKy).take q.keys.length = q.keys.map eKy := List.take_of_length_le (by simp)
      have t2 : (q.kids.map eI).take q.kids.length = q.kids.map eI := List.take_of_length_le (by simp)
      have hset : (qs.map uP).set x (uP q) = (qs.set x q).map uP := by rw [List.map_set]
      have hsl : (qs.set x q).length = qs.length := List.length_set
      by_cases h4 : q.keys.length ≤ 4
      · have z4 : ((q.keys.length : Int) ≤ 4) = True := eq_true (by omega)
        have hR1 : R = (qs.set x q, (r : Int)) := by rw [← hres, putM, if_pos h4]; rfl
        rw [hR1] at hcut
        (repeat' (first | refine awp_seq ?_ | refine awp_block ?_ | refine awp_skip ?_ | refine awp_exit ?_ | ((first | refine rR (fun K kp hK hkp => ?_) | refine rD (id := 17) mixed 8 [0,1,2,3,4,5,6,7] (fun K kp hK hkp => ?_) | refine iG ?_ | refine iD ?_); simp (implicitDefEqProofs := false) (maxSteps := 2000000) (disch := omega) only [go_sem, zx, hsx, z4]; (repeat' (first | (refine hK _ ?_; clear hK hkp kp K) | (with_reducible refine And.intro ?_ ?_) | omega))) | ((first | refine aG (fun h => ?_) (fun h => ?_) | refine aD (fun h => ?_) (fun h => ?_) | refine aX (fun h => ?_) (fun h => ?_)) <;> simp only [h]) | refine awp_cond_t rfl ?_ | refine awp_cond_f rfl ?_ | ((refine awp_cond rfl (fun h => ?_) (fun h => ?_) <;> try simp only [ifs] at h) <;> (try (exfalso; omega))) | refine awp_ret ?_))
        refine hcut _ ?_
        (refine Emb.trans (emb_close (T := ?z6T) (k := ?z6k) (els := ?z6e) (T' := ?z6T1) (k' := ?z6k1) (els' := ?z6e1) (op := ?z6op) (e := ?z6ee) (m := ?z6m) (lo := ?z6lo) (len := ?z6len) 2 x 1 ?z6h ?z6ho ?z6hm ?z6hn ?z6hl ?z6he ?z6hj) ?z6g; (case z6h => rfl); (case z6he => exact hsx _); (case z6ho => (simp only [lk2, and_self, if_true, ↓reduceIte, List.length_map, t1, List.set_set, List.length_cons, List.length_nil, true_and, Nat.reduceLeDiff, Nat.reduceAdd, Nat.lt_irrefl, and_false]; rfl)); (case z6hm => rfl); (case z6hn => simp); (case z6hl => simp [List.length_map, t1, List.set_set, List.length_cons, List.length_nil, true_and, Nat.reduceLeDiff, Nat.reduceAdd, Nat.lt_irrefl, and_false]); (case z6hj => simp [List.length_map, t1, List.set_set, List.length_cons, List.length_nil, true_and, Nat.reduceLeDiff, Nat.reduceAdd, Nat.lt_irrefl, and_false]); simp only [rm, rm2, and_self, Nat.le_refl, Nat.zero_add, Nat.lt_add_one, Nat.reduceLT, Nat.reduceEqDiff, ↓reduceIte, if_true, List.drop_zero, List.set_cons_zero, List.set_cons_succ, List.length_map, t1, List.set_set, List.length_cons, List.length_nil, true_and, Nat.reduceLeDiff, Nat.reduceAdd, Nat.lt_irrefl, and_false])
        (refine Emb.trans (emb_close (T := ?z7T) (k := ?z7k) (els := ?z7e) (T' := ?z7T1) (k' := ?z7k1) (els' := ?z7e1) (op := ?z7op) (e := ?z7ee) (m := ?z7m) (lo := ?z7lo) (len := ?z7len) 2 x 2 ?z7h ?z7ho ?z7hm ?z7hn ?z7hl ?z7he ?z7hj) ?z7g; (case z7h => rfl); (case z7he => exact hsx _); (case z7ho => (simp only [lk2, and_self, if_true, ↓reduceIte, List.length_map, t2, List.set_set, List.length_cons, List.length_nil, true_and, Nat.reduceLeDiff, Nat.reduceAdd, Nat.lt_irrefl, and_false]; rfl)); (case z7hm => rfl); (case z7hn => simp); (case z7hl => simp [List.length_map, t2, List.set_set, List.length_cons, List.length_nil, true_and, Nat.reduceLeDiff, Nat.reduceAdd, Nat.lt_irrefl, and_false]); (case z7hj => simp [List.length_map, t2, List.set_set, List.length_cons, List.length_nil, true_and, Nat.reduceLeDiff, Nat.reduceAdd, Nat.lt_irrefl, and_false]); simp only [rm, rm2, and_self, Nat.le_refl, Nat.zero_add, Nat.lt_add_one, Nat.reduceLT, Nat.reduceEqDiff, ↓reduceIte, if_true, List.drop_zero, List.set_cons_zero, List.set_cons_succ, List.length_map, t2, List.set_set, List.length_cons, List.length_nil, true_and, Nat.reduceLeDiff, Nat.reduceAdd, Nat.lt_irrefl, and_false])
        change Emb _ _ ⟨_, (2, .ul _ _ (List.set _ _ (uP q)) _) :: _, _⟩ _
        rw [hset]
        refine Emb.trans (emb_toL 2 rfl) ?_
        simp only [setNd, dfzR_uP, ← eP_f]
        (refine emb [0, 1, 2] ?_ ?_ rfl ?_ ?_ ?_ ?_ <;> simp [okM, okO, lk, ren, renL, renNd, by_, hE, renOp, hsl] <;> (try omega) <;> (try (intro i hi; first | (rcases i with _ | _ | i; rfl; rfl; (exfalso; omega)) | (rcases i with _ | _ | _ | i; rfl; rfl; rfl; (exfalso; omega)) | (rcases i with _ | _ | _ | _ | i; rfl; rfl; rfl; rfl; (exfalso; omega)) | (rcases i with _ | _ | _ | _ | _ | i; rfl; rfl; rfl; rfl; rfl; (exfalso; omega)) | (rcases i with _ | _ | _ | _ | _ | _ | i; rfl; rfl; rfl; rfl; rfl; rfl; (exfalso; omega)))))
      · have z4 : ((q.keys.length : Int) ≤ 4) = False := eq_false (by omega)
        have h5 : q.keys.length = 5 := by omega
        have hk5 : q.kids.length = if q.leaf then 5 else 6 := by rw [hkl2, h5]
        obtain ⟨u, hu⟩ : ∃ u, q.keys[2]? = some u := ⟨_, List.getElem?_eq_getElem (by omega)⟩
        have hmid : midM q = u := by rw [midM, List.getD_eq_getElem?_getD, hu]; rfl
        have hul := hkm u (List.mem_of_getElem? hu)
        have sc := split_con E.G (qs.set x q) r x q u (by rw [List.getElem?_set_self hxl]) h5 hk5 hu hul (by rw [hsl]; omega)
        have hsp : splitM (qs.set x q) x q = splitM qs x q := by simp only [splitM, List.set_set, hsl]
        have hspl : (splitM qs x q).length = qs.length + 1 := by simp [splitM]
        have hput : putM qs x q = (splitM qs x q, some (u, (qs.length : Int))) := by rw [putM, if_neg h4, hmid]
        rw [hsl, hsp] at sc
        rw [hput] at hres
        refine awp_seq ?_
        refine awp_seq ?_
        (refine rR (fun K kp hK hkp => ?_); simp (implicitDefEqProofs := false) (maxSteps := 2000000) (disch := omega) only [go_sem, zx, hsx, z4]; (repeat' (first | (refine hK _ ?_; clear hK hkp kp K) | (with_reducible refine And.intro ?_ ?_) | omega)))
        refine awp_cond_f rfl ?_
        refine awp_skip ?_
        (refine AWP.emb (emb_close (T := ?z8T) (k := ?z8k) (els := ?z8e) (T' := ?z8T1) (k' := ?z8k1) (els' := ?z8e1) (op := ?z8op) (e := ?z8ee) (m := ?z8m) (lo := ?z8lo) (len := ?z8len) 2 x 1 ?z8h ?z8ho ?z8hm ?z8hn ?z8hl ?z8he ?z8hj) ?z8g; (case z8h => rfl); (case z8he => exact hsx _); (case z8ho => (simp only [lk2, and_self, if_true, ↓reduceIte, List.length_map, t1, List.set_set, List.length_cons, List.length_nil, true_and, Nat.reduceLeDiff, Nat.reduceAdd, Nat.lt_irrefl, and_false]; rfl)); (case z8hm => rfl); (case z8hn => simp); (case z8hl => simp [List.length_map, t1, List.set_set, List.length_cons, List.length_nil, true_and, Nat.reduceLeDiff, Nat.reduceAdd, Nat.lt_irrefl, and_false]); (case z8hj => simp [List.length_map, t1, List.set_set, List.length_cons, List.length_nil, true_and, Nat.reduceLeDiff, Nat.reduceAdd, Nat.lt_irrefl, and_false]); simp only [rm, rm2, and_self, Nat.le_refl, Nat.zero_add, Nat.lt_add_one, Nat.reduceLT, Nat.reduceEqDiff, ↓reduceIte, if_true, List.drop_zero, List.set_cons_zero, List.set_cons_succ, List.length_map, t1, List.set_set, List.length_cons, List.length_nil, true_and, Nat.reduceLeDiff, Nat.reduceAdd, Nat.lt_irrefl, and_false])
        (refine AWP.emb (emb_close (T := ?z9T) (k := ?z9k) (els := ?z9e) (T' := ?z9T1) (k' := ?z9k1) (els' := ?z9e1) (op := ?z9op) (e := ?z9ee) (m := ?z9m) (lo := ?z9lo) (len := ?z9len) 2 x 2 ?z9h ?z9ho ?z9hm ?z9hn ?z9hl ?z9he ?z9hj) ?z9g; (case z9h => rfl); (case z9he => exact hsx _); (case z9ho => (simp only [lk2, and_self, if_true, ↓reduceIte, List.length_map, t2, List.set_set, List.length_cons, List.length_nil, true_and, Nat.reduceLeDiff, Nat.reduceAdd, Nat.lt_irrefl, and_false]; rfl)); (case z9hm => rfl); (case z9hn => simp); (case z9hl => simp [List.length_map, t2, List.set_set, List.length_cons, List.length_nil, true_and, Nat.reduceLeDiff, Nat.reduceAdd, Nat.lt_irrefl, and_false]); (case z9hj => simp [List.length_map, t2, List.set_set, List.length_cons, List.length_nil, true_and, Nat.reduceLeDiff, Nat.reduceAdd, Nat.lt_irrefl, and_false]); simp only [rm, rm2, and_self, Nat.le_refl, Nat.zero_add, Nat.lt_add_one, Nat.reduceLT, Nat.reduceEqDiff, ↓reduceIte, if_true, List.drop_zero, List.set_cons_zero, List.set_cons_succ, List.length_map, t2, List.set_set, List.length_cons, List.length_nil, true_and, Nat.reduceLeDiff, Nat.reduceAdd, Nat.lt_irrefl, and_false])
        change AWP _ _ _ _ ⟨_, (2, .ul _ _ (List.set _ _ (uP q)) _) :: _, _⟩ _
        rw [hset]
        (repeat' (first | refine awp_seq ?_ | refine awp_block ?_ | refine awp_skip ?_ | refine awp_exit ?_ | ((first | refine rR (fun K kp hK hkp => ?_) | refine rD (id := 17) mixed 8 [0,1,2,3,4,5,6,7] (fun K kp hK hkp => ?_) | refine iG ?_ | refine iD ?_); simp (implicitDefEqProofs := false) (maxSteps := 2000000) (disch := omega) only [go_sem, zw, hx, eNt, hpl]; (repeat' (first | (refine hK _ ?_; clear hK hkp kp K) | (with_reducible refine And.intro ?_ ?_) | omega))) | ((first | refine aG (fun h => ?_) (fun h => ?_) | refine aD (fun h => ?_) (fun h => ?_) | refine aX (fun h => ?_) (fun h => ?_)) <;> simp only [h]) | refine awp_cond_t rfl ?_ | refine awp_cond_f rfl ?_ | ((refine awp_cond rfl (fun h => ?_) (fun h => ?_) <;> try simp only [ifs] at h) <;> (try (exfalso; omega))) | refine awp_ret ?_))
        (refine callR_own [1, 2] (sc) ?_ ?_ ?_ ?_ ?_ ?_ ?_ ?_ rfl rfl ?_; (· simp [pasL, pas, idx, bor, borL, borC, lk, zx, renOp]); (· simp [okO, lk, renNd, renL, ren, by_, zx, renOp]); (· (intro i hi; simp only [List.length_cons, List.length_nil] at hi; repeat' (first | omega | exact ⟨_, rfl⟩ | (rcases i with _ | i)))); (· simp); (· simp); (· simp); (· simp [zx, renOp]); (· simp [zx, renOp]); simp only [mapO, fw, rmL, rm, List.map_cons, List.map_nil, List.foldl_cons, List.foldl_nil, List.getElem?_cons_zero, List.getElem?_cons_succ, List.getElem?_nil, List.length_cons, List.length_nil, Nat.zero_add, Nat.sub_self, Nat.add_zero, ↓reduceIte, Nat.reduceEqDiff, reduceCtorEq, Nat.reduceAdd, Nat.reduceSub, List.cons_append, List.nil_append, ren, renL, renNd, zx, renOp]; simp (implicitDefEqProofs := false) (maxSteps := 2000000) (disch := omega) only [go_sem, zx, renOp]; (repeat' (first | (refine hK _ ?_; clear hK hkp kp K) | (with_reducible refine And.intro ?_ ?_) | omega)))
        (repeat' (first | refine awp_seq ?_ | refine awp_block ?_ | refine awp_skip ?_ | refine awp_exit ?_ | ((first | refine rR (fun K kp hK hkp => ?_) | refine rD (id := 17) mixed 8 [0,1,2,3,4,5,6,7] (fun K kp hK hkp => ?_) | refine iG ?_ | refine iD ?_); simp (implicitDefEqProofs := false) (maxSteps := 2000000) (disch := omega) only [go_sem]; (repeat' (first | (refine hK _ ?_; clear hK hkp kp K) | (with_reducible refine And.intro ?_ ?_) | omega))) | ((first | refine aG (fun h => ?_) (fun h => ?_) | refine aD (fun h => ?_) (fun h => ?_) | refine aX (fun h => ?_) (fun h => ?_)) <;> simp only [h]) | refine awp_cond_t rfl ?_ | refine awp_cond_f rfl ?_ | ((refine awp_cond rfl (fun h => ?_) (fun h => ?_) <;> try simp only [ifs] at h) <;> (try (exfalso; omega))) | refine awp_ret ?_))
        ((first | (refine nextB ((m, splitM qs x q, u, (qs.length : Int))) ?_ ?_ ?_) | (refine nextA ((m, splitM qs x q, u, (qs.length : Int))) ?_ ?_ ?_) | (refine nextE ((m, splitM qs x q, u, (qs.length : Int))) ?_ ?_ ?_)); rotate_left; (· (try dsimp only); (first | omega | (simp only [List.length_drop, List.length_cons, List.length_append]; omega) | (simp; done) | (simp; omega))); (· (refine emb [0, 1, 6] ?_ ?_ rfl ?_ ?_ ?_ ?_ <;> simp [okM, okO, lk, ren, renL, renNd, by_, hE, renOp, hspl] <;> (try omega) <;> (try (intro i hi; first | (rcases i with _ | _ | i; rfl; rfl; (exfalso; omega)) | (rcases i with _ | _ | _ | i; rfl; rfl; rfl; (exfalso; omega)) | (rcases i with _ | _ | _ | _ | i; rfl; rfl; rfl; rfl; (exfalso; omega)) | (rcases i with _ | _ | _ | _ | _ | i; rfl; rfl; rfl; rfl; rfl; (exfalso; omega)) | (rcases i with _ | _ | _ | _ | _ | _ | i; rfl; rfl; rfl; rfl; rfl; rfl; (exfalso; omega)))))))
        exact ⟨by omega, hres, fun j y hj hy => by
          have := put_get (q := q) (hdis j y hj hy) (hsam2 j y hj hy)
          rw [hput] at this
          exact this, by rw [hspl]; omega, hul⟩
  · by_cases h4 : 4000 < R.1.length
    · have z4 : ((R.1.length : Int) > 4000) = True := eq_true (by omega)
      rw [if_pos h4]
      (repeat' (first | refine awp_seq ?_ | refine awp_block ?_ | refine awp_skip ?_ | refine awp_exit ?_ | ((first | refine rR (fun K kp hK hkp => ?_) | refine rD (id := 17) mixed 8 [0,1,2,3,4,5,6,7] (fun K kp hK hkp => ?_) | refine iG ?_ | refine iD ?_); simp (implicitDefEqProofs := false) (maxSteps := 2000000) (disch := omega) only [go_sem, z4]; (repeat' (first | (refine hK _ ?_; clear hK hkp kp K) | (with_reducible refine And.intro ?_ ?_) | omega))) | ((first | refine aG (fun h => ?_) (fun h => ?_) | refine aD (fun h => ?_) (fun h => ?_) | refine aX (fun h => ?_) (fun h => ?_)) <;> simp only [h]) | refine awp_cond_t rfl ?_ | refine awp_cond_f rfl ?_ | ((refine awp_cond rfl (fun h => ?_) (fun h => ?_) <;> try simp only [ifs] at h) <;> (try (exfalso; omega))) | refine awp_ret ?_))
      (refine retA_is (by (simp (implicitDefEqProofs := false) (maxSteps := 2000000) (disch := omega) only [go_sem, Go.Proofs.Try.results24]); rfl) ?_; refine eN hE ?_; simp [oneA, ren, renL])
    · have z4 : ((R.1.length : Int) > 4000) = False := eq_false (by omega)
      rw [if_neg h4, delA]
      (repeat' (first | refine awp_seq ?_ | refine awp_block ?_ | refine awp_skip ?_ | refine awp_exit ?_ | ((first | refine rR (fun K kp hK hkp => ?_) | refine rD (id := 17) mixed 8 [0,1,2,3,4,5,6,7] (fun K kp hK hkp => ?_) | refine iG ?_ | refine iD ?_); simp (implicitDefEqProofs := false) (maxSteps := 2000000) (disch := omega) only [go_sem, z4]; (repeat' (first | (refine hK _ ?_; clear hK hkp kp K) | (with_reducible refine And.intro ?_ ?_) | omega))) | ((first | refine aG (fun h => ?_) (fun h => ?_) | refine aD (fun h => ?_) (fun h => ?_) | refine aX (fun h => ?_) (fun h => ?_)) <;> simp only [h]) | refine awp_cond_t rfl ?_ | refine awp_cond_f rfl ?_ | ((refine awp_cond rfl (fun h => ?_) (fun h => ?_) <;> try simp only [ifs] at h) <;> (try (exfalso; omega))) | refine awp_ret ?_))
      (refine retA_is (by (simp (implicitDefEqProofs := false) (maxSteps := 2000000) (disch := omega) only [go_sem, Go.Proofs.Try.results24]); rfl) ?_; refine embS_frz (by simp only [oneA]; simp (implicitDefEqProofs := false) (maxSteps := 2000000) (disch := omega) only [go_sem]; rfl) ?_; refine (embV_nil hE (by simp) ?_).s; simp [oneA, ren, renL])
/-- How Insert answers. -/
noncomputable def insE (ps : List PG) (root : Int) (k : Ky) (row : Int) : Int := if askM ps root k ≠ 0 then askM ps root k else if row < 0 then 3 else 0
set_option maxRecDepth 100000 in
set_option maxHeartbeats 4000000 in
theorem insT_con (G : List (Nat × List Value)) (t : Bool) (ps : List PG) (root : Int) (k : Ky) (row : Int) (ho : okPs2 ps) (hk : k.length ≤ 1048576) (R : List PG × Int × Int) (h1 : insE ps root k row ≠ 0 → R = ([], 0, insE ps root k row)) (hR : insE ps root k row = 0 → ∀ r d : Nat, root = r → Trd ps r d → R = insR ps k row r d) :
    Con Go.Proofs.Try.prog G 24 [.agg [.ro true 5 (ps.map eP), .r (.int .i64 root)], .ro t 1 (k.map eByte), .r (.int .i64 row)] [] 0 (Is (delA R) [] 0) No := by
  have cc := checked_con G t ps root k ho
  by_cases h0 : askM ps root k = 0
  · rw [h0] at cc
    obtain ⟨r, d, rfl, h⟩ := trd_of (ask_chk h0)
    by_cases hrow : row < 0
    · have hE : insE ps r k row = 3 := by simp [insE, h0, hrow]
      rw [h1 (by rw [hE]; decide), hE, delA]
      have zr : (row < 0) = True := eq_true hrow
      refine Con.res (y := .tup [.agg [.r (.slice none 0 0), .r (.int .i64 0)], .r (.int .i64 3)]) ?_ (fun w z th v hr => rep_treenil hr)
      refine con_of_awp Go.Proofs.Try.func24 rfl (by kernel_rfl) (of_decide_eq_true (by kernel_rfl)) ?_; intro E hG hE; subst hG; simp only [ent]
      (repeat' (first | refine awp_seq ?_ | refine awp_block ?_ | refine awp_skip ?_ | refine awp_exit ?_ | ((first | refine rR (fun K kp hK hkp => ?_) | refine rD (id := 17) mixed 8 [0,1,2,3,4,5,6,7] (fun K kp hK hkp => ?_) | refine cR cc ?_ | refine cD cc ?_ | refine iG ?_ | refine iD ?_); simp (implicitDefEqProofs := false) (maxSteps := 2000000) (disch := omega) only [go_sem, bne_self_eq_false, zr]; (repeat' (first | (refine hK _ ?_; clear hK hkp kp K) | (with_reducible refine And.intro ?_ ?_) | omega))) | ((first | refine aG (fun h => ?_) (fun h => ?_) | refine aD (fun h => ?_) (fun h => ?_) | refine aX (fun h => ?_) (fun h => ?_)) <;> simp only [h]) | refine awp_cond_t rfl ?_ | refine awp_cond_f rfl ?_ | ((refine awp_cond rfl (fun h => ?_) (fun h => ?_) <;> try simp only [ifs] at h) <;> (try (exfalso; omega))) | refine awp_ret ?_))
      (refine retA_is (by (simp (implicitDefEqProofs := false) (maxSteps := 2000000) (disch := omega) only [go_sem, Go.Proofs.Try.results24]); rfl) ?_; refine eN hE ?_; simp [oneA, ren, renL])
    · have hE : insE ps r k row = 0 := by simp [insE, h0, hrow]
      rw [hR hE r d rfl h, insR]
      cases ht : thereM (pg ps (leafF ps k d r)) k
      · rw [if_neg (by simp)]
        have key := insLoop G t ps r d k row ho h hk h0 (by omega) ht _ rfl
        split
        · rename_i h4
          rw [if_pos h4] at key
          exact Con.res key (fun w z th v hr => rep_treenil hr)
        · rename_i h4
          rw [if_neg h4] at key
          exact key
      · rw [if_pos rfl, delA]
        have fc := find_con G true t ps r d k h.ok h.kin h.good h.rl h.n h.dl
        rw [ht] at fc
        have zr : (row < 0) = False := eq_false hrow
        refine Con.res (y := .tup [.agg [.r (.slice none 0 0), .r (.int .i64 0)], .r (.int .i64 9)]) ?_ (fun w z th v hr => rep_treenil hr)
        refine con_of_awp Go.Proofs.Try.func24 rfl (by kernel_rfl) (of_decide_eq_true (by kernel_rfl)) ?_; intro E hG hE; subst hG; simp only [ent]
        (repeat' (first | refine awp_seq ?_ | refine awp_block ?_ | refine awp_skip ?_ | refine awp_exit ?_ | ((first | refine rR (fun K kp hK hkp => ?_) | refine rD (id := 17) mixed 8 [0,1,2,3,4,5,6,7] (fun K kp hK hkp => ?_) | refine cR cc ?_ | refine cD cc ?_ | refine cR fc ?_ | refine cD fc ?_ | refine iG ?_ | refine iD ?_); simp (implicitDefEqProofs := false) (maxSteps := 2000000) (disch := omega) only [go_sem, bne_self_eq_false, zr]; (repeat' (first | (refine hK _ ?_; clear hK hkp kp K) | (with_reducible refine And.intro ?_ ?_) | omega))) | ((first | refine aG (fun h => ?_) (fun h => ?_) | refine aD (fun h => ?_) (fun h => ?_) | refine aX (fun h => ?_) (fun h => ?_)) <;> simp only [h]) | refine awp_cond_t rfl ?_ | refine awp_cond_f rfl ?_ | ((refine awp_cond rfl (fun h => ?_) (fun h => ?_) <;> try simp only [ifs] at h) <;> (try (exfalso; omega))) | refine awp_ret ?_))
        (refine retA_is (by (simp (implicitDefEqProofs := false) (maxSteps := 2000000) (disch := omega) only [go_sem, Go.Proofs.Try.results24]); rfl) ?_; refine eN hE ?_; simp [oneA, ren, renL])
  · have hE : insE ps root k row = askM ps root k := by simp [insE, h0]
    rw [h1 (by rw [hE]; exact h0), hE, delA]
    have z0 : (askM ps root k != 0) = true := by simp [h0]
    refine Con.res (y := .tup [.agg [.r (.slice none 0 0), .r (.int .i64 0)], .r (.int .i64 (askM ps root k))]) ?_ (fun w z th v hr => rep_treenil hr)
    refine con_of_awp Go.Proofs.Try.func24 rfl (by kernel_rfl) (of_decide_eq_true (by kernel_rfl)) ?_; intro E hG hE; subst hG; simp only [ent]
    (repeat' (first | refine awp_seq ?_ | refine awp_block ?_ | refine awp_skip ?_ | refine awp_exit ?_ | ((first | refine rR (fun K kp hK hkp => ?_) | refine rD (id := 17) mixed 8 [0,1,2,3,4,5,6,7] (fun K kp hK hkp => ?_) | refine cR cc ?_ | refine cD cc ?_ | refine iG ?_ | refine iD ?_); simp (implicitDefEqProofs := false) (maxSteps := 2000000) (disch := omega) only [go_sem, z0]; (repeat' (first | (refine hK _ ?_; clear hK hkp kp K) | (with_reducible refine And.intro ?_ ?_) | omega))) | ((first | refine aG (fun h => ?_) (fun h => ?_) | refine aD (fun h => ?_) (fun h => ?_) | refine aX (fun h => ?_) (fun h => ?_)) <;> simp only [h]) | refine awp_cond_t rfl ?_ | refine awp_cond_f rfl ?_ | ((refine awp_cond rfl (fun h => ?_) (fun h => ?_) <;> try simp only [ifs] at h) <;> (try (exfalso; omega))) | refine awp_ret ?_))
    (refine retA_is (by (simp (implicitDefEqProofs := false) (maxSteps := 2000000) (disch := omega) only [go_sem, Go.Proofs.Try.results24, h0]); rfl) ?_; refine eN hE ?_; simp [oneA, ren, renL, h0])
end Go.AM
/- padlockref.added: one page. -/
namespace Go.AM
open Go Go.RowKit
attribute [local irreducible] AWP retA
/-- A box's own slice is read alone from now on. -/
theorem emb_frzB {E : Env} {N : Nat} {st : AS} (n j : Nat) {T : TypeId} {c : List AV} {x x' : AV} {st' : AS} (h : lk st.o n = some (.box T c)) (hj : c[j]? = some x) (hf : frz st x = some (x', st')) (h' : lk st'.o n = some (.box T c)) : Emb E N st (setNd st' n (.box T (c.set j x'))) := by
  intro th z a w hs
  obtain ⟨L, h1, h2, h3⟩ := hs.mem.nds n _ h
  obtain ⟨hp, cells, fr, g1, g2, g3, g4⟩ := h2
  obtain ⟨y, hy, hr⟩ := g4.get hj
  obtain ⟨z', hz, hs', hr', hm, hn⟩ := frz_sound x hs hr hf
  refine ⟨th, z', hs'.say h' fun L' hL' hA => ?_⟩
  obtain ⟨hp', cells', fr', k1, k2, k3, k4⟩ := hA
  rw [h1] at hL'; cases hL'
  rw [g1] at k1; cases k1
  refine ⟨hp', _, _, g1, k2, k3, k4.set_at fun u hu => ?_⟩
  rw [hy] at hu; cases hu
  exact hr'.pure th
/-- A row with one element more, as it is built. -/
def insT {α : Type} (l : List α) (i : Nat) (x : α) (n : Nat) : List α := if n ≤ i then l.take n else insX (l.take n) i x
theorem insT_zero {α : Type} (l : List α) (i : Nat) (x : α) : insT l i x 0 = [] := by simp [insT]
theorem insT_ne {α : Type} {l : List α} {i n : Nat} {x y : α} (h : n ≠ i) (hy : l[n]? = some y) : insT l i x (n + 1) = insT l i x n ++ [y] := by
  have ht : l.take (n + 1) = l.take n ++ [y] := by rw [List.take_add_one, hy]; rfl
  have hl : (l.take n).length = n := by rw [List.length_take]; have := (List.getElem?_eq_some_iff.1 hy).1; omega
  unfold insT
  by_cases h1 : n + 1 ≤ i
  · rw [if_pos h1, if_pos (by omega), ht]
  · rw [if_neg h1, if_neg (by omega), ht]
    unfold insX
    rw [List.take_append_of_le_length (by omega), List.drop_append_of_le_length (by omega)]
    simp
theorem insT_at {α : Type} {l : List α} {i : Nat} {x y : α} (hy : l[i]? = some y) : insT l i x (i + 1) = insT l i x i ++ [x] ++ [y] := by
  have ht : l.take (i + 1) = l.take i ++ [y] := by rw [List.take_add_one, hy]; rfl
  have hl : (l.take i).length = i := by rw [List.length_take]; have := (List.getElem?_eq_some_iff.1 hy).1; omega
  unfold insT
  rw [if_neg (by omega), if_pos (by omega), ht]
  unfold insX
  rw [List.take_append_of_le_length (by omega), List.drop_append_of_le_length (by omega), List.take_of_length_le (by omega), List.drop_eq_nil_of_le (by omega)]
  simp
theorem insT_len {α : Type} {l : List α} {i n : Nat} {x : α} (h : n ≤ l.length) : (insT l i x n).length = if n ≤ i then n else n + 1 := by
  have hl : (l.take n).length = n := by rw [List.length_take]; omega
  unfold insT
  split
  · exact hl
  · rw [insX_len _ (by omega), hl]
theorem insT_end {α : Type} {l : List α} {i : Nat} {x : α} (h : i < l.length) : insT l i x l.length = insX l i x := by
  unfold insT
  rw [if_neg (by omega), List.take_length]
theorem insT_all {α : Type} {l : List α} {i : Nat} {x : α} (h : i ≤ l.length) : insT l i x (l.length + 1) = insX l i x := by
  unfold insT
  rw [if_neg (by omega), List.take_of_length_le (by omega)]
theorem insT_last {α : Type} (l : List α) (x : α) : insT l l.length x l.length ++ [x] = insX l l.length x := by
  unfold insT insX
  rw [if_pos (Nat.le_refl _)]
  simp
def insA (R : InR) : AV := match R.2 with
  | none => .tup [.r (.slice none 0 0), .r (.int .i64 0)]
  | some (up, n) => .tup [.ro true 1 (up.map eByte), .r (.int .i64 n)]
def ownI (root : Int) (m : Nat) (ps : List PG) : List (Nat × Nd) := [(0, .box 24 [.s m 0 ps.length, .r (.int .i64 root)]), (m, .lst 52 5 (ps.map eP))]
set_option maxRecDepth 100000 in
set_option maxHeartbeats 8000000 in
theorem added_step (G : List (Nat × List Value)) (t : Bool) (ps qs : List PG) (root : Int) (i : Nat) (p : PG) (k up : Ky) (row kid : Int) (hp : ps[i]? = some p) (hq : qs[i]? = some p) (hn : ps.length ≤ 1000000) (hqn : qs.length ≤ 1000000) (h4 : p.keys.length ≤ 4) (hkl : p.kids.length = if p.leaf then p.keys.length else p.keys.length + 1)
    (hkm : ∀ y ∈ p.keys, y.length ≤ 1048576) (hk : k.length ≤ 1048576) (hul : up.length ≤ 1048576) (at_ : Nat) (hat : at_ ≤ p.keys.length) (hlo : ∀ (j : Nat) (x : Ky), j < at_ → p.keys[j]? = some x → ltK k x = false) (hhi : ∀ x, p.keys[at_]? = some x → ltK k x = true)
    (IH : (p.leaf = true ∧ qs = ps ∧ up = k ∧ kid = row) ∨ (p.leaf = false ∧ ∃ c : Nat, p.kids[at_]? = some (c : Int) ∧ up ≠ [] ∧ Con Go.Proofs.Try.prog G 51 [.p 0 0 0, .r (.int .i64 c), .ro t 1 (k.map eByte), .r (.int .i64 row)] (ownI root 1 ps) 2 (Is (insA (qs, some (up, kid))) (ownI root 2 qs) 3) No)) :
    Con Go.Proofs.Try.prog G 51 [.p 0 0 0, .r (.int .i64 i), .ro t 1 (k.map eByte), .r (.int .i64 row)] (ownI root 1 ps) 2 (Is (insA (putM qs i (rowX p at_ up kid))) (ownI root 2 (putM qs i (rowX p at_ up kid)).1) 3) No := by
  have hi : i < ps.length := (List.getElem?_eq_some_iff.1 hp).1
  have zi : ((i : Int) < (ps.length : Int)) = True := eq_true (by omega)
  rw [ownI]
  refine con_of_awp Go.Proofs.Try.func51 rfl (by kernel_rfl) (of_decide_eq_true (by kernel_rfl)) ?_; intro E hG hE; subst hG; simp only [ent]
  (repeat' (first | refine awp_seq ?_ | refine awp_block ?_ | refine awp_skip ?_ | refine awp_exit ?_ | ((first | refine rR (fun K kp hK hkp => ?_) | refine rD (id := 19) mixed 8 [0,1,2,3,4,5,6,7] (fun K kp hK hkp => ?_) | refine rD (id := 31) mixed 8 [0,1,2,3,4,5,6,7] (fun K kp hK hkp => ?_) | refine rD (id := 33) mixed 7 [0,1,2,3,4,5,6] (fun K kp hK hkp => ?_) | refine rD (id := 37) mixed 14 [0,1,2,3,4,5,6,7,8,9,10,11,12,13] (fun K kp hK hkp => ?_) | refine rD (id := 42) mixed 7 [0,1,2,3,4,5,6] (fun K kp hK hkp => ?_) | refine rX (id := 43) mixed [] 11 [0,1,2,3,4,5,6,7,8,9,10] (fun K kp hK hkp => ?_) | refine rD (id := 44) mixed 9 [0,1,2,3,4,5,6,7,8] (fun K kp hK hkp => ?_) | refine iG ?_ | refine iD ?_ | refine iX ?_); simp (implicitDefEqProofs := false) (maxSteps := 2000000) (disch := omega) only [go_sem, zi, hp, eP]; (repeat' (first | (refine hK _ ?_; clear hK hkp kp K) | (with_reducible refine And.intro ?_ ?_) | omega))) | ((first | refine aG (fun h => ?_) (fun h => ?_) | refine aD (fun h => ?_) (fun h => ?_) | refine aX (fun h => ?_) (fun h => ?_)) <;> simp only [h]) | refine awp_cond_t rfl ?_ | refine awp_cond_f rfl ?_ | ((refine awp_cond rfl (fun h => ?_) (fun h => ?_) <;> try simp only [ifs] at h) <;> (try (exfalso; omega))) | refine awp_ret ?_))
  refine awp_blk (fx := ⟨[(11, .r (.int .i64 at_)), (10, .p 2 0 0), (9, .r (.int .i64 0)), (8, .r (.slice none 0 0)), (0, .p 0 0 0), (1, .r (.int .i64 i)), (2, .ro t 1 (k.map eByte)), (3, .r (.int .i64 row))], [(0, .box 24 [.s 1 0 ps.length, .r (.int .i64 root)]), (1, .lst 52 5 (ps.map eP)), (2, .box 52 (eP p))], 3⟩) ?_ fun K hcut => ?_
  rotate_left
  · refine awp_loop (fun j : Nat => ⟨[(11, .r (.int .i64 j)), (10, .p 2 0 0), (9, .r (.int .i64 0)), (8, .r (.slice none 0 0)), (0, .p 0 0 0), (1, .r (.int .i64 i)), (2, .ro t 1 (k.map eByte)), (3, .r (.int .i64 row))], [(0, .box 24 [.s 1 0 ps.length, .r (.int .i64 root)]), (1, .lst 52 5 (ps.map eP)), (2, .box 52 (eP p))], 3⟩) (fun j => j ≤ at_) (fun j => at_ - j) 0 ?_ ?_ ?_
    · exact Nat.zero_le _
    · (refine emb [0, 1, 2] ?_ ?_ rfl ?_ ?_ ?_ ?_ <;> simp [okM, okO, lk, ren, renL, renNd, by_, hE, eP] <;> (try omega) <;> (try (intro i hi; first | (rcases i with _ | _ | i; rfl; rfl; (exfalso; omega)) | (rcases i with _ | _ | _ | i; rfl; rfl; rfl; (exfalso; omega)) | (rcases i with _ | _ | _ | _ | i; rfl; rfl; rfl; rfl; (exfalso; omega)) | (rcases i with _ | _ | _ | _ | _ | i; rfl; rfl; rfl; rfl; rfl; (exfalso; omega)) | (rcases i with _ | _ | _ | _ | _ | _ | i; rfl; rfl; rfl; rfl; rfl; rfl; (exfalso; omega)))))
    intro j hj
    by_cases hjl : j < p.keys.length
    · have zj : ((j : Int) < (p.keys.length : Int)) = True := eq_true (by omega)
      obtain ⟨x, hx⟩ : ∃ x, p.keys[j]? = some x := ⟨_, List.getElem?_eq_getElem hjl⟩
      have kb := keyBefore_con E.G t true k x
      by_cases hja : j < at_
      · have hb : Op.bytesLess k x = false := hlo j x hja hx
        rw [hb] at kb
        (repeat' (first | refine awp_seq ?_ | refine awp_block ?_ | refine awp_skip ?_ | refine awp_exit ?_ | ((first | refine rR (fun K kp hK hkp => ?_) | refine rD (id := 19) mixed 8 [0,1,2,3,4,5,6,7] (fun K kp hK hkp => ?_) | refine rD (id := 31) mixed 8 [0,1,2,3,4,5,6,7] (fun K kp hK hkp => ?_) | refine rD (id := 33) mixed 7 [0,1,2,3,4,5,6] (fun K kp hK hkp => ?_) | refine rD (id := 37) mixed 14 [0,1,2,3,4,5,6,7,8,9,10,11,12,13] (fun K kp hK hkp => ?_) | refine rD (id := 42) mixed 7 [0,1,2,3,4,5,6] (fun K kp hK hkp => ?_) | refine rX (id := 43) mixed [] 11 [0,1,2,3,4,5,6,7,8,9,10] (fun K kp hK hkp => ?_) | refine rD (id := 44) mixed 9 [0,1,2,3,4,5,6,7,8] (fun K kp hK hkp => ?_) | refine cR kb ?_ | refine cD kb ?_ | refine cX kb ?_ | refine iG ?_ | refine iD ?_ | refine iX ?_); simp (implicitDefEqProofs := false) (maxSteps := 2000000) (disch := omega) only [go_sem, zj, hx, eP, eKy]; (repeat' (first | (refine hK _ ?_; clear hK hkp kp K) | (with_reducible refine And.intro ?_ ?_) | omega))) | ((first | refine aG (fun h => ?_) (fun h => ?_) | refine aD (fun h => ?_) (fun h => ?_) | refine aX (fun h => ?_) (fun h => ?_)) <;> simp only [h]) | refine awp_cond_t rfl ?_ | refine awp_cond_f rfl ?_ | ((refine awp_cond rfl (fun h => ?_) (fun h => ?_) <;> try simp only [ifs] at h) <;> (try (exfalso; omega))) | refine awp_ret ?_))
        ((first | (refine nextB (j + 1) ?_ ?_ ?_) | (refine nextA (j + 1) ?_ ?_ ?_) | (refine nextE (j + 1) ?_ ?_ ?_)); rotate_left; (· (try dsimp only); (first | omega | (simp only [List.length_drop, List.length_cons, List.length_append]; omega) | (simp; done) | (simp; omega))); (· (refine emb [0, 1, 2] ?_ ?_ rfl ?_ ?_ ?_ ?_ <;> simp [okM, okO, lk, ren, renL, renNd, by_, hE, eP] <;> (try omega) <;> (try (intro i hi; first | (rcases i with _ | _ | i; rfl; rfl; (exfalso; omega)) | (rcases i with _ | _ | _ | i; rfl; rfl; rfl; (exfalso; omega)) | (rcases i with _ | _ | _ | _ | i; rfl; rfl; rfl; rfl; (exfalso; omega)) | (rcases i with _ | _ | _ | _ | _ | i; rfl; rfl; rfl; rfl; rfl; (exfalso; omega)) | (rcases i with _ | _ | _ | _ | _ | _ | i; rfl; rfl; rfl; rfl; rfl; rfl; (exfalso; omega)))))))
        omega
      · obtain rfl : j = at_ := by omega
        have hb : Op.bytesLess k x = true := hhi x hx
        rw [hb] at kb
        (repeat' (first | refine awp_seq ?_ | refine awp_block ?_ | refine awp_skip ?_ | refine awp_exit ?_ | ((first | refine rR (fun K kp hK hkp => ?_) | refine rD (id := 19) mixed 8 [0,1,2,3,4,5,6,7] (fun K kp hK hkp => ?_) | refine rD (id := 31) mixed 8 [0,1,2,3,4,5,6,7] (fun K kp hK hkp => ?_) | refine rD (id := 33) mixed 7 [0,1,2,3,4,5,6] (fun K kp hK hkp => ?_) | refine rD (id := 37) mixed 14 [0,1,2,3,4,5,6,7,8,9,10,11,12,13] (fun K kp hK hkp => ?_) | refine rD (id := 42) mixed 7 [0,1,2,3,4,5,6] (fun K kp hK hkp => ?_) | refine rX (id := 43) mixed [] 11 [0,1,2,3,4,5,6,7,8,9,10] (fun K kp hK hkp => ?_) | refine rD (id := 44) mixed 9 [0,1,2,3,4,5,6,7,8] (fun K kp hK hkp => ?_) | refine cR kb ?_ | refine cD kb ?_ | refine cX kb ?_ | refine iG ?_ | refine iD ?_ | refine iX ?_); simp (implicitDefEqProofs := false) (maxSteps := 2000000) (disch := omega) only [go_sem, zj, hx, eP, eKy]; (repeat' (first | (refine hK _ ?_; clear hK hkp kp K) | (with_reducible refine And.intro ?_ ?_) | omega))) | ((first | refine aG (fun h => ?_) (fun h => ?_) | refine aD (fun h => ?_) (fun h => ?_) | refine aX (fun h => ?_) (fun h => ?_)) <;> simp only [h]) | refine awp_cond_t rfl ?_ | refine awp_cond_f rfl ?_ | ((refine awp_cond rfl (fun h => ?_) (fun h => ?_) <;> try simp only [ifs] at h) <;> (try (exfalso; omega))) | refine awp_ret ?_))
        refine hcut _ ?_
        (refine emb [0, 1, 2] ?_ ?_ rfl ?_ ?_ ?_ ?_ <;> simp [okM, okO, lk, ren, renL, renNd, by_, hE, eP] <;> (try omega) <;> (try (intro i hi; first | (rcases i with _ | _ | i; rfl; rfl; (exfalso; omega)) | (rcases i with _ | _ | _ | i; rfl; rfl; rfl; (exfalso; omega)) | (rcases i with _ | _ | _ | _ | i; rfl; rfl; rfl; rfl; (exfalso; omega)) | (rcases i with _ | _ | _ | _ | _ | i; rfl; rfl; rfl; rfl; rfl; (exfalso; omega)) | (rcases i with _ | _ | _ | _ | _ | _ | i; rfl; rfl; rfl; rfl; rfl; rfl; (exfalso; omega)))))
    · have zj : ((j : Int) < (p.keys.length : Int)) = False := eq_false (by omega)
      obtain rfl : j = at_ := by omega
      (repeat' (first | refine awp_seq ?_ | refine awp_block ?_ | refine awp_skip ?_ | refine awp_exit ?_ | ((first | refine rR (fun K kp hK hkp => ?_) | refine rD (id := 19) mixed 8 [0,1,2,3,4,5,6,7] (fun K kp hK hkp => ?_) | refine rD (id := 31) mixed 8 [0,1,2,3,4,5,6,7] (fun K kp hK hkp => ?_) | refine rD (id := 33) mixed 7 [0,1,2,3,4,5,6] (fun K kp hK hkp => ?_) | refine rD (id := 37) mixed 14 [0,1,2,3,4,5,6,7,8,9,10,11,12,13] (fun K kp hK hkp => ?_) | refine rD (id := 42) mixed 7 [0,1,2,3,4,5,6] (fun K kp hK hkp => ?_) | refine rX (id := 43) mixed [] 11 [0,1,2,3,4,5,6,7,8,9,10] (fun K kp hK hkp => ?_) | refine rD (id := 44) mixed 9 [0,1,2,3,4,5,6,7,8] (fun K kp hK hkp => ?_) | refine iG ?_ | refine iD ?_ | refine iX ?_); simp (implicitDefEqProofs := false) (maxSteps := 2000000) (disch := omega) only [go_sem, zj, eP, eKy]; (repeat' (first | (refine hK _ ?_; clear hK hkp kp K) | (with_reducible refine And.intro ?_ ?_) | omega))) | ((first | refine aG (fun h => ?_) (fun h => ?_) | refine aD (fun h => ?_) (fun h => ?_) | refine aX (fun h => ?_) (fun h => ?_)) <;> simp only [h]) | refine awp_cond_t rfl ?_ | refine awp_cond_f rfl ?_ | ((refine awp_cond rfl (fun h => ?_) (fun h => ?_) <;> try simp only [ifs] at h) <;> (try (exfalso; omega))) | refine awp_ret ?_))
      refine hcut _ ?_
      (refine emb [0, 1, 2] ?_ ?_ rfl ?_ ?_ ?_ ?_ <;> simp [okM, okO, lk, ren, renL, renNd, by_, hE, eP] <;> (try omega) <;> (try (intro i hi; first | (rcases i with _ | _ | i; rfl; rfl; (exfalso; omega)) | (rcases i with _ | _ | _ | i; rfl; rfl; rfl; (exfalso; omega)) | (rcases i with _ | _ | _ | _ | i; rfl; rfl; rfl; rfl; (exfalso; omega)) | (rcases i with _ | _ | _ | _ | _ | i; rfl; rfl; rfl; rfl; rfl; (exfalso; omega)) | (rcases i with _ | _ | _ | _ | _ | _ | i; rfl; rfl; rfl; rfl; rfl; rfl; (exfalso; omega)))))
  refine awp_cut3 (fx := ⟨[(13, .r (.int .i64 kid)), (12, .ro true 1 (up.map eByte)), (11, .r (.int .i64 at_)), (10, .p 2 0 0), (0, .p 0 0 0), (1, .r (.int .i64 i))], [(0, .box 24 [.s 3 0 qs.length, .r (.int .i64 root)]), (3, .lst 52 5 (qs.map eP)), (2, .box 52 (eP p))], 4⟩) ?_ fun K hcut => ?_
  rotate_left
  · have bc := bytesCopy_con E.G t k hk
    rcases IH with ⟨hlf, rfl, rfl, rfl⟩ | ⟨hlf, c, hc, hne, IH⟩
    · (repeat' (first | refine awp_seq ?_ | refine awp_block ?_ | refine awp_skip ?_ | refine awp_exit ?_ | ((first | refine rR (fun K kp hK hkp => ?_) | refine rD (id := 19) mixed 8 [0,1,2,3,4,5,6,7] (fun K kp hK hkp => ?_) | refine rD (id := 31) mixed 8 [0,1,2,3,4,5,6,7] (fun K kp hK hkp => ?_) | refine rD (id := 33) mixed 7 [0,1,2,3,4,5,6] (fun K kp hK hkp => ?_) | refine rD (id := 37) mixed 14 [0,1,2,3,4,5,6,7,8,9,10,11,12,13] (fun K kp hK hkp => ?_) | refine rD (id := 42) mixed 7 [0,1,2,3,4,5,6] (fun K kp hK hkp => ?_) | refine rX (id := 43) mixed [] 11 [0,1,2,3,4,5,6,7,8,9,10] (fun K kp hK hkp => ?_) | refine rD (id := 44) mixed 9 [0,1,2,3,4,5,6,7,8] (fun K kp hK hkp => ?_) | refine cR bc ?_ | refine cD bc ?_ | refine cX bc ?_ | refine iG ?_ | refine iD ?_ | refine iX ?_); simp (implicitDefEqProofs := false) (maxSteps := 2000000) (disch := omega) only [go_sem, hlf, eP]; (repeat' (first | (refine hK _ ?_; clear hK hkp kp K) | (with_reducible refine And.intro ?_ ?_) | omega))) | ((first | refine aG (fun h => ?_) (fun h => ?_) | refine aD (fun h => ?_) (fun h => ?_) | refine aX (fun h => ?_) (fun h => ?_)) <;> simp only [h]) | refine awp_cond_t rfl ?_ | refine awp_cond_f rfl ?_ | ((refine awp_cond rfl (fun h => ?_) (fun h => ?_) <;> try simp only [ifs] at h) <;> (try (exfalso; omega))) | refine awp_ret ?_))
      refine hcut _ ?_
      (refine emb2 [0, 1, 2, 1] ?_ ?_ rfl ?_ ?_ ?_ ?_ <;> simp [injO, okM, okO, lk, ren, renL, renNd, by_, hE, eP, hlf] <;> (try omega) <;> (try (intro i hi; first | (rcases i with _ | _ | i; rfl; rfl; (exfalso; omega)) | (rcases i with _ | _ | _ | i; rfl; rfl; rfl; (exfalso; omega)) | (rcases i with _ | _ | _ | _ | i; rfl; rfl; rfl; rfl; (exfalso; omega)) | (rcases i with _ | _ | _ | _ | _ | i; rfl; rfl; rfl; rfl; rfl; (exfalso; omega)) | (rcases i with _ | _ | _ | _ | _ | _ | i; rfl; rfl; rfl; rfl; rfl; rfl; (exfalso; omega)))))
    · rw [ownI, ownI, insA] at IH
      have zc : ((at_ : Int) < (p.kids.length : Int)) = True := eq_true (by have := (List.getElem?_eq_some_iff.1 hc).1; omega)
      obtain ⟨u, us, rfl⟩ : ∃ u us, up = u :: us := by
        cases up with
        | nil => exact absurd rfl hne
        | cons u us => exact ⟨u, us, rfl⟩
      simp only at IH
      (repeat' (first | refine awp_seq ?_ | refine awp_block ?_ | refine awp_skip ?_ | refine awp_exit ?_ | ((first | refine rR (fun K kp hK hkp => ?_) | refine rD (id := 19) mixed 8 [0,1,2,3,4,5,6,7] (fun K kp hK hkp => ?_) | refine rD (id := 31) mixed 8 [0,1,2,3,4,5,6,7] (fun K kp hK hkp => ?_) | refine rD (id := 33) mixed 7 [0,1,2,3,4,5,6] (fun K kp hK hkp => ?_) | refine rD (id := 37) mixed 14 [0,1,2,3,4,5,6,7,8,9,10,11,12,13] (fun K kp hK hkp => ?_) | refine rD (id := 42) mixed 7 [0,1,2,3,4,5,6] (fun K kp hK hkp => ?_) | refine rX (id := 43) mixed [] 11 [0,1,2,3,4,5,6,7,8,9,10] (fun K kp hK hkp => ?_) | refine rD (id := 44) mixed 9 [0,1,2,3,4,5,6,7,8] (fun K kp hK hkp => ?_) | refine cR bc ?_ | refine cD bc ?_ | refine cX bc ?_ | refine iG ?_ | refine iD ?_ | refine iX ?_); simp (implicitDefEqProofs := false) (maxSteps := 2000000) (disch := omega) only [go_sem, hlf, eP, zc, hc, eI]; (repeat' (first | (refine hK _ ?_; clear hK hkp kp K) | (with_reducible refine And.intro ?_ ?_) | omega))) | ((first | refine aG (fun h => ?_) (fun h => ?_) | refine aD (fun h => ?_) (fun h => ?_) | refine aX (fun h => ?_) (fun h => ?_)) <;> simp only [h]) | refine awp_cond_t rfl ?_ | refine awp_cond_f rfl ?_ | ((refine awp_cond rfl (fun h => ?_) (fun h => ?_) <;> try simp only [ifs] at h) <;> (try (exfalso; omega))) | refine awp_ret ?_))
      (refine callR_own [0, 1] (IH) ?_ ?_ ?_ ?_ ?_ ?_ ?_ ?_ rfl rfl ?_; (· simp [pasL, pas, idx, bor, borL, borC, lk, hlf, renOp]); (· simp [okO, lk, renNd, renL, ren, by_, hlf, renOp]); (· (intro i hi; simp only [List.length_cons, List.length_nil] at hi; repeat' (first | omega | exact ⟨_, rfl⟩ | (rcases i with _ | i)))); (· simp); (· simp); (· simp); (· simp [hlf, renOp]); (· simp [hlf, renOp]); simp only [mapO, fw, rmL, rm, List.map_cons, List.map_nil, List.foldl_cons, List.foldl_nil, List.getElem?_cons_zero, List.getElem?_cons_succ, List.getElem?_nil, List.length_cons, List.length_nil, Nat.zero_add, Nat.sub_self, Nat.add_zero, ↓reduceIte, Nat.reduceEqDiff, reduceCtorEq, Nat.reduceAdd, Nat.reduceSub, List.cons_append, List.nil_append, ren, renL, renNd, hlf, renOp]; simp (implicitDefEqProofs := false) (maxSteps := 2000000) (disch := omega) only [go_sem, hlf, renOp]; (repeat' (first | (refine hK _ ?_; clear hK hkp kp K) | (with_reducible refine And.intro ?_ ?_) | omega)))
      (repeat' (first | refine awp_seq ?_ | refine awp_block ?_ | refine awp_skip ?_ | refine awp_exit ?_ | ((first | refine rR (fun K kp hK hkp => ?_) | refine rD (id := 19) mixed 8 [0,1,2,3,4,5,6,7] (fun K kp hK hkp => ?_) | refine rD (id := 31) mixed 8 [0,1,2,3,4,5,6,7] (fun K kp hK hkp => ?_) | refine rD (id := 33) mixed 7 [0,1,2,3,4,5,6] (fun K kp hK hkp => ?_) | refine rD (id := 37) mixed 14 [0,1,2,3,4,5,6,7,8,9,10,11,12,13] (fun K kp hK hkp => ?_) | refine rD (id := 42) mixed 7 [0,1,2,3,4,5,6] (fun K kp hK hkp => ?_) | refine rX (id := 43) mixed [] 11 [0,1,2,3,4,5,6,7,8,9,10] (fun K kp hK hkp => ?_) | refine rD (id := 44) mixed 9 [0,1,2,3,4,5,6,7,8] (fun K kp hK hkp => ?_) | refine iG ?_ | refine iD ?_ | refine iX ?_); simp (implicitDefEqProofs := false) (maxSteps := 2000000) (disch := omega) only [go_sem, hlf, List.map_cons]; (repeat' (first | (refine hK _ ?_; clear hK hkp kp K) | (with_reducible refine And.intro ?_ ?_) | omega))) | ((first | refine aG (fun h => ?_) (fun h => ?_) | refine aD (fun h => ?_) (fun h => ?_) | refine aX (fun h => ?_) (fun h => ?_)) <;> simp only [h]) | refine awp_cond_t rfl ?_ | refine awp_cond_f rfl ?_ | ((refine awp_cond rfl (fun h => ?_) (fun h => ?_) <;> try simp only [ifs] at h) <;> (try (exfalso; omega))) | refine awp_ret ?_))
      refine hcut _ ?_
      (refine emb [0, 1, 2, 3] ?_ ?_ rfl ?_ ?_ ?_ ?_ <;> simp [okM, okO, lk, ren, renL, renNd, by_, hE, eP, hlf] <;> (try omega) <;> (try (intro i hi; first | (rcases i with _ | _ | i; rfl; rfl; (exfalso; omega)) | (rcases i with _ | _ | _ | i; rfl; rfl; rfl; (exfalso; omega)) | (rcases i with _ | _ | _ | _ | i; rfl; rfl; rfl; rfl; (exfalso; omega)) | (rcases i with _ | _ | _ | _ | _ | i; rfl; rfl; rfl; rfl; rfl; (exfalso; omega)) | (rcases i with _ | _ | _ | _ | _ | _ | i; rfl; rfl; rfl; rfl; rfl; rfl; (exfalso; omega)))))
  clear IH hlo hhi hk hn hp zi hi
  (repeat' (first | refine awp_seq ?_ | refine awp_block ?_ | refine awp_skip ?_ | refine awp_exit ?_ | ((first | refine rR (fun K kp hK hkp => ?_) | refine rD (id := 19) mixed 8 [0,1,2,3,4,5,6,7] (fun K kp hK hkp => ?_) | refine rD (id := 31) mixed 8 [0,1,2,3,4,5,6,7] (fun K kp hK hkp => ?_) | refine rD (id := 33) mixed 7 [0,1,2,3,4,5,6] (fun K kp hK hkp => ?_) | refine rD (id := 37) mixed 14 [0,1,2,3,4,5,6,7,8,9,10,11,12,13] (fun K kp hK hkp => ?_) | refine rD (id := 42) mixed 7 [0,1,2,3,4,5,6] (fun K kp hK hkp => ?_) | refine rX (id := 43) mixed [] 11 [0,1,2,3,4,5,6,7,8,9,10] (fun K kp hK hkp => ?_) | refine rD (id := 44) mixed 9 [0,1,2,3,4,5,6,7,8] (fun K kp hK hkp => ?_) | refine iG ?_ | refine iD ?_ | refine iX ?_); simp (implicitDefEqProofs := false) (maxSteps := 2000000) (disch := omega) only [go_sem, eP]; (repeat' (first | (refine hK _ ?_; clear hK hkp kp K) | (with_reducible refine And.intro ?_ ?_) | omega))) | ((first | refine aG (fun h => ?_) (fun h => ?_) | refine aD (fun h => ?_) (fun h => ?_) | refine aX (fun h => ?_) (fun h => ?_)) <;> simp only [h]) | refine awp_cond_t rfl ?_ | refine awp_cond_f rfl ?_ | ((refine awp_cond rfl (fun h => ?_) (fun h => ?_) <;> try simp only [ifs] at h) <;> (try (exfalso; omega))) | refine awp_ret ?_))
  (refine AWP.emb (emb_nilB 4 1 30 1 rfl rfl (by simp)) ?_; simp only [List.set_cons_zero, List.set_cons_succ, lk, ↓reduceIte, Nat.reduceAdd])
  (refine AWP.emb (emb_nilB 4 2 3 1 rfl rfl (by simp)) ?_; simp only [List.set_cons_zero, List.set_cons_succ, lk, ↓reduceIte, Nat.reduceAdd])
  refine awp_blk (fx := ⟨[(16, .p 4 0 0), (13, .r (.int .i64 kid)), (12, .ro true 1 (up.map eByte)), (11, .r (.int .i64 at_)), (10, .p 2 0 0), (0, .p 0 0 0), (1, .r (.int .i64 i))], [(0, .box 24 [.s 3 0 qs.length, .r (.int .i64 root)]), (3, .lst 52 5 (qs.map eP)), (2, .box 52 (eP p)), (4, .box 52 [.r (.bool p.leaf), .s 5 0 (insT p.keys at_ up p.keys.length).length, .s 6 0 0, .ro true 1 (p.high.map eByte), .r (.int .i64 p.next)]), (5, .lst 30 1 ((insT p.keys at_ up p.keys.length).map eKy)), (6, .lst 3 1 [])], 7⟩) ?_ fun K hcut => ?_
  rotate_left
  · refine awp_loop (fun n : Nat => ⟨[(17, .r (.int .i64 n)), (16, .p 4 0 0), (13, .r (.int .i64 kid)), (12, .ro true 1 (up.map eByte)), (11, .r (.int .i64 at_)), (10, .p 2 0 0), (0, .p 0 0 0), (1, .r (.int .i64 i))], [(0, .box 24 [.s 3 0 qs.length, .r (.int .i64 root)]), (3, .lst 52 5 (qs.map eP)), (2, .box 52 (eP p)), (4, .box 52 [.r (.bool p.leaf), .s 5 0 (insT p.keys at_ up n).length, .s 6 0 0, .ro true 1 (p.high.map eByte), .r (.int .i64 p.next)]), (5, .lst 30 1 ((insT p.keys at_ up n).map eKy)), (6, .lst 3 1 [])], 7⟩) (fun n => n ≤ p.keys.length) (fun n => p.keys.length - n) 0 ?_ ?_ ?_
    · exact Nat.zero_le _
    · (refine emb [0, 1, 2, 3, 4, 5, 6] ?_ ?_ rfl ?_ ?_ ?_ ?_ <;> simp [okM, okO, lk, ren, renL, renNd, by_, hE, eP, insT_zero] <;> (try omega) <;> (try (intro i hi; first | (rcases i with _ | _ | i; rfl; rfl; (exfalso; omega)) | (rcases i with _ | _ | _ | i; rfl; rfl; rfl; (exfalso; omega)) | (rcases i with _ | _ | _ | _ | i; rfl; rfl; rfl; rfl; (exfalso; omega)) | (rcases i with _ | _ | _ | _ | _ | i; rfl; rfl; rfl; rfl; rfl; (exfalso; omega)) | (rcases i with _ | _ | _ | _ | _ | _ | i; rfl; rfl; rfl; rfl; rfl; rfl; (exfalso; omega)))))
    intro n hn
    have hnl := insT_len (i := at_) (x := up) hn
    have hnl2 : (insT p.keys at_ up n).length ≤ 100 := by rw [hnl]; split <;> omega
    by_cases hnk : n < p.keys.length
    · have zn : ((n : Int) < (p.keys.length : Int)) = True := eq_true (by omega)
      obtain ⟨y, hy⟩ : ∃ y, p.keys[n]? = some y := ⟨_, List.getElem?_eq_getElem hnk⟩
      by_cases hna : n = at_
      · subst hna
        have hT := insT_at (x := up) hy
        (repeat' (first | refine awp_seq ?_ | refine awp_block ?_ | refine awp_skip ?_ | refine awp_exit ?_ | ((first | refine rR (fun K kp hK hkp => ?_) | refine rX (id := 19) mixed [8] 9 [0,1,2,3,4,5,6,7,8] (fun K kp hK hkp => ?_) | refine rD (id := 31) mixed 8 [0,1,2,3,4,5,6,7] (fun K kp hK hkp => ?_) | refine rD (id := 33) mixed 7 [0,1,2,3,4,5,6] (fun K kp hK hkp => ?_) | refine rD (id := 37) mixed 14 [0,1,2,3,4,5,6,7,8,9,10,11,12,13] (fun K kp hK hkp => ?_) | refine rD (id := 42) mixed 7 [0,1,2,3,4,5,6] (fun K kp hK hkp => ?_) | refine rX (id := 43) mixed [] 11 [0,1,2,3,4,5,6,7,8,9,10] (fun K kp hK hkp => ?_) | refine rD (id := 44) mixed 9 [0,1,2,3,4,5,6,7,8] (fun K kp hK hkp => ?_) | refine iG ?_ | refine iD ?_ | refine iX ?_); simp (implicitDefEqProofs := false) (maxSteps := 2000000) (disch := omega) only [go_sem, zn, hy, eP, eKy, beq_self_eq_true, List.length_append, List.length_cons, List.length_nil, Nat.zero_add, Value.oneCell']; (repeat' (first | (refine hK _ ?_; clear hK hkp kp K) | (with_reducible refine And.intro ?_ ?_) | omega))) | ((first | refine aG (fun h => ?_) (fun h => ?_) | refine aD (fun h => ?_) (fun h => ?_) | refine aX (fun h => ?_) (fun h => ?_)) <;> simp only [h]) | refine awp_cond_t rfl ?_ | refine awp_cond_f rfl ?_ | ((refine awp_cond rfl (fun h => ?_) (fun h => ?_) <;> try simp only [ifs] at h) <;> (try (exfalso; omega))) | refine awp_ret ?_))
        ((first | (refine nextB (n + 1) ?_ ?_ ?_) | (refine nextA (n + 1) ?_ ?_ ?_) | (refine nextE (n + 1) ?_ ?_ ?_)); rotate_left; (· (try dsimp only); (first | omega | (simp only [List.length_drop, List.length_cons, List.length_append]; omega) | (simp; done) | (simp; omega))); (· (refine emb [0, 1, 2, 3, 4, 10, 6] ?_ ?_ rfl ?_ ?_ ?_ ?_ <;> simp [okM, okO, lk, ren, renL, renNd, by_, hE, eP, hT, eKy] <;> (try omega) <;> (try (intro i hi; first | (rcases i with _ | _ | i; rfl; rfl; (exfalso; omega)) | (rcases i with _ | _ | _ | i; rfl; rfl; rfl; (exfalso; omega)) | (rcases i with _ | _ | _ | _ | i; rfl; rfl; rfl; rfl; (exfalso; omega)) | (rcases i with _ | _ | _ | _ | _ | i; rfl; rfl; rfl; rfl; rfl; (exfalso; omega)) | (rcases i with _ | _ | _ | _ | _ | _ | i; rfl; rfl; rfl; rfl; rfl; rfl; (exfalso; omega)))))))
        omega
      · have zb : ((n : Int) == (at_ : Int)) = false := by rw [beq_eq_false_iff_ne]; omega
        have hT := insT_ne (x := up) hna hy
        (repeat' (first | refine awp_seq ?_ | refine awp_block ?_ | refine awp_skip ?_ | refine awp_exit ?_ | ((first | refine rR (fun K kp hK hkp => ?_) | refine rX (id := 19) mixed [5] 9 [0,1,2,3,4,5,6,7,8] (fun K kp hK hkp => ?_) | refine rD (id := 31) mixed 8 [0,1,2,3,4,5,6,7] (fun K kp hK hkp => ?_) | refine rD (id := 33) mixed 7 [0,1,2,3,4,5,6] (fun K kp hK hkp => ?_) | refine rD (id := 37) mixed 14 [0,1,2,3,4,5,6,7,8,9,10,11,12,13] (fun K kp hK hkp => ?_) | refine rD (id := 42) mixed 7 [0,1,2,3,4,5,6] (fun K kp hK hkp => ?_) | refine rX (id := 43) mixed [] 11 [0,1,2,3,4,5,6,7,8,9,10] (fun K kp hK hkp => ?_) | refine rD (id := 44) mixed 9 [0,1,2,3,4,5,6,7,8] (fun K kp hK hkp => ?_) | refine iG ?_ | refine iD ?_ | refine iX ?_); simp (implicitDefEqProofs := false) (maxSteps := 2000000) (disch := omega) only [go_sem, zn, hy, eP, eKy, zb, Value.oneCell']; (repeat' (first | (refine hK _ ?_; clear hK hkp kp K) | (with_reducible refine And.intro ?_ ?_) | omega))) | ((first | refine aG (fun h => ?_) (fun h => ?_) | refine aD (fun h => ?_) (fun h => ?_) | refine aX (fun h => ?_) (fun h => ?_)) <;> simp only [h]) | refine awp_cond_t rfl ?_ | refine awp_cond_f rfl ?_ | ((refine awp_cond rfl (fun h => ?_) (fun h => ?_) <;> try simp only [ifs] at h) <;> (try (exfalso; omega))) | refine awp_ret ?_))
        ((first | (refine nextB (n + 1) ?_ ?_ ?_) | (refine nextA (n + 1) ?_ ?_ ?_) | (refine nextE (n + 1) ?_ ?_ ?_)); rotate_left; (· (try dsimp only); (first | omega | (simp only [List.length_drop, List.length_cons, List.length_append]; omega) | (simp; done) | (simp; omega))); (· (refine emb [0, 1, 2, 3, 4, 8, 6] ?_ ?_ rfl ?_ ?_ ?_ ?_ <;> simp [okM, okO, lk, ren, renL, renNd, by_, hE, eP, hT, eKy] <;> (try omega) <;> (try (intro i hi; first | (rcases i with _ | _ | i; rfl; rfl; (exfalso; omega)) | (rcases i with _ | _ | _ | i; rfl; rfl; rfl; (exfalso; omega)) | (rcases i with _ | _ | _ | _ | i; rfl; rfl; rfl; rfl; (exfalso; omega)) | (rcases i with _ | _ | _ | _ | _ | i; rfl; rfl; rfl; rfl; rfl; (exfalso; omega)) | (rcases i with _ | _ | _ | _ | _ | _ | i; rfl; rfl; rfl; rfl; rfl; rfl; (exfalso; omega)))))))
        omega
    · have zn : ((n : Int) < (p.keys.length : Int)) = False := eq_false (by omega)
      obtain rfl : n = p.keys.length := by omega
      (repeat' (first | refine awp_seq ?_ | refine awp_block ?_ | refine awp_skip ?_ | refine awp_exit ?_ | ((first | refine rR (fun K kp hK hkp => ?_) | refine rD (id := 19) mixed 8 [0,1,2,3,4,5,6,7] (fun K kp hK hkp => ?_) | refine rD (id := 31) mixed 8 [0,1,2,3,4,5,6,7] (fun K kp hK hkp => ?_) | refine rD (id := 33) mixed 7 [0,1,2,3,4,5,6] (fun K kp hK hkp => ?_) | refine rD (id := 37) mixed 14 [0,1,2,3,4,5,6,7,8,9,10,11,12,13] (fun K kp hK hkp => ?_) | refine rD (id := 42) mixed 7 [0,1,2,3,4,5,6] (fun K kp hK hkp => ?_) | refine rX (id := 43) mixed [] 11 [0,1,2,3,4,5,6,7,8,9,10] (fun K kp hK hkp => ?_) | refine rD (id := 44) mixed 9 [0,1,2,3,4,5,6,7,8] (fun K kp hK hkp => ?_) | refine iG ?_ | refine iD ?_ | refine iX ?_); simp (implicitDefEqProofs := false) (maxSteps := 2000000) (disch := omega) only [go_sem, zn, eP, eKy]; (repeat' (first | (refine hK _ ?_; clear hK hkp kp K) | (with_reducible refine And.intro ?_ ?_) | omega))) | ((first | refine aG (fun h => ?_) (fun h => ?_) | refine aD (fun h => ?_) (fun h => ?_) | refine aX (fun h => ?_) (fun h => ?_)) <;> simp only [h]) | refine awp_cond_t rfl ?_ | refine awp_cond_f rfl ?_ | ((refine awp_cond rfl (fun h => ?_) (fun h => ?_) <;> try simp only [ifs] at h) <;> (try (exfalso; omega))) | refine awp_ret ?_))
      refine hcut _ ?_
      (refine emb [0, 1, 2, 3, 4, 5, 6] ?_ ?_ rfl ?_ ?_ ?_ ?_ <;> simp [okM, okO, lk, ren, renL, renNd, by_, hE, eP] <;> (try omega) <;> (try (intro i hi; first | (rcases i with _ | _ | i; rfl; rfl; (exfalso; omega)) | (rcases i with _ | _ | _ | i; rfl; rfl; rfl; (exfalso; omega)) | (rcases i with _ | _ | _ | _ | i; rfl; rfl; rfl; rfl; (exfalso; omega)) | (rcases i with _ | _ | _ | _ | _ | i; rfl; rfl; rfl; rfl; rfl; (exfalso; omega)) | (rcases i with _ | _ | _ | _ | _ | _ | i; rfl; rfl; rfl; rfl; rfl; rfl; (exfalso; omega)))))
  obtain ⟨q, hqd⟩ : ∃ q, rowX p at_ up kid = q := ⟨_, rfl⟩
  obtain ⟨a2, ha2⟩ : ∃ a2, (if p.leaf then at_ else at_ + 1) = a2 := ⟨_, rfl⟩
  have q1 : insX p.keys at_ up = q.keys := by rw [← hqd]; rfl
  have q2 : insX p.kids a2 kid = q.kids := by rw [← hqd, ← ha2]; rfl
  have ha2l : a2 ≤ p.kids.length := by rw [← ha2, hkl]; split <;> omega
  have ql : q.keys.length = p.keys.length + 1 := by rw [← q1, insX_len _ hat]
  have qk : q.kids.length = p.kids.length + 1 := by rw [← q2, insX_len _ ha2l]
  rw [hqd]
  refine awp_cut3 (fx := ⟨[(18, .r (.int .i64 a2)), (16, .p 4 0 0), (13, .r (.int .i64 kid)), (10, .p 2 0 0), (0, .p 0 0 0), (1, .r (.int .i64 i))], [(0, .box 24 [.s 3 0 qs.length, .r (.int .i64 root)]), (3, .lst 52 5 (qs.map eP)), (2, .box 52 (eP p)), (4, .box 52 [.r (.bool p.leaf), .s 5 0 q.keys.length, .s 6 0 0, .ro true 1 (p.high.map eByte), .r (.int .i64 p.next)]), (5, .lst 30 1 (q.keys.map eKy)), (6, .lst 3 1 [])], 7⟩) ?_ fun K hcut => ?_
  rotate_left
  · have htl : (insT p.keys at_ up p.keys.length).length ≤ 100 := by rw [insT_len (Nat.le_refl _)]; split <;> omega
    have e4 : (at_ : Int) + 1 = ((at_ + 1 : Nat) : Int) := by omega
    by_cases hae : at_ = p.keys.length
    · have zb : ((at_ : Int) == (p.keys.length : Int)) = true := by rw [hae]; exact beq_self_eq_true _
      have hIns : insT p.keys at_ up p.keys.length ++ [up] = q.keys := by rw [← q1, hae]; exact insT_last _ _
      have hEm : (insT p.keys at_ up p.keys.length).map eKy ++ [[AV.ro true 1 (up.map eByte)]] = q.keys.map eKy := by rw [← hIns, List.map_append]; rfl
      have hEl : (insT p.keys at_ up p.keys.length).length + 1 = q.keys.length := by rw [← hIns]; simp
      cases hlf : p.leaf
      · obtain rfl : at_ + 1 = a2 := by rw [← ha2, hlf]; rfl
        rw [hlf] at hcut
        (repeat' (first | refine awp_seq ?_ | refine awp_block ?_ | refine awp_skip ?_ | refine awp_exit ?_ | ((first | refine rR (fun K kp hK hkp => ?_) | refine rD (id := 19) mixed 8 [0,1,2,3,4,5,6,7] (fun K kp hK hkp => ?_) | refine rD (id := 31) mixed 8 [0,1,2,3,4,5,6,7] (fun K kp hK hkp => ?_) | refine rD (id := 33) mixed 7 [0,1,2,3,4,5,6] (fun K kp hK hkp => ?_) | refine rD (id := 37) mixed 14 [0,1,2,3,4,5,6,7,8,9,10,11,12,13] (fun K kp hK hkp => ?_) | refine rD (id := 42) mixed 7 [0,1,2,3,4,5,6] (fun K kp hK hkp => ?_) | refine rX (id := 43) mixed [] 11 [0,1,2,3,4,5,6,7,8,9,10] (fun K kp hK hkp => ?_) | refine rD (id := 44) mixed 9 [0,1,2,3,4,5,6,7,8] (fun K kp hK hkp => ?_) | refine iG ?_ | refine iD ?_ | refine iX ?_); simp (implicitDefEqProofs := false) (maxSteps := 2000000) (disch := omega) only [go_sem, zb, eP, hlf, Value.oneCell', e4]; (repeat' (first | (refine hK _ ?_; clear hK hkp kp K) | (with_reducible refine And.intro ?_ ?_) | omega))) | ((first | refine aG (fun h => ?_) (fun h => ?_) | refine aD (fun h => ?_) (fun h => ?_) | refine aX (fun h => ?_) (fun h => ?_)) <;> simp only [h]) | refine awp_cond_t rfl ?_ | refine awp_cond_f rfl ?_ | ((refine awp_cond rfl (fun h => ?_) (fun h => ?_) <;> try simp only [ifs] at h) <;> (try (exfalso; omega))) | refine awp_ret ?_))
        refine hcut _ ?_
        (refine emb [0, 1, 2, 3, 4, 8, 6] ?_ ?_ rfl ?_ ?_ ?_ ?_ <;> simp [okM, okO, lk, ren, renL, renNd, by_, hE, eP, hlf, hEm, hEl] <;> (try omega) <;> (try (intro i hi; first | (rcases i with _ | _ | i; rfl; rfl; (exfalso; omega)) | (rcases i with _ | _ | _ | i; rfl; rfl; rfl; (exfalso; omega)) | (rcases i with _ | _ | _ | _ | i; rfl; rfl; rfl; rfl; (exfalso; omega)) | (rcases i with _ | _ | _ | _ | _ | i; rfl; rfl; rfl; rfl; rfl; (exfalso; omega)) | (rcases i with _ | _ | _ | _ | _ | _ | i; rfl; rfl; rfl; rfl; rfl; rfl; (exfalso; omega)))))
      · obtain rfl : at_ = a2 := by rw [← ha2, hlf]; rfl
        rw [hlf] at hcut
        (repeat' (first | refine awp_seq ?_ | refine awp_block ?_ | refine awp_skip ?_ | refine awp_exit ?_ | ((first | refine rR (fun K kp hK hkp => ?_) | refine rD (id := 19) mixed 8 [0,1,2,3,4,5,6,7] (fun K kp hK hkp => ?_) | refine rD (id := 31) mixed 8 [0,1,2,3,4,5,6,7] (fun K kp hK hkp => ?_) | refine rD (id := 33) mixed 7 [0,1,2,3,4,5,6] (fun K kp hK hkp => ?_) | refine rD (id := 37) mixed 14 [0,1,2,3,4,5,6,7,8,9,10,11,12,13] (fun K kp hK hkp => ?_) | refine rD (id := 42) mixed 7 [0,1,2,3,4,5,6] (fun K kp hK hkp => ?_) | refine rX (id := 43) mixed [] 11 [0,1,2,3,4,5,6,7,8,9,10] (fun K kp hK hkp => ?_) | refine rD (id := 44) mixed 9 [0,1,2,3,4,5,6,7,8] (fun K kp hK hkp => ?_) | refine iG ?_ | refine iD ?_ | refine iX ?_); simp (implicitDefEqProofs := false) (maxSteps := 2000000) (disch := omega) only [go_sem, zb, eP, hlf, Value.oneCell']; (repeat' (first | (refine hK _ ?_; clear hK hkp kp K) | (with_reducible refine And.intro ?_ ?_) | omega))) | ((first | refine aG (fun h => ?_) (fun h => ?_) | refine aD (fun h => ?_) (fun h => ?_) | refine aX (fun h => ?_) (fun h => ?_)) <;> simp only [h]) | refine awp_cond_t rfl ?_ | refine awp_cond_f rfl ?_ | ((refine awp_cond rfl (fun h => ?_) (fun h => ?_) <;> try simp only [ifs] at h) <;> (try (exfalso; omega))) | refine awp_ret ?_))
        refine hcut _ ?_
        (refine emb [0, 1, 2, 3, 4, 8, 6] ?_ ?_ rfl ?_ ?_ ?_ ?_ <;> simp [okM, okO, lk, ren, renL, renNd, by_, hE, eP, hlf, hEm, hEl] <;> (try omega) <;> (try (intro i hi; first | (rcases i with _ | _ | i; rfl; rfl; (exfalso; omega)) | (rcases i with _ | _ | _ | i; rfl; rfl; rfl; (exfalso; omega)) | (rcases i with _ | _ | _ | _ | i; rfl; rfl; rfl; rfl; (exfalso; omega)) | (rcases i with _ | _ | _ | _ | _ | i; rfl; rfl; rfl; rfl; rfl; (exfalso; omega)) | (rcases i with _ | _ | _ | _ | _ | _ | i; rfl; rfl; rfl; rfl; rfl; rfl; (exfalso; omega)))))
    · have zb : ((at_ : Int) == (p.keys.length : Int)) = false := by rw [beq_eq_false_iff_ne]; omega
      have hIns : insT p.keys at_ up p.keys.length = q.keys := by rw [← q1]; exact insT_end (by omega)
      rw [hIns]
      cases hlf : p.leaf
      · obtain rfl : at_ + 1 = a2 := by rw [← ha2, hlf]; rfl
        rw [hlf] at hcut
        (repeat' (first | refine awp_seq ?_ | refine awp_block ?_ | refine awp_skip ?_ | refine awp_exit ?_ | ((first | refine rR (fun K kp hK hkp => ?_) | refine rD (id := 19) mixed 8 [0,1,2,3,4,5,6,7] (fun K kp hK hkp => ?_) | refine rD (id := 31) mixed 8 [0,1,2,3,4,5,6,7] (fun K kp hK hkp => ?_) | refine rD (id := 33) mixed 7 [0,1,2,3,4,5,6] (fun K kp hK hkp => ?_) | refine rD (id := 37) mixed 14 [0,1,2,3,4,5,6,7,8,9,10,11,12,13] (fun K kp hK hkp => ?_) | refine rD (id := 42) mixed 7 [0,1,2,3,4,5,6] (fun K kp hK hkp => ?_) | refine rX (id := 43) mixed [] 11 [0,1,2,3,4,5,6,7,8,9,10] (fun K kp hK hkp => ?_) | refine rD (id := 44) mixed 9 [0,1,2,3,4,5,6,7,8] (fun K kp hK hkp => ?_) | refine iG ?_ | refine iD ?_ | refine iX ?_); simp (implicitDefEqProofs := false) (maxSteps := 2000000) (disch := omega) only [go_sem, zb, eP, hlf, e4]; (repeat' (first | (refine hK _ ?_; clear hK hkp kp K) | (with_reducible refine And.intro ?_ ?_) | omega))) | ((first | refine aG (fun h => ?_) (fun h => ?_) | refine aD (fun h => ?_) (fun h => ?_) | refine aX (fun h => ?_) (fun h => ?_)) <;> simp only [h]) | refine awp_cond_t rfl ?_ | refine awp_cond_f rfl ?_ | ((refine awp_cond rfl (fun h => ?_) (fun h => ?_) <;> try simp only [ifs] at h) <;> (try (exfalso; omega))) | refine awp_ret ?_))
        refine hcut _ ?_
        (refine emb [0, 1, 2, 3, 4, 5, 6] ?_ ?_ rfl ?_ ?_ ?_ ?_ <;> simp [okM, okO, lk, ren, renL, renNd, by_, hE, eP, hlf] <;> (try omega) <;> (try (intro i hi; first | (rcases i with _ | _ | i; rfl; rfl; (exfalso; omega)) | (rcases i with _ | _ | _ | i; rfl; rfl; rfl; (exfalso; omega)) | (rcases i with _ | _ | _ | _ | i; rfl; rfl; rfl; rfl; (exfalso; omega)) | (rcases i with _ | _ | _ | _ | _ | i; rfl; rfl; rfl; rfl; rfl; (exfalso; omega)) | (rcases i with _ | _ | _ | _ | _ | _ | i; rfl; rfl; rfl; rfl; rfl; rfl; (exfalso; omega)))))
      · obtain rfl : at_ = a2 := by rw [← ha2, hlf]; rfl
        rw [hlf] at hcut
        (repeat' (first | refine awp_seq ?_ | refine awp_block ?_ | refine awp_skip ?_ | refine awp_exit ?_ | ((first | refine rR (fun K kp hK hkp => ?_) | refine rD (id := 19) mixed 8 [0,1,2,3,4,5,6,7] (fun K kp hK hkp => ?_) | refine rD (id := 31) mixed 8 [0,1,2,3,4,5,6,7] (fun K kp hK hkp => ?_) | refine rD (id := 33) mixed 7 [0,1,2,3,4,5,6] (fun K kp hK hkp => ?_) | refine rD (id := 37) mixed 14 [0,1,2,3,4,5,6,7,8,9,10,11,12,13] (fun K kp hK hkp => ?_) | refine rD (id := 42) mixed 7 [0,1,2,3,4,5,6] (fun K kp hK hkp => ?_) | refine rX (id := 43) mixed [] 11 [0,1,2,3,4,5,6,7,8,9,10] (fun K kp hK hkp => ?_) | refine rD (id := 44) mixed 9 [0,1,2,3,4,5,6,7,8] (fun K kp hK hkp => ?_) | refine iG ?_ | refine iD ?_ | refine iX ?_); simp (implicitDefEqProofs := false) (maxSteps := 2000000) (disch := omega) only [go_sem, zb, eP, hlf]; (repeat' (first | (refine hK _ ?_; clear hK hkp kp K) | (with_reducible refine And.intro ?_ ?_) | omega))) | ((first | refine aG (fun h => ?_) (fun h => ?_) | refine aD (fun h => ?_) (fun h => ?_) | refine aX (fun h => ?_) (fun h => ?_)) <;> simp only [h]) | refine awp_cond_t rfl ?_ | refine awp_cond_f rfl ?_ | ((refine awp_cond rfl (fun h => ?_) (fun h => ?_) <;> try simp only [ifs] at h) <;> (try (exfalso; omega))) | refine awp_ret ?_))
        refine hcut _ ?_
        (refine emb [0, 1, 2, 3, 4, 5, 6] ?_ ?_ rfl ?_ ?_ ?_ ?_ <;> simp [okM, okO, lk, ren, renL, renNd, by_, hE, eP, hlf] <;> (try omega) <;> (try (intro i hi; first | (rcases i with _ | _ | i; rfl; rfl; (exfalso; omega)) | (rcases i with _ | _ | _ | i; rfl; rfl; rfl; (exfalso; omega)) | (rcases i with _ | _ | _ | _ | i; rfl; rfl; rfl; rfl; (exfalso; omega)) | (rcases i with _ | _ | _ | _ | _ | i; rfl; rfl; rfl; rfl; rfl; (exfalso; omega)) | (rcases i with _ | _ | _ | _ | _ | _ | i; rfl; rfl; rfl; rfl; rfl; rfl; (exfalso; omega)))))
  have q3 : p.leaf = q.leaf := by rw [← hqd]; rfl
  have q4 : p.high = q.high := by rw [← hqd]; rfl
  have q5 : p.next = q.next := by rw [← hqd]; rfl
  clear q1 ha2 hat
  (repeat' (first | refine awp_seq ?_ | refine awp_block ?_ | refine awp_skip ?_ | refine awp_exit ?_ | ((first | refine rR (fun K kp hK hkp => ?_) | refine rD (id := 19) mixed 8 [0,1,2,3,4,5,6,7] (fun K kp hK hkp => ?_) | refine rD (id := 31) mixed 8 [0,1,2,3,4,5,6,7] (fun K kp hK hkp => ?_) | refine rD (id := 33) mixed 7 [0,1,2,3,4,5,6] (fun K kp hK hkp => ?_) | refine rD (id := 37) mixed 14 [0,1,2,3,4,5,6,7,8,9,10,11,12,13] (fun K kp hK hkp => ?_) | refine rD (id := 42) mixed 7 [0,1,2,3,4,5,6] (fun K kp hK hkp => ?_) | refine rX (id := 43) mixed [] 11 [0,1,2,3,4,5,6,7,8,9,10] (fun K kp hK hkp => ?_) | refine rD (id := 44) mixed 9 [0,1,2,3,4,5,6,7,8] (fun K kp hK hkp => ?_) | refine iG ?_ | refine iD ?_ | refine iX ?_); simp (implicitDefEqProofs := false) (maxSteps := 2000000) (disch := omega) only [go_sem]; (repeat' (first | (refine hK _ ?_; clear hK hkp kp K) | (with_reducible refine And.intro ?_ ?_) | omega))) | ((first | refine aG (fun h => ?_) (fun h => ?_) | refine aD (fun h => ?_) (fun h => ?_) | refine aX (fun h => ?_) (fun h => ?_)) <;> simp only [h]) | refine awp_cond_t rfl ?_ | refine awp_cond_f rfl ?_ | ((refine awp_cond rfl (fun h => ?_) (fun h => ?_) <;> try simp only [ifs] at h) <;> (try (exfalso; omega))) | refine awp_ret ?_))
  refine awp_blk (fx := ⟨[(16, .p 4 0 0), (10, .p 2 0 0), (0, .p 0 0 0), (1, .r (.int .i64 i))], [(0, .box 24 [.s 3 0 qs.length, .r (.int .i64 root)]), (3, .lst 52 5 (qs.map eP)), (2, .box 52 (eP p)), (4, .box 52 (eP q))], 5⟩) ?_ fun K hcut => ?_
  rotate_left
  · refine awp_loop (fun n : Nat => ⟨[(19, .r (.int .i64 n)), (18, .r (.int .i64 a2)), (16, .p 4 0 0), (13, .r (.int .i64 kid)), (10, .p 2 0 0), (0, .p 0 0 0), (1, .r (.int .i64 i))], [(0, .box 24 [.s 3 0 qs.length, .r (.int .i64 root)]), (3, .lst 52 5 (qs.map eP)), (2, .box 52 (eP p)), (4, .box 52 [.r (.bool p.leaf), .s 5 0 q.keys.length, .s 6 0 (insT p.kids a2 kid n).length, .ro true 1 (p.high.map eByte), .r (.int .i64 p.next)]), (5, .lst 30 1 (q.keys.map eKy)), (6, .lst 3 1 ((insT p.kids a2 kid n).map eI))], 7⟩) (fun n => n ≤ p.kids.length + 1) (fun n => p.kids.length + 1 - n) 0 ?_ ?_ ?_
    · exact Nat.zero_le _
    · (refine emb [0, 1, 2, 3, 4, 5, 6] ?_ ?_ rfl ?_ ?_ ?_ ?_ <;> simp [okM, okO, lk, ren, renL, renNd, by_, hE, eP, insT_zero] <;> (try omega) <;> (try (intro i hi; first | (rcases i with _ | _ | i; rfl; rfl; (exfalso; omega)) | (rcases i with _ | _ | _ | i; rfl; rfl; rfl; (exfalso; omega)) | (rcases i with _ | _ | _ | _ | i; rfl; rfl; rfl; rfl; (exfalso; omega)) | (rcases i with _ | _ | _ | _ | _ | i; rfl; rfl; rfl; rfl; rfl; (exfalso; omega)) | (rcases i with _ | _ | _ | _ | _ | _ | i; rfl; rfl; rfl; rfl; rfl; rfl; (exfalso; omega)))))
    intro n hn
    by_cases hnk : n < p.kids.length
    · have hkl6 : p.kids.length ≤ 5 := by rw [hkl]; split <;> omega
      have hnl := insT_len (i := a2) (x := kid) (Nat.le_of_lt hnk)
      have hnl2 : (insT p.kids a2 kid n).length ≤ 100 := by rw [hnl]; split <;> omega
      have zn : ((n : Int) < (p.kids.length : Int)) = True := eq_true (by omega)
      have zm : ((n : Int) ≤ (p.kids.length : Int)) = True := eq_true (by omega)
      obtain ⟨y, hy⟩ : ∃ y, p.kids[n]? = some y := ⟨_, List.getElem?_eq_getElem hnk⟩
      by_cases hna : n = a2
      · subst hna
        have hT := insT_at (x := kid) hy
        (repeat' (first | refine awp_seq ?_ | refine awp_block ?_ | refine awp_skip ?_ | refine awp_exit ?_ | ((first | refine rR (fun K kp hK hkp => ?_) | refine rD (id := 19) mixed 8 [0,1,2,3,4,5,6,7] (fun K kp hK hkp => ?_) | refine rX (id := 31) mixed [8] 9 [0,1,2,3,4,5,6,7,8] (fun K kp hK hkp => ?_) | refine rD (id := 33) mixed 7 [0,1,2,3,4,5,6] (fun K kp hK hkp => ?_) | refine rD (id := 37) mixed 14 [0,1,2,3,4,5,6,7,8,9,10,11,12,13] (fun K kp hK hkp => ?_) | refine rD (id := 42) mixed 7 [0,1,2,3,4,5,6] (fun K kp hK hkp => ?_) | refine rX (id := 43) mixed [] 11 [0,1,2,3,4,5,6,7,8,9,10] (fun K kp hK hkp => ?_) | refine rD (id := 44) mixed 9 [0,1,2,3,4,5,6,7,8] (fun K kp hK hkp => ?_) | refine iG ?_ | refine iD ?_ | refine iX ?_); simp (implicitDefEqProofs := false) (maxSteps := 2000000) (disch := omega) only [go_sem, zn, zm, hy, eP, eI, beq_self_eq_true, List.length_append, List.length_cons, List.length_nil, Nat.zero_add, Value.oneCell']; (repeat' (first | (refine hK _ ?_; clear hK hkp kp K) | (with_reducible refine And.intro ?_ ?_) | omega))) | ((first | refine aG (fun h => ?_) (fun h => ?_) | refine aD (fun h => ?_) (fun h => ?_) | refine aX (fun h => ?_) (fun h => ?_)) <;> simp only [h]) | refine awp_cond_t rfl ?_ | refine awp_cond_f rfl ?_ | ((refine awp_cond rfl (fun h => ?_) (fun h => ?_) <;> try simp only [ifs] at h) <;> (try (exfalso; omega))) | refine awp_ret ?_))
        ((first | (refine nextB (n + 1) ?_ ?_ ?_) | (refine nextA (n + 1) ?_ ?_ ?_) | (refine nextE (n + 1) ?_ ?_ ?_)); rotate_left; (· (try dsimp only); (first | omega | (simp only [List.length_drop, List.length_cons, List.length_append]; omega) | (simp; done) | (simp; omega))); (· (refine emb [0, 1, 2, 3, 4, 5, 10] ?_ ?_ rfl ?_ ?_ ?_ ?_ <;> simp [okM, okO, lk, ren, renL, renNd, by_, hE, eP, hT, eI] <;> (try omega) <;> (try (intro i hi; first | (rcases i with _ | _ | i; rfl; rfl; (exfalso; omega)) | (rcases i with _ | _ | _ | i; rfl; rfl; rfl; (exfalso; omega)) | (rcases i with _ | _ | _ | _ | i; rfl; rfl; rfl; rfl; (exfalso; omega)) | (rcases i with _ | _ | _ | _ | _ | i; rfl; rfl; rfl; rfl; rfl; (exfalso; omega)) | (rcases i with _ | _ | _ | _ | _ | _ | i; rfl; rfl; rfl; rfl; rfl; rfl; (exfalso; omega)))))))
        omega
      · have zb : ((n : Int) == (a2 : Int)) = false := by rw [beq_eq_false_iff_ne]; omega
        have hT := insT_ne (x := kid) hna hy
        (repeat' (first | refine awp_seq ?_ | refine awp_block ?_ | refine awp_skip ?_ | refine awp_exit ?_ | ((first | refine rR (fun K kp hK hkp => ?_) | refine rD (id := 19) mixed 8 [0,1,2,3,4,5,6,7] (fun K kp hK hkp => ?_) | refine rX (id := 31) mixed [6] 9 [0,1,2,3,4,5,6,7,8] (fun K kp hK hkp => ?_) | refine rD (id := 33) mixed 7 [0,1,2,3,4,5,6] (fun K kp hK hkp => ?_) | refine rD (id := 37) mixed 14 [0,1,2,3,4,5,6,7,8,9,10,11,12,13] (fun K kp hK hkp => ?_) | refine rD (id := 42) mixed 7 [0,1,2,3,4,5,6] (fun K kp hK hkp => ?_) | refine rX (id := 43) mixed [] 11 [0,1,2,3,4,5,6,7,8,9,10] (fun K kp hK hkp => ?_) | refine rD (id := 44) mixed 9 [0,1,2,3,4,5,6,7,8] (fun K kp hK hkp => ?_) | refine iG ?_ | refine iD ?_ | refine iX ?_); simp (implicitDefEqProofs := false) (maxSteps := 2000000) (disch := omega) only [go_sem, zn, zm, hy, eP, eI, zb, Value.oneCell']; (repeat' (first | (refine hK _ ?_; clear hK hkp kp K) | (with_reducible refine And.intro ?_ ?_) | omega))) | ((first | refine aG (fun h => ?_) (fun h => ?_) | refine aD (fun h => ?_) (fun h => ?_) | refine aX (fun h => ?_) (fun h => ?_)) <;> simp only [h]) | refine awp_cond_t rfl ?_ | refine awp_cond_f rfl ?_ | ((refine awp_cond rfl (fun h => ?_) (fun h => ?_) <;> try simp only [ifs] at h) <;> (try (exfalso; omega))) | refine awp_ret ?_))
        ((first | (refine nextB (n + 1) ?_ ?_ ?_) | (refine nextA (n + 1) ?_ ?_ ?_) | (refine nextE (n + 1) ?_ ?_ ?_)); rotate_left; (· (try dsimp only); (first | omega | (simp only [List.length_drop, List.length_cons, List.length_append]; omega) | (simp; done) | (simp; omega))); (· (refine emb [0, 1, 2, 3, 4, 5, 8] ?_ ?_ rfl ?_ ?_ ?_ ?_ <;> simp [okM, okO, lk, ren, renL, renNd, by_, hE, eP, hT, eI] <;> (try omega) <;> (try (intro i hi; first | (rcases i with _ | _ | i; rfl; rfl; (exfalso; omega)) | (rcases i with _ | _ | _ | i; rfl; rfl; rfl; (exfalso; omega)) | (rcases i with _ | _ | _ | _ | i; rfl; rfl; rfl; rfl; (exfalso; omega)) | (rcases i with _ | _ | _ | _ | _ | i; rfl; rfl; rfl; rfl; rfl; (exfalso; omega)) | (rcases i with _ | _ | _ | _ | _ | _ | i; rfl; rfl; rfl; rfl; rfl; rfl; (exfalso; omega)))))))
        omega
    · by_cases hne : n = p.kids.length
      · subst hne
        have hkl6 : p.kids.length ≤ 5 := by rw [hkl]; split <;> omega
        have hnl := insT_len (l := p.kids) (i := a2) (x := kid) (Nat.le_refl _)
        have hnl2 : (insT p.kids a2 kid p.kids.length).length ≤ 100 := by rw [hnl]; split <;> omega
        have zn : ((p.kids.length : Int) < (p.kids.length : Int)) = False := eq_false (by omega)
        have zm : ((p.kids.length : Int) ≤ (p.kids.length : Int)) = True := eq_true (by omega)
        by_cases hna : p.kids.length = a2
        · have zb : ((p.kids.length : Int) == (a2 : Int)) = true := by rw [hna]; exact beq_self_eq_true _
          have hT : insT p.kids a2 kid (p.kids.length + 1) = insT p.kids a2 kid p.kids.length ++ [kid] := by rw [insT_all ha2l, ← hna, insT_last]
          (repeat' (first | refine awp_seq ?_ | refine awp_block ?_ | refine awp_skip ?_ | refine awp_exit ?_ | ((first | refine rR (fun K kp hK hkp => ?_) | refine rD (id := 19) mixed 8 [0,1,2,3,4,5,6,7] (fun K kp hK hkp => ?_) | refine rD (id := 31) mixed 8 [0,1,2,3,4,5,6,7] (fun K kp hK hkp => ?_) | refine rD (id := 33) mixed 7 [0,1,2,3,4,5,6] (fun K kp hK hkp => ?_) | refine rD (id := 37) mixed 14 [0,1,2,3,4,5,6,7,8,9,10,11,12,13] (fun K kp hK hkp => ?_) | refine rD (id := 42) mixed 7 [0,1,2,3,4,5,6] (fun K kp hK hkp => ?_) | refine rX (id := 43) mixed [] 11 [0,1,2,3,4,5,6,7,8,9,10] (fun K kp hK hkp => ?_) | refine rD (id := 44) mixed 9 [0,1,2,3,4,5,6,7,8] (fun K kp hK hkp => ?_) | refine iG ?_ | refine iD ?_ | refine iX ?_); simp (implicitDefEqProofs := false) (maxSteps := 2000000) (disch := omega) only [go_sem, zn, zm, eP, eI, zb, Value.oneCell']; (repeat' (first | (refine hK _ ?_; clear hK hkp kp K) | (with_reducible refine And.intro ?_ ?_) | omega))) | ((first | refine aG (fun h => ?_) (fun h => ?_) | refine aD (fun h => ?_) (fun h => ?_) | refine aX (fun h => ?_) (fun h => ?_)) <;> simp only [h]) | refine awp_cond_t rfl ?_ | refine awp_cond_f rfl ?_ | ((refine awp_cond rfl (fun h => ?_) (fun h => ?_) <;> try simp only [ifs] at h) <;> (try (exfalso; omega))) | refine awp_ret ?_))
          ((first | (refine nextB (p.kids.length + 1) ?_ ?_ ?_) | (refine nextA (p.kids.length + 1) ?_ ?_ ?_) | (refine nextE (p.kids.length + 1) ?_ ?_ ?_)); rotate_left; (· (try dsimp only); (first | omega | (simp only [List.length_drop, List.length_cons, List.length_append]; omega) | (simp; done) | (simp; omega))); (· (refine emb [0, 1, 2, 3, 4, 5, 8] ?_ ?_ rfl ?_ ?_ ?_ ?_ <;> simp [okM, okO, lk, ren, renL, renNd, by_, hE, eP, hT, eI] <;> (try omega) <;> (try (intro i hi; first | (rcases i with _ | _ | i; rfl; rfl; (exfalso; omega)) | (rcases i with _ | _ | _ | i; rfl; rfl; rfl; (exfalso; omega)) | (rcases i with _ | _ | _ | _ | i; rfl; rfl; rfl; rfl; (exfalso; omega)) | (rcases i with _ | _ | _ | _ | _ | i; rfl; rfl; rfl; rfl; rfl; (exfalso; omega)) | (rcases i with _ | _ | _ | _ | _ | _ | i; rfl; rfl; rfl; rfl; rfl; rfl; (exfalso; omega)))))))
          omega
        · have zb : ((p.kids.length : Int) == (a2 : Int)) = false := by rw [beq_eq_false_iff_ne]; omega
          have hT : insT p.kids a2 kid (p.kids.length + 1) = insT p.kids a2 kid p.kids.length := by rw [insT_all ha2l, insT_end (by omega)]
          (repeat' (first | refine awp_seq ?_ | refine awp_block ?_ | refine awp_skip ?_ | refine awp_exit ?_ | ((first | refine rR (fun K kp hK hkp => ?_) | refine rD (id := 19) mixed 8 [0,1,2,3,4,5,6,7] (fun K kp hK hkp => ?_) | refine rD (id := 31) mixed 8 [0,1,2,3,4,5,6,7] (fun K kp hK hkp => ?_) | refine rD (id := 33) mixed 7 [0,1,2,3,4,5,6] (fun K kp hK hkp => ?_) | refine rD (id := 37) mixed 14 [0,1,2,3,4,5,6,7,8,9,10,11,12,13] (fun K kp hK hkp => ?_) | refine rD (id := 42) mixed 7 [0,1,2,3,4,5,6] (fun K kp hK hkp => ?_) | refine rX (id := 43) mixed [] 11 [0,1,2,3,4,5,6,7,8,9,10] (fun K kp hK hkp => ?_) | refine rD (id := 44) mixed 9 [0,1,2,3,4,5,6,7,8] (fun K kp hK hkp => ?_) | refine iG ?_ | refine iD ?_ | refine iX ?_); simp (implicitDefEqProofs := false) (maxSteps := 2000000) (disch := omega) only [go_sem, zn, zm, eP, eI, zb]; (repeat' (first | (refine hK _ ?_; clear hK hkp kp K) | (with_reducible refine And.intro ?_ ?_) | omega))) | ((first | refine aG (fun h => ?_) (fun h => ?_) | refine aD (fun h => ?_) (fun h => ?_) | refine aX (fun h => ?_) (fun h => ?_)) <;> simp only [h]) | refine awp_cond_t rfl ?_ | refine awp_cond_f rfl ?_ | ((refine awp_cond rfl (fun h => ?_) (fun h => ?_) <;> try simp only [ifs] at h) <;> (try (exfalso; omega))) | refine awp_ret ?_))
          ((first | (refine nextB (p.kids.length + 1) ?_ ?_ ?_) | (refine nextA (p.kids.length + 1) ?_ ?_ ?_) | (refine nextE (p.kids.length + 1) ?_ ?_ ?_)); rotate_left; (· (try dsimp only); (first | omega | (simp only [List.length_drop, List.length_cons, List.length_append]; omega) | (simp; done) | (simp; omega))); (· (refine emb [0, 1, 2, 3, 4, 5, 6] ?_ ?_ rfl ?_ ?_ ?_ ?_ <;> simp [okM, okO, lk, ren, renL, renNd, by_, hE, eP, hT, eI] <;> (try omega) <;> (try (intro i hi; first | (rcases i with _ | _ | i; rfl; rfl; (exfalso; omega)) | (rcases i with _ | _ | _ | i; rfl; rfl; rfl; (exfalso; omega)) | (rcases i with _ | _ | _ | _ | i; rfl; rfl; rfl; rfl; (exfalso; omega)) | (rcases i with _ | _ | _ | _ | _ | i; rfl; rfl; rfl; rfl; rfl; (exfalso; omega)) | (rcases i with _ | _ | _ | _ | _ | _ | i; rfl; rfl; rfl; rfl; rfl; rfl; (exfalso; omega)))))))
          omega
      · obtain rfl : n = p.kids.length + 1 := by omega
        have zm : (((p.kids.length + 1 : Nat) : Int) ≤ (p.kids.length : Int)) = False := eq_false (by omega)
        rw [insT_all ha2l, q2]
        have tk1 : (q.keys.map eKy).take q.keys.length = q.keys.map eKy := List.take_of_length_le (by simp)
        have tk2 : (q.kids.map eI).take q.kids.length = q.kids.map eI := List.take_of_length_le (by simp)
        (repeat' (first | refine awp_seq ?_ | refine awp_block ?_ | refine awp_skip ?_ | refine awp_exit ?_ | ((first | refine rR (fun K kp hK hkp => ?_) | refine rD (id := 19) mixed 8 [0,1,2,3,4,5,6,7] (fun K kp hK hkp => ?_) | refine rD (id := 31) mixed 8 [0,1,2,3,4,5,6,7] (fun K kp hK hkp => ?_) | refine rD (id := 33) mixed 7 [0,1,2,3,4,5,6] (fun K kp hK hkp => ?_) | refine rD (id := 37) mixed 14 [0,1,2,3,4,5,6,7,8,9,10,11,12,13] (fun K kp hK hkp => ?_) | refine rD (id := 42) mixed 7 [0,1,2,3,4,5,6] (fun K kp hK hkp => ?_) | refine rX (id := 43) mixed [] 11 [0,1,2,3,4,5,6,7,8,9,10] (fun K kp hK hkp => ?_) | refine rD (id := 44) mixed 9 [0,1,2,3,4,5,6,7,8] (fun K kp hK hkp => ?_) | refine iG ?_ | refine iD ?_ | refine iX ?_); simp (implicitDefEqProofs := false) (maxSteps := 2000000) (disch := omega) only [go_sem, zm, eP]; (repeat' (first | (refine hK _ ?_; clear hK hkp kp K) | (with_reducible refine And.intro ?_ ?_) | omega))) | ((first | refine aG (fun h => ?_) (fun h => ?_) | refine aD (fun h => ?_) (fun h => ?_) | refine aX (fun h => ?_) (fun h => ?_)) <;> simp only [h]) | refine awp_cond_t rfl ?_ | refine awp_cond_f rfl ?_ | ((refine awp_cond rfl (fun h => ?_) (fun h => ?_) <;> try simp only [ifs] at h) <;> (try (exfalso; omega))) | refine awp_ret ?_))
        refine hcut _ ?_
        refine Emb.trans (emb_frzB 4 1 rfl rfl (by simp only [frz, lk, rm, tk1, List.drop_zero, Nat.zero_add, List.length_map, Nat.le_refl, ↓reduceIte, Nat.reduceEqDiff]; rfl) rfl) ?_
        refine Emb.trans (emb_frzB 4 2 rfl rfl (by simp only [frz, lk, rm, setNd, tk2, List.drop_zero, Nat.zero_add, List.length_map, Nat.le_refl, ↓reduceIte, Nat.reduceEqDiff]; rfl) rfl) ?_
        simp only [setNd]
        (refine emb [0, 1, 2, 3, 4] ?_ ?_ rfl ?_ ?_ ?_ ?_ <;> simp [okM, okO, lk, ren, renL, renNd, by_, hE, eP, q3, q4, q5] <;> (try omega) <;> (try (intro i hi; first | (rcases i with _ | _ | i; rfl; rfl; (exfalso; omega)) | (rcases i with _ | _ | _ | i; rfl; rfl; rfl; (exfalso; omega)) | (rcases i with _ | _ | _ | _ | i; rfl; rfl; rfl; rfl; (exfalso; omega)) | (rcases i with _ | _ | _ | _ | _ | i; rfl; rfl; rfl; rfl; rfl; (exfalso; omega)) | (rcases i with _ | _ | _ | _ | _ | _ | i; rfl; rfl; rfl; rfl; rfl; rfl; (exfalso; omega)))))
  have hiq : i < qs.length := (List.getElem?_eq_some_iff.1 hq).1
  have zi : ((i : Int) < (qs.length : Int)) = True := eq_true (by omega)
  have hqm : ∀ (j : Nat) (y : Ky), q.keys[j]? = some y → y.length ≤ 1048576 := fun j y hy => by
    have hm := List.mem_of_getElem? hy
    rw [← hqd] at hm
    rcases insX_mem hm with rfl | hm
    · exact hul
    · exact hkm y hm
  have hkl2 : q.kids.length = if q.leaf then q.keys.length else q.keys.length + 1 := by
    rw [qk, ql, hkl, q3]; split <;> rfl
  have hq5 : q.keys.length ≤ 5 := by omega
  have hset : ∀ v, (qs.map eP).set i (eP v) = (qs.set i v).map eP := fun v => by rw [List.map_set]
  have hsl : ∀ v, (qs.set i v).length = qs.length := fun v => List.length_set
  clear q2 ql qk hqd hkl hkm hul h4 ha2l
  by_cases h4 : q.keys.length ≤ 4
  · have z4 : ((q.keys.length : Int) ≤ 4) = True := eq_true (by omega)
    rw [putM, if_pos h4, insA, ownI, hsl]
    simp only
    rw [← hset]
    (repeat' (first | refine awp_seq ?_ | refine awp_block ?_ | refine awp_skip ?_ | refine awp_exit ?_ | ((first | refine rR (fun K kp hK hkp => ?_) | refine rD (id := 19) mixed 8 [0,1,2,3,4,5,6,7] (fun K kp hK hkp => ?_) | refine rD (id := 31) mixed 8 [0,1,2,3,4,5,6,7] (fun K kp hK hkp => ?_) | refine rD (id := 33) mixed 7 [0,1,2,3,4,5,6] (fun K kp hK hkp => ?_) | refine rD (id := 37) mixed 14 [0,1,2,3,4,5,6,7,8,9,10,11,12,13] (fun K kp hK hkp => ?_) | refine rD (id := 42) mixed 7 [0,1,2,3,4,5,6] (fun K kp hK hkp => ?_) | refine rX (id := 43) mixed [] 11 [0,1,2,3,4,5,6,7,8,9,10] (fun K kp hK hkp => ?_) | refine rD (id := 44) mixed 9 [0,1,2,3,4,5,6,7,8] (fun K kp hK hkp => ?_) | refine iG ?_ | refine iD ?_ | refine iX ?_); simp (implicitDefEqProofs := false) (maxSteps := 2000000) (disch := omega) only [go_sem, zi, hq, eP, z4]; (repeat' (first | (refine hK _ ?_; clear hK hkp kp K) | (with_reducible refine And.intro ?_ ?_) | omega))) | ((first | refine aG (fun h => ?_) (fun h => ?_) | refine aD (fun h => ?_) (fun h => ?_) | refine aX (fun h => ?_) (fun h => ?_)) <;> simp only [h]) | refine awp_cond_t rfl ?_ | refine awp_cond_f rfl ?_ | ((refine awp_cond rfl (fun h => ?_) (fun h => ?_) <;> try simp only [ifs] at h) <;> (try (exfalso; omega))) | refine awp_ret ?_))
    (refine retA_is (by (simp (implicitDefEqProofs := false) (maxSteps := 2000000) (disch := omega) only [go_sem, Go.Proofs.Try.results51]); rfl) ?_; refine (embV [0, 1, 3] ?_ ?_ ?_ ?_ ?_ ?_).s <;> simp [oneA, okO, lk, ren, renL, renNd, by_, hE] <;> (try (intro i hi; first | (rcases i with _ | _ | i; rfl; rfl; (exfalso; omega)) | (rcases i with _ | _ | _ | i; rfl; rfl; rfl; (exfalso; omega)) | (rcases i with _ | _ | _ | _ | i; rfl; rfl; rfl; rfl; (exfalso; omega)) | (rcases i with _ | _ | _ | _ | _ | i; rfl; rfl; rfl; rfl; rfl; (exfalso; omega)) | (rcases i with _ | _ | _ | _ | _ | _ | i; rfl; rfl; rfl; rfl; rfl; rfl; (exfalso; omega)))))
    rfl
  · have z4 : ((q.keys.length : Int) ≤ 4) = False := eq_false (by omega)
    have h5 : q.keys.length = 5 := by omega
    obtain ⟨u, hu⟩ : ∃ u, q.keys[2]? = some u := ⟨_, List.getElem?_eq_getElem (by omega)⟩
    have hmid : midM q = u := by rw [midM, List.getD_eq_getElem?_getD, hu]; rfl
    have bc := bytesCopy_con E.G true u (hqm 2 u hu)
    rw [putM, if_neg h4, hmid, insA, ownI]
    simp only
    refine awp_seq ?_
    refine awp_seq ?_
    (refine rR (fun K kp hK hkp => ?_); simp (implicitDefEqProofs := false) (maxSteps := 2000000) (disch := omega) only [go_sem, eP, z4]; (repeat' (first | (refine hK _ ?_; clear hK hkp kp K) | (with_reducible refine And.intro ?_ ?_) | omega)))
    refine awp_cond_f rfl ?_
    refine awp_skip ?_
    refine awp_cut4 (fx := ⟨[(22, .p 4 0 0), (21, .p 2 0 0), (20, .ro true 1 (u.map eByte)), (0, .p 0 0 0), (1, .r (.int .i64 i))], [(0, .box 24 [.s 3 0 qs.length, .r (.int .i64 root)]), (3, .lst 52 5 (qs.map eP)), (2, .box 52 (eP (leftM q u qs.length))), (4, .box 52 (eP (rightM q)))], 5⟩) ?_ fun K hcut => ?_
    rotate_left
    · have tk1 : (q.keys.map eKy).take 5 = q.keys.map eKy := List.take_of_length_le (by simp [h5])
      cases hlf : q.leaf
      · have hk5 : q.kids.length = 6 := by rw [hkl2, hlf, h5]; rfl
        have tk2 : (q.kids.map eI).take 6 = q.kids.map eI := List.take_of_length_le (by simp [hk5])
        (repeat' (first | refine awp_seq ?_ | refine awp_block ?_ | refine awp_skip ?_ | refine awp_exit ?_ | ((first | refine rR (fun K kp hK hkp => ?_) | refine rD (id := 19) mixed 8 [0,1,2,3,4,5,6,7] (fun K kp hK hkp => ?_) | refine rD (id := 31) mixed 8 [0,1,2,3,4,5,6,7] (fun K kp hK hkp => ?_) | refine rD (id := 33) mixed 7 [0,1,2,3,4,5,6] (fun K kp hK hkp => ?_) | refine rU (id := 36) mixed 17 [⟨0, 0, [], [(0, 1)]⟩, ⟨0, 0, [0], [(0, 1)]⟩, ⟨0, 0, [], [(0, 1)]⟩, ⟨0, 0, [2], [(0, 1)]⟩, ⟨0, 0, [2, 3], [(0, 1)]⟩, ⟨0, 0, [], [(0, 1)]⟩, ⟨0, 0, [5], [(0, 1)]⟩, ⟨0, 0, [5, 6], [(0, 1)]⟩, ⟨0, 0, [], [(0, 1)]⟩, ⟨0, 0, [8], [(0, 1)]⟩, ⟨0, 0, [], [(0, 1)]⟩, ⟨0, 0, [10], [(0, 1)]⟩, ⟨0, 0, [10, 11], [(0, 1)]⟩, ⟨0, 0, [10, 11, 12], [(0, 1)]⟩, ⟨0, 0, [10, 11, 12, 13], [(0, 1)]⟩, ⟨0, 0, [0, 1, 2, 3, 4, 5, 6, 7, 8, 9, 10, 11, 12, 13, 14], [(0, 1)]⟩, ⟨0, 1, [], []⟩] 1 [166, 167, 168, 169, 170, 171, 172, 173, 174, 175, 176, 177, 178, 179, 180, 181, 21] [] (fun K kp hK hkp => ?_) | refine rD (id := 37) mixed 14 [0,1,2,3,4,5,6,7,8,9,10,11,12,13] (fun K kp hK hkp => ?_) | refine rX (id := 42) mixed [77] 7 [0,1,2,3,4,5,6] (fun K kp hK hkp => ?_) | refine rX (id := 43) mixed [] 11 [0,1,2,3,4,5,6,7,8,9,10] (fun K kp hK hkp => ?_) | refine rD (id := 44) mixed 9 [0,1,2,3,4,5,6,7,8] (fun K kp hK hkp => ?_) | refine cR bc ?_ | refine cD bc ?_ | refine cX bc ?_ | refine cU bc ?_ | refine iG ?_ | refine iD ?_ | refine iX ?_); simp (implicitDefEqProofs := false) (maxSteps := 2000000) (disch := omega) only [go_sem, hu, h5, hk5, hlf, q3, eP, eKy]; (repeat' (first | (refine hK _ ?_; clear hK hkp kp K) | (with_reducible refine And.intro ?_ ?_) | omega))) | ((first | refine aG (fun h => ?_) (fun h => ?_) | refine aD (fun h => ?_) (fun h => ?_) | refine aX (fun h => ?_) (fun h => ?_)) <;> simp only [h]) | refine awp_cond_t rfl ?_ | refine awp_cond_f rfl ?_ | ((refine awp_cond rfl (fun h => ?_) (fun h => ?_) <;> try simp only [ifs] at h) <;> (try (exfalso; omega))) | refine awp_ret ?_))
        refine hcut _ ?_
        (refine emb [0, 1, 5, 3, 6] ?_ ?_ rfl ?_ ?_ ?_ ?_ <;> simp [okM, okO, lk, ren, renL, renNd, by_, hE, eP, leftM, rightM, hlf, q4, q5, tk1, tk2] <;> (try omega) <;> (try (intro i hi; first | (rcases i with _ | _ | i; rfl; rfl; (exfalso; omega)) | (rcases i with _ | _ | _ | i; rfl; rfl; rfl; (exfalso; omega)) | (rcases i with _ | _ | _ | _ | i; rfl; rfl; rfl; rfl; (exfalso; omega)) | (rcases i with _ | _ | _ | _ | _ | i; rfl; rfl; rfl; rfl; rfl; (exfalso; omega)) | (rcases i with _ | _ | _ | _ | _ | _ | i; rfl; rfl; rfl; rfl; rfl; rfl; (exfalso; omega)))))
      · have hk5 : q.kids.length = 5 := by rw [hkl2, hlf, h5]; rfl
        have tk2 : (q.kids.map eI).take 5 = q.kids.map eI := List.take_of_length_le (by simp [hk5])
        (repeat' (first | refine awp_seq ?_ | refine awp_block ?_ | refine awp_skip ?_ | refine awp_exit ?_ | ((first | refine rR (fun K kp hK hkp => ?_) | refine rD (id := 19) mixed 8 [0,1,2,3,4,5,6,7] (fun K kp hK hkp => ?_) | refine rD (id := 31) mixed 8 [0,1,2,3,4,5,6,7] (fun K kp hK hkp => ?_) | refine rD (id := 33) mixed 7 [0,1,2,3,4,5,6] (fun K kp hK hkp => ?_) | refine rU (id := 36) mixed 17 [⟨0, 0, [], [(0, 1)]⟩, ⟨0, 0, [0], [(0, 1)]⟩, ⟨0, 0, [], [(0, 1)]⟩, ⟨0, 0, [2], [(0, 1)]⟩, ⟨0, 0, [2, 3], [(0, 1)]⟩, ⟨0, 0, [], [(0, 1)]⟩, ⟨0, 0, [5], [(0, 1)]⟩, ⟨0, 0, [5, 6], [(0, 1)]⟩, ⟨0, 0, [], [(0, 1)]⟩, ⟨0, 0, [8], [(0, 1)]⟩, ⟨0, 0, [], [(0, 1)]⟩, ⟨0, 0, [10], [(0, 1)]⟩, ⟨0, 0, [10, 11], [(0, 1)]⟩, ⟨0, 0, [10, 11, 12], [(0, 1)]⟩, ⟨0, 0, [10, 11, 12, 13], [(0, 1)]⟩, ⟨0, 0, [0, 1, 2, 3, 4, 5, 6, 7, 8, 9, 10, 11, 12, 13, 14], [(0, 1)]⟩, ⟨0, 1, [], []⟩] 1 [166, 167, 168, 169, 170, 171, 172, 173, 174, 175, 176, 177, 178, 179, 180, 181, 21] [] (fun K kp hK hkp => ?_) | refine rD (id := 37) mixed 14 [0,1,2,3,4,5,6,7,8,9,10,11,12,13] (fun K kp hK hkp => ?_) | refine rX (id := 42) mixed [77] 7 [0,1,2,3,4,5,6] (fun K kp hK hkp => ?_) | refine rX (id := 43) mixed [] 11 [0,1,2,3,4,5,6,7,8,9,10] (fun K kp hK hkp => ?_) | refine rD (id := 44) mixed 9 [0,1,2,3,4,5,6,7,8] (fun K kp hK hkp => ?_) | refine cR bc ?_ | refine cD bc ?_ | refine cX bc ?_ | refine cU bc ?_ | refine iG ?_ | refine iD ?_ | refine iX ?_); simp (implicitDefEqProofs := false) (maxSteps := 2000000) (disch := omega) only [go_sem, hu, h5, hk5, hlf, q3, eP, eKy]; (repeat' (first | (refine hK _ ?_; clear hK hkp kp K) | (with_reducible refine And.intro ?_ ?_) | omega))) | ((first | refine aG (fun h => ?_) (fun h => ?_) | refine aD (fun h => ?_) (fun h => ?_) | refine aX (fun h => ?_) (fun h => ?_)) <;> simp only [h]) | refine awp_cond_t rfl ?_ | refine awp_cond_f rfl ?_ | ((refine awp_cond rfl (fun h => ?_) (fun h => ?_) <;> try simp only [ifs] at h) <;> (try (exfalso; omega))) | refine awp_ret ?_))
        refine hcut _ ?_
        (refine emb [0, 1, 5, 3, 6] ?_ ?_ rfl ?_ ?_ ?_ ?_ <;> simp [okM, okO, lk, ren, renL, renNd, by_, hE, eP, leftM, rightM, hlf, q4, q5, tk1, tk2] <;> (try omega) <;> (try (intro i hi; first | (rcases i with _ | _ | i; rfl; rfl; (exfalso; omega)) | (rcases i with _ | _ | _ | i; rfl; rfl; rfl; (exfalso; omega)) | (rcases i with _ | _ | _ | _ | i; rfl; rfl; rfl; rfl; (exfalso; omega)) | (rcases i with _ | _ | _ | _ | _ | i; rfl; rfl; rfl; rfl; rfl; (exfalso; omega)) | (rcases i with _ | _ | _ | _ | _ | _ | i; rfl; rfl; rfl; rfl; rfl; rfl; (exfalso; omega)))))
    have hsp : splitM qs i q = qs.set i (leftM q u qs.length) ++ [rightM q] := by rw [splitM, hmid]
    have e1 : ((qs.length + 1 : Nat) : Int) - 1 = (qs.length : Int) := by omega
    have hspl : (qs.set i (leftM q u qs.length) ++ [rightM q]).length = qs.length + 1 := by simp
    rw [hsp, hspl]
    generalize leftM q u qs.length = ql at *
    generalize rightM q = qr at *
    clear hu bc hmid hsp hq5 hkl2 hqm q3 q4 q5
    simp only [eP]
    refine awp_seq ?_
    (refine rD (id := 42) mixed 7 [0,1,2,3,4,5,6] (fun K kp hK hkp => ?_); simp (implicitDefEqProofs := false) (maxSteps := 2000000) (disch := omega) only [go_sem, zi, hq, eP]; (repeat' (first | (refine hK _ ?_; clear hK hkp kp K) | (with_reducible refine And.intro ?_ ?_) | omega)))
    have hset := hset ql
    have hsl := hsl ql
    simp only [eP] at hset
    rw [hset]
    generalize qs.set i ql = us at *
    refine awp_seq ?_
    (refine rF (id := 43) mixed 7 [0] [1,2,3,4,5,6] (fun K kp hK hkp => ?_); simp (implicitDefEqProofs := false) (maxSteps := 2000000) (disch := omega) only [go_sem, hsl, eP]; (repeat' (first | (refine hK _ ?_; clear hK hkp kp K) | (with_reducible refine And.intro ?_ ?_) | omega)))
    (repeat' (first | refine awp_seq ?_ | refine awp_block ?_ | refine awp_skip ?_ | refine awp_exit ?_ | ((first | refine rR (fun K kp hK hkp => ?_) | refine rD (id := 19) mixed 8 [0,1,2,3,4,5,6,7] (fun K kp hK hkp => ?_) | refine rD (id := 31) mixed 8 [0,1,2,3,4,5,6,7] (fun K kp hK hkp => ?_) | refine rD (id := 33) mixed 7 [0,1,2,3,4,5,6] (fun K kp hK hkp => ?_) | refine rD (id := 37) mixed 14 [0,1,2,3,4,5,6,7,8,9,10,11,12,13] (fun K kp hK hkp => ?_) | refine rD (id := 42) mixed 7 [0,1,2,3,4,5,6] (fun K kp hK hkp => ?_) | refine rX (id := 43) mixed [] 11 [0,1,2,3,4,5,6,7,8,9,10] (fun K kp hK hkp => ?_) | refine rD (id := 44) mixed 9 [0,1,2,3,4,5,6,7,8] (fun K kp hK hkp => ?_) | refine iG ?_ | refine iD ?_ | refine iX ?_); simp (implicitDefEqProofs := false) (maxSteps := 2000000) (disch := omega) only [go_sem, e1]; (repeat' (first | (refine hK _ ?_; clear hK hkp kp K) | (with_reducible refine And.intro ?_ ?_) | omega))) | ((first | refine aG (fun h => ?_) (fun h => ?_) | refine aD (fun h => ?_) (fun h => ?_) | refine aX (fun h => ?_) (fun h => ?_)) <;> simp only [h]) | refine awp_cond_t rfl ?_ | refine awp_cond_f rfl ?_ | ((refine awp_cond rfl (fun h => ?_) (fun h => ?_) <;> try simp only [ifs] at h) <;> (try (exfalso; omega))) | refine awp_ret ?_))
    (refine retA_is (by (simp (implicitDefEqProofs := false) (maxSteps := 2000000) (disch := omega) only [go_sem, Go.Proofs.Try.results51, eP]); rfl) ?_; refine (embV [0, 1, 6] ?_ ?_ ?_ ?_ ?_ ?_).s <;> simp [oneA, okO, lk, ren, renL, renNd, by_, hE, eP] <;> (try (intro i hi; first | (rcases i with _ | _ | i; rfl; rfl; (exfalso; omega)) | (rcases i with _ | _ | _ | i; rfl; rfl; rfl; (exfalso; omega)) | (rcases i with _ | _ | _ | _ | i; rfl; rfl; rfl; rfl; (exfalso; omega)) | (rcases i with _ | _ | _ | _ | _ | i; rfl; rfl; rfl; rfl; rfl; (exfalso; omega)) | (rcases i with _ | _ | _ | _ | _ | _ | i; rfl; rfl; rfl; rfl; rfl; rfl; (exfalso; omega)))))
    exact List.take_of_length_le (by simp [hsl])
end Go.AM
/- TreeCopy, whose pages are own. -/
namespace Go.AM
open Go Go.RowKit
attribute [local irreducible] AWP retA
set_option maxRecDepth 100000 in
set_option maxHeartbeats 4000000 in
theorem treeOwn_con (G : List (Nat × List Value)) (t : Bool) (ps : List PG) (root : Int) (ho : okPs2 ps) : Con Go.Proofs.Try.prog G 26 [.agg [.ro t 5 (ps.map eP), .r (.int .i64 root)]] [] 0 (Is (.agg [.s 0 0 ps.length, .r (.int .i64 root)]) [(0, .ul 52 5 (ps.map uP) [])] 1) No := by
  have hn := ho.1
  refine con_of_awp Go.Proofs.Try.func26 rfl (by kernel_rfl) (of_decide_eq_true (by kernel_rfl)) ?_; intro E hG hE; subst hG; simp only [ent]
  (repeat' (first | refine awp_seq ?_ | refine awp_block ?_ | refine awp_skip ?_ | refine awp_exit ?_ | ((first | refine rR (fun K kp hK hkp => ?_) | refine rD (id := 15) mixed 8 [0,1,2,3,4,5,6,7] (fun K kp hK hkp => ?_) | refine iG ?_ | refine iD ?_); simp (implicitDefEqProofs := false) (maxSteps := 2000000) (disch := omega) only [go_sem, eP]; (repeat' (first | (refine hK _ ?_; clear hK hkp kp K) | (with_reducible refine And.intro ?_ ?_) | omega))) | ((first | refine aG (fun h => ?_) (fun h => ?_) | refine aD (fun h => ?_) (fun h => ?_) | refine aX (fun h => ?_) (fun h => ?_)) <;> simp only [h]) | refine awp_cond_t rfl ?_ | refine awp_cond_f rfl ?_ | ((refine awp_cond rfl (fun h => ?_) (fun h => ?_) <;> try simp only [ifs] at h) <;> (try (exfalso; omega))) | refine awp_ret ?_))
  (refine AWP.emb (emb_nilB 2 0 52 5 rfl rfl (by simp)) ?_; simp only [List.set_cons_zero, List.set_cons_succ, lk, ↓reduceIte, Nat.reduceAdd])
  (refine AWP.emb (emb_toU (T := ?z1T) (k := ?z1k) (els := ?z1e) 3 ?z1h) ?z1g; (case z1h => rfl); simp only [setNd])
  refine awp_loop (fun i : Nat => ⟨[(4, .r (.int .i64 i)), (3, .p 2 0 0), (2, .p 1 0 0), (1, .p 0 0 0)], [(0, .box 24 [.ro t 5 (ps.map eP), .r (.int .i64 root)]), (1, .box 24 [.r (.slice none 0 0), .r (.int .i64 0)]), (2, .box 24 [.s 3 0 i, .r (.int .i64 root)]), (3, .ul 52 5 ((ps.take i).map uP) [])], 4⟩) (fun i => i ≤ ps.length) (fun i => ps.length - i) 0 ?_ ?_ ?_
  · exact Nat.zero_le _
  · (refine emb [0, 1, 2, 3] ?_ ?_ rfl ?_ ?_ ?_ ?_ <;> simp [okM, okO, lk, ren, renL, renNd, by_, hE, renOp] <;> (try omega) <;> (try (intro i hi; first | (rcases i with _ | _ | i; rfl; rfl; (exfalso; omega)) | (rcases i with _ | _ | _ | i; rfl; rfl; rfl; (exfalso; omega)) | (rcases i with _ | _ | _ | _ | i; rfl; rfl; rfl; rfl; (exfalso; omega)) | (rcases i with _ | _ | _ | _ | _ | i; rfl; rfl; rfl; rfl; rfl; (exfalso; omega)) | (rcases i with _ | _ | _ | _ | _ | _ | i; rfl; rfl; rfl; rfl; rfl; rfl; (exfalso; omega)))))
  intro i hi
  by_cases hlt : i < ps.length
  · have zi : ((i : Int) < (ps.length : Int)) = True := eq_true (by omega)
    obtain ⟨p, hp⟩ : ∃ p, ps[i]? = some p := ⟨ps[i], by simp [hlt]⟩
    obtain ⟨h1, h2, h3, h4⟩ := ho.2 p (List.mem_of_getElem? hp)
    have bc := bytesCopy_con E.G true p.high h3
    (repeat' (first | refine awp_seq ?_ | refine awp_block ?_ | refine awp_skip ?_ | refine awp_exit ?_ | ((first | refine rR (fun K kp hK hkp => ?_) | refine rU (id := 6) mixed 9 [⟨0, 0, [], [(0, 1)]⟩, ⟨0, 0, [0], [(0, 1)]⟩, ⟨0, 0, [], [(0, 1)]⟩, ⟨0, 0, [2], [(0, 1)]⟩, ⟨0, 0, [2, 3], [(0, 1)]⟩, ⟨0, 0, [], [(0, 1)]⟩, ⟨0, 0, [5], [(0, 1)]⟩, ⟨0, 0, [0, 1, 2, 3, 4, 5, 6], [(0, 1)]⟩, ⟨0, 1, [], []⟩] 1 [25, 26, 27, 28, 29, 30, 31, 32, 6] [] (fun K kp hK hkp => ?_) | refine rD (id := 15) mixed 8 [0,1,2,3,4,5,6,7] (fun K kp hK hkp => ?_) | refine cR bc ?_ | refine cD bc ?_ | refine cU bc ?_ | refine iG ?_ | refine iD ?_); simp (implicitDefEqProofs := false) (maxSteps := 2000000) (disch := omega) only [go_sem, zi, hp, eP]; (repeat' (first | (refine hK _ ?_; clear hK hkp kp K) | (with_reducible refine And.intro ?_ ?_) | omega))) | ((first | refine aG (fun h => ?_) (fun h => ?_) | refine aD (fun h => ?_) (fun h => ?_) | refine aX (fun h => ?_) (fun h => ?_)) <;> simp only [h]) | refine awp_cond_t rfl ?_ | refine awp_cond_f rfl ?_ | ((refine awp_cond rfl (fun h => ?_) (fun h => ?_) <;> try simp only [ifs] at h) <;> (try (exfalso; omega))) | refine awp_ret ?_))
    (refine AWP.emb (emb_nilB 5 1 30 1 rfl rfl (by simp)) ?_; simp only [List.set_cons_zero, List.set_cons_succ, lk, ↓reduceIte, Nat.reduceAdd])
    (refine AWP.emb (emb_nilB 5 2 3 1 rfl rfl (by simp)) ?_; simp only [List.set_cons_zero, List.set_cons_succ, lk, ↓reduceIte, Nat.reduceAdd])
    refine awp_loop (fun k : Nat => ⟨[(7, .r (.int .i64 k)), (6, .p 5 0 0), (5, .p 4 0 0), (4, .r (.int .i64 i)), (3, .p 2 0 0), (2, .p 1 0 0), (1, .p 0 0 0)], [(0, .box 24 [.ro t 5 (ps.map eP), .r (.int .i64 root)]), (1, .box 24 [.r (.slice none 0 0), .r (.int .i64 0)]), (2, .box 24 [.s 3 0 i, .r (.int .i64 root)]), (3, .ul 52 5 ((ps.take i).map uP) []), (4, .box 52 (eP p)), (5, .box 52 [.r (.bool p.leaf), .s 6 0 (k), .s 7 0 (0), .ro true 1 (p.high.map eByte), .r (.int .i64 p.next)]), (6, .lst 30 1 ((p.keys.take k).map eKy)), (7, .lst 3 1 [])], 8⟩) (fun k => k ≤ p.keys.length) (fun k => p.keys.length - k) 0 ?_ ?_ ?_
    · exact Nat.zero_le _
    · (refine emb [0, 1, 2, 3, 4, 5, 6, 7] ?_ ?_ rfl ?_ ?_ ?_ ?_ <;> simp [okM, okO, lk, ren, renL, renNd, by_, hE, eP, renOp] <;> (try omega) <;> (try (intro i hi; first | (rcases i with _ | _ | i; rfl; rfl; (exfalso; omega)) | (rcases i with _ | _ | _ | i; rfl; rfl; rfl; (exfalso; omega)) | (rcases i with _ | _ | _ | _ | i; rfl; rfl; rfl; rfl; (exfalso; omega)) | (rcases i with _ | _ | _ | _ | _ | i; rfl; rfl; rfl; rfl; rfl; (exfalso; omega)) | (rcases i with _ | _ | _ | _ | _ | _ | i; rfl; rfl; rfl; rfl; rfl; rfl; (exfalso; omega)))))
    intro k hk
    by_cases hkl : k < p.keys.length
    · have zk : ((k : Int) < (p.keys.length : Int)) = True := eq_true (by omega)
      obtain ⟨x, hx⟩ : ∃ x, p.keys[k]? = some x := ⟨p.keys[k], by simp [hkl]⟩
      have xc := bytesCopy_con E.G true x (h4 x (List.mem_of_getElem? hx))
      have htk : p.keys.take (k + 1) = p.keys.take k ++ [x] := by rw [List.take_add_one, hx]; rfl
      have hl : (p.keys.take k).length = k := by rw [List.length_take]; omega
      (repeat' (first | refine awp_seq ?_ | refine awp_block ?_ | refine awp_skip ?_ | refine awp_exit ?_ | ((first | refine rR (fun K kp hK hkp => ?_) | refine rD (id := 15) mixed 8 [0,1,2,3,4,5,6,7] (fun K kp hK hkp => ?_) | refine cR xc ?_ | refine cD xc ?_ | refine iG ?_ | refine iD ?_); simp (implicitDefEqProofs := false) (maxSteps := 2000000) (disch := omega) only [go_sem, zk, hx, eP, eKy, hl, Value.oneCell']; (repeat' (first | (refine hK _ ?_; clear hK hkp kp K) | (with_reducible refine And.intro ?_ ?_) | omega))) | ((first | refine aG (fun h => ?_) (fun h => ?_) | refine aD (fun h => ?_) (fun h => ?_) | refine aX (fun h => ?_) (fun h => ?_)) <;> simp only [h]) | refine awp_cond_t rfl ?_ | refine awp_cond_f rfl ?_ | ((refine awp_cond rfl (fun h => ?_) (fun h => ?_) <;> try simp only [ifs] at h) <;> (try (exfalso; omega))) | refine awp_ret ?_))
      ((first | (refine nextB (k + 1) ?_ ?_ ?_) | (refine nextA (k + 1) ?_ ?_ ?_) | (refine nextE (k + 1) ?_ ?_ ?_)); rotate_left; (· (try dsimp only); (first | omega | (simp only [List.length_drop, List.length_cons, List.length_append]; omega) | (simp; done) | (simp; omega))); (· (refine emb [0, 1, 2, 3, 4, 5, 9, 7] ?_ ?_ rfl ?_ ?_ ?_ ?_ <;> simp [okM, okO, lk, ren, renL, renNd, by_, hE, renOp, htk, eKy, eP, List.take_take, Nat.min_self] <;> (try omega) <;> (try (intro i hi; first | (rcases i with _ | _ | i; rfl; rfl; (exfalso; omega)) | (rcases i with _ | _ | _ | i; rfl; rfl; rfl; (exfalso; omega)) | (rcases i with _ | _ | _ | _ | i; rfl; rfl; rfl; rfl; (exfalso; omega)) | (rcases i with _ | _ | _ | _ | _ | i; rfl; rfl; rfl; rfl; rfl; (exfalso; omega)) | (rcases i with _ | _ | _ | _ | _ | _ | i; rfl; rfl; rfl; rfl; rfl; rfl; (exfalso; omega)))))))
      omega
    · obtain rfl : k = p.keys.length := by omega
      rw [List.take_length]
      (repeat' (first | refine awp_seq ?_ | refine awp_block ?_ | refine awp_skip ?_ | refine awp_exit ?_ | ((first | refine rR (fun K kp hK hkp => ?_) | refine rD (id := 15) mixed 8 [0,1,2,3,4,5,6,7] (fun K kp hK hkp => ?_) | refine iG ?_ | refine iD ?_); simp (implicitDefEqProofs := false) (maxSteps := 2000000) (disch := omega) only [go_sem, eP]; (repeat' (first | (refine hK _ ?_; clear hK hkp kp K) | (with_reducible refine And.intro ?_ ?_) | omega))) | ((first | refine aG (fun h => ?_) (fun h => ?_) | refine aD (fun h => ?_) (fun h => ?_) | refine aX (fun h => ?_) (fun h => ?_)) <;> simp only [h]) | refine awp_cond_t rfl ?_ | refine awp_cond_f rfl ?_ | ((refine awp_cond rfl (fun h => ?_) (fun h => ?_) <;> try simp only [ifs] at h) <;> (try (exfalso; omega))) | refine awp_ret ?_))
      refine awp_loop (fun k : Nat => ⟨[(9, .r (.int .i64 k)), (6, .p 5 0 0), (5, .p 4 0 0), (4, .r (.int .i64 i)), (3, .p 2 0 0), (2, .p 1 0 0), (1, .p 0 0 0)], [(0, .box 24 [.ro t 5 (ps.map eP), .r (.int .i64 root)]), (1, .box 24 [.r (.slice none 0 0), .r (.int .i64 0)]), (2, .box 24 [.s 3 0 i, .r (.int .i64 root)]), (3, .ul 52 5 ((ps.take i).map uP) []), (4, .box 52 (eP p)), (5, .box 52 [.r (.bool p.leaf), .s 6 0 (p.keys.length), .s 7 0 (k), .ro true 1 (p.high.map eByte), .r (.int .i64 p.next)]), (6, .lst 30 1 (p.keys.map eKy)), (7, .lst 3 1 ((p.kids.take k).map eI))], 8⟩) (fun k => k ≤ p.kids.length) (fun k => p.kids.length - k) 0 ?_ ?_ ?_
      · exact Nat.zero_le _
      · (refine emb [0, 1, 2, 3, 4, 5, 6, 7] ?_ ?_ rfl ?_ ?_ ?_ ?_ <;> simp [okM, okO, lk, ren, renL, renNd, by_, hE, eP, renOp] <;> (try omega) <;> (try (intro i hi; first | (rcases i with _ | _ | i; rfl; rfl; (exfalso; omega)) | (rcases i with _ | _ | _ | i; rfl; rfl; rfl; (exfalso; omega)) | (rcases i with _ | _ | _ | _ | i; rfl; rfl; rfl; rfl; (exfalso; omega)) | (rcases i with _ | _ | _ | _ | _ | i; rfl; rfl; rfl; rfl; rfl; (exfalso; omega)) | (rcases i with _ | _ | _ | _ | _ | _ | i; rfl; rfl; rfl; rfl; rfl; rfl; (exfalso; omega)))))
      intro k hk
      by_cases hkl : k < p.kids.length
      · have zk : ((k : Int) < (p.kids.length : Int)) = True := eq_true (by omega)
        obtain ⟨x, hx⟩ : ∃ x, p.kids[k]? = some x := ⟨p.kids[k], by simp [hkl]⟩
        have htk : p.kids.take (k + 1) = p.kids.take k ++ [x] := by rw [List.take_add_one, hx]; rfl
        have hl : (p.kids.take k).length = k := by rw [List.length_take]; omega
        (repeat' (first | refine awp_seq ?_ | refine awp_block ?_ | refine awp_skip ?_ | refine awp_exit ?_ | ((first | refine rR (fun K kp hK hkp => ?_) | refine rX (id := 15) mixed [7] 9 [0,1,2,3,4,5,6,7,8] (fun K kp hK hkp => ?_) | refine iG ?_ | refine iD ?_); simp (implicitDefEqProofs := false) (maxSteps := 2000000) (disch := omega) only [go_sem, zk, hx, eP, eI, hl, Value.oneCell']; (repeat' (first | (refine hK _ ?_; clear hK hkp kp K) | (with_reducible refine And.intro ?_ ?_) | omega))) | ((first | refine aG (fun h => ?_) (fun h => ?_) | refine aD (fun h => ?_) (fun h => ?_) | refine aX (fun h => ?_) (fun h => ?_)) <;> simp only [h]) | refine awp_cond_t rfl ?_ | refine awp_cond_f rfl ?_ | ((refine awp_cond rfl (fun h => ?_) (fun h => ?_) <;> try simp only [ifs] at h) <;> (try (exfalso; omega))) | refine awp_ret ?_))
        ((first | (refine nextB (k + 1) ?_ ?_ ?_) | (refine nextA (k + 1) ?_ ?_ ?_) | (refine nextE (k + 1) ?_ ?_ ?_)); rotate_left; (· (try dsimp only); (first | omega | (simp only [List.length_drop, List.length_cons, List.length_append]; omega) | (simp; done) | (simp; omega))); (· (refine emb [0, 1, 2, 3, 4, 5, 6, 9] ?_ ?_ rfl ?_ ?_ ?_ ?_ <;> simp [okM, okO, lk, ren, renL, renNd, by_, hE, renOp, htk, eI, eP, List.take_take, Nat.min_self] <;> (try omega) <;> (try (intro i hi; first | (rcases i with _ | _ | i; rfl; rfl; (exfalso; omega)) | (rcases i with _ | _ | _ | i; rfl; rfl; rfl; (exfalso; omega)) | (rcases i with _ | _ | _ | _ | i; rfl; rfl; rfl; rfl; (exfalso; omega)) | (rcases i with _ | _ | _ | _ | _ | i; rfl; rfl; rfl; rfl; rfl; (exfalso; omega)) | (rcases i with _ | _ | _ | _ | _ | _ | i; rfl; rfl; rfl; rfl; rfl; rfl; (exfalso; omega)))))))
        omega
      · obtain rfl : k = p.kids.length := by omega
        rw [List.take_length]
        have hl : (ps.take i).length = i := by rw [List.length_take]; omega
        have ht : ps.take (i + 1) = ps.take i ++ [p] := by rw [List.take_add_one, hp]; rfl
        (refine AWP.emb (emb_toU (T := ?z2T) (k := ?z2k) (els := ?z2e) 6 ?z2h) ?z2g; (case z2h => rfl); simp only [setNd])
        (refine AWP.emb (emb_toU (T := ?z3T) (k := ?z3k) (els := ?z3e) 7 ?z3h) ?z3g; (case z3h => rfl); simp only [setNd])
        have hll : ((ps.take i).map uP).length = i := by rw [List.length_map, hl]
        have hs3 : ((ps.take i).map uP ++ [uP p]) = (ps.take (i + 1)).map uP := by rw [ht, List.map_append]; rfl
        (repeat' (first | refine awp_seq ?_ | refine awp_block ?_ | refine awp_skip ?_ | refine awp_exit ?_ | ((first | refine rR (fun K kp hK hkp => ?_) | refine rD (id := 15) mixed 8 [0,1,2,3,4,5,6,7] (fun K kp hK hkp => ?_) | refine iG ?_ | refine iD ?_); simp (implicitDefEqProofs := false) (maxSteps := 2000000) (disch := omega) only [go_sem, eP, hl, ne_eq, reduceCtorEq, not_false_eq_true, Option.some.injEq, Nat.reduceEqDiff]; (repeat' (first | (refine hK _ ?_; clear hK hkp kp K) | (with_reducible refine And.intro ?_ ?_) | omega))) | ((first | refine aG (fun h => ?_) (fun h => ?_) | refine aD (fun h => ?_) (fun h => ?_) | refine aX (fun h => ?_) (fun h => ?_)) <;> simp only [h]) | refine awp_cond_t rfl ?_ | refine awp_cond_f rfl ?_ | ((refine awp_cond rfl (fun h => ?_) (fun h => ?_) <;> try simp only [ifs] at h) <;> (try (exfalso; omega))) | refine awp_ret ?_))
        refine nextA (i + 1) ?_ ?_ ?_
        · show i + 1 ≤ ps.length
          omega
        · show ps.length - (i + 1) < ps.length - i
          omega
        have htk1 : (p.keys.map eKy).take p.keys.length = p.keys.map eKy := List.take_of_length_le (by simp)
        have htk2 : (p.kids.map eI).take p.kids.length = p.kids.map eI := List.take_of_length_le (by simp)
        (refine Emb.trans (emb_close (T := ?z4T) (k := ?z4k) (els := ?z4e) (T' := ?z4T1) (k' := ?z4k1) (els' := ?z4e1) (op := ?z4op) (e := ?z4ee) (m := ?z4m) (lo := ?z4lo) (len := ?z4len) 9 i 1 ?z4h ?z4ho ?z4hm ?z4hn ?z4hl ?z4he ?z4hj) ?z4g; (case z4h => rfl); (case z4he => exact at_end _ hll); (case z4ho => (simp only [lk2, and_self, if_true, ↓reduceIte, List.length_map, htk1, set_end _ _ hll, true_and, Nat.reduceLeDiff, Nat.reduceAdd, Nat.lt_irrefl, and_false]; rfl)); (case z4hm => rfl); (case z4hn => simp); (case z4hl => simp [List.length_map, htk1, set_end _ _ hll, true_and, Nat.reduceLeDiff, Nat.reduceAdd, Nat.lt_irrefl, and_false]); (case z4hj => simp [List.length_map, htk1, set_end _ _ hll, true_and, Nat.reduceLeDiff, Nat.reduceAdd, Nat.lt_irrefl, and_false]); simp only [rm, rm2, and_self, Nat.le_refl, Nat.zero_add, Nat.lt_add_one, Nat.reduceLT, Nat.reduceEqDiff, ↓reduceIte, if_true, List.drop_zero, List.set_cons_zero, List.set_cons_succ, List.length_map, htk1, set_end _ _ hll, true_and, Nat.reduceLeDiff, Nat.reduceAdd, Nat.lt_irrefl, and_false])
        (refine Emb.trans (emb_close (T := ?z5T) (k := ?z5k) (els := ?z5e) (T' := ?z5T1) (k' := ?z5k1) (els' := ?z5e1) (op := ?z5op) (e := ?z5ee) (m := ?z5m) (lo := ?z5lo) (len := ?z5len) 9 i 2 ?z5h ?z5ho ?z5hm ?z5hn ?z5hl ?z5he ?z5hj) ?z5g; (case z5h => rfl); (case z5he => exact at_end _ hll); (case z5ho => (simp only [lk2, and_self, if_true, ↓reduceIte, List.length_map, htk2, set_end _ _ hll, true_and, Nat.reduceLeDiff, Nat.reduceAdd, Nat.lt_irrefl, and_false]; rfl)); (case z5hm => rfl); (case z5hn => simp); (case z5hl => simp [List.length_map, htk2, set_end _ _ hll, true_and, Nat.reduceLeDiff, Nat.reduceAdd, Nat.lt_irrefl, and_false]); (case z5hj => simp [List.length_map, htk2, set_end _ _ hll, true_and, Nat.reduceLeDiff, Nat.reduceAdd, Nat.lt_irrefl, and_false]); simp only [rm, rm2, and_self, Nat.le_refl, Nat.zero_add, Nat.lt_add_one, Nat.reduceLT, Nat.reduceEqDiff, ↓reduceIte, if_true, List.drop_zero, List.set_cons_zero, List.set_cons_succ, List.length_map, htk2, set_end _ _ hll, true_and, Nat.reduceLeDiff, Nat.reduceAdd, Nat.lt_irrefl, and_false])
        change Emb _ _ ⟨_, (9, .ul _ _ (_ ++ [uP p]) _) :: _, _⟩ _
        rw [hs3]
        (refine emb [0, 1, 2, 9] ?_ ?_ rfl ?_ ?_ ?_ ?_ <;> simp [okM, okO, lk, ren, renL, renNd, by_, hE, renOp] <;> (try omega) <;> (try (intro i hi; first | (rcases i with _ | _ | i; rfl; rfl; (exfalso; omega)) | (rcases i with _ | _ | _ | i; rfl; rfl; rfl; (exfalso; omega)) | (rcases i with _ | _ | _ | _ | i; rfl; rfl; rfl; rfl; (exfalso; omega)) | (rcases i with _ | _ | _ | _ | _ | i; rfl; rfl; rfl; rfl; rfl; (exfalso; omega)) | (rcases i with _ | _ | _ | _ | _ | _ | i; rfl; rfl; rfl; rfl; rfl; rfl; (exfalso; omega)))))
  · obtain rfl : i = ps.length := by omega
    rw [List.take_length]
    (repeat' (first | refine awp_seq ?_ | refine awp_block ?_ | refine awp_skip ?_ | refine awp_exit ?_ | ((first | refine rR (fun K kp hK hkp => ?_) | refine rD (id := 15) mixed 8 [0,1,2,3,4,5,6,7] (fun K kp hK hkp => ?_) | refine iG ?_ | refine iD ?_); simp (implicitDefEqProofs := false) (maxSteps := 2000000) (disch := omega) only [go_sem]; (repeat' (first | (refine hK _ ?_; clear hK hkp kp K) | (with_reducible refine And.intro ?_ ?_) | omega))) | ((first | refine aG (fun h => ?_) (fun h => ?_) | refine aD (fun h => ?_) (fun h => ?_) | refine aX (fun h => ?_) (fun h => ?_)) <;> simp only [h]) | refine awp_cond_t rfl ?_ | refine awp_cond_f rfl ?_ | ((refine awp_cond rfl (fun h => ?_) (fun h => ?_) <;> try simp only [ifs] at h) <;> (try (exfalso; omega))) | refine awp_ret ?_))
    (refine retA_is (by (simp (implicitDefEqProofs := false) (maxSteps := 2000000) (disch := omega) only [go_sem, Go.Proofs.Try.results26, renOp]); rfl) ?_; refine (embV [3] ?_ ?_ ?_ ?_ ?_ ?_).s <;> simp [oneA, okO, lk, ren, renL, renNd, by_, hE, renOp] <;> (try (intro i hi; first | (rcases i with _ | _ | i; rfl; rfl; (exfalso; omega)) | (rcases i with _ | _ | _ | i; rfl; rfl; rfl; (exfalso; omega)) | (rcases i with _ | _ | _ | _ | i; rfl; rfl; rfl; rfl; (exfalso; omega)) | (rcases i with _ | _ | _ | _ | _ | i; rfl; rfl; rfl; rfl; rfl; (exfalso; omega)) | (rcases i with _ | _ | _ | _ | _ | _ | i; rfl; rfl; rfl; rfl; rfl; rfl; (exfalso; omega)))))
end Go.AM
/- padlockref.added, Inserted; the law TreeInserts. -/
namespace Go.AM
open Go Go.RowKit
attribute [local irreducible] AWP retA
theorem addF_len (ps : List PG) (k : Ky) (row : Int) : ∀ (d i : Nat), (addF ps k row d i).1.length ≤ ps.length + d + 1 ∧ ps.length ≤ (addF ps k row d i).1.length
  | 0, i => by
    have := put_len ps i (rowX (pg ps i) (placeM (pg ps i) k) k row)
    rw [addF]; split at this <;> omega
  | d + 1, i => by
    have h := addF_len ps k row d (kidM ps k i)
    rw [addF]
    cases he : (addF ps k row d (kidM ps k i)).2 with
    | none => simp only; omega
    | some x =>
      obtain ⟨up, n⟩ := x
      have := put_len (addF ps k row d (kidM ps k i)).1 i (rowX (pg ps i) (placeM (pg ps i) k) up n)
      simp only
      split at this <;> omega
theorem pg_keys {ps : List PG} (hp : AllOK ps) (i : Nat) {y : Ky} (hy : y ∈ (pg ps i).keys) : y ≠ [] ∧ y.length ≤ 100 := by
  by_cases h : i < ps.length
  · have hok := ok_in hp h
    obtain ⟨j, hj⟩ := List.mem_iff_getElem?.1 hy
    have := (hok.ks j (List.getElem?_eq_some_iff.1 hj).1).1
    rw [List.getD_eq_getElem?_getD, hj, Option.getD_some, keyB, Bool.and_eq_true, decide_eq_true_eq, decide_eq_true_eq] at this
    exact ⟨key_page hok hy, by omega⟩
  · have : pg ps i = default := by rw [pg, List.getD_eq_getElem?_getD, List.getElem?_eq_none (by omega)]; rfl
    rw [this] at hy; cases hy
theorem put_up {ps : List PG} (hp : AllOK ps) {qs : List PG} {i a : Nat} {up : Ky} {kid : Int} (hu : up ≠ [] ∧ up.length ≤ 100) {u : Ky} {n : Int} (h : (putM qs i (rowX (pg ps i) a up kid)).2 = some (u, n)) : u ≠ [] ∧ u.length ≤ 100 := by
  unfold putM at h
  split at h
  · cases h
  · rename_i hl
    have hm := mid_mem hl
    obtain ⟨rfl, _⟩ : midM _ = u ∧ _ := by simpa using h
    rcases insX_mem hm with e | hm
    · rw [e]; exact hu
    · exact pg_keys hp i hm
theorem addF_up {ps : List PG} (hp : AllOK ps) {k : Ky} (hk : k ≠ [] ∧ k.length ≤ 100) (row : Int) : ∀ (d i : Nat) (u : Ky) (n : Int), (addF ps k row d i).2 = some (u, n) → u ≠ [] ∧ u.length ≤ 100
  | 0, i, u, n, h => put_up hp hk h
  | d + 1, i, u, n, h => by
    rw [addF] at h
    cases he : (addF ps k row d (kidM ps k i)).2 with
    | none => rw [he] at h; cases h
    | some x =>
      obtain ⟨up, m⟩ := x
      rw [he] at h
      exact put_up hp (addF_up hp hk row d _ up m he) h
/-- What is not too long. -/
def okP (p : PG) : Prop := p.keys.length ≤ 1048576 ∧ p.kids.length ≤ 1048576 ∧ p.high.length ≤ 1048576 ∧ ∀ k ∈ p.keys, k.length ≤ 1048576
theorem put_ok {qs : List PG} {i : Nat} {q : PG} (h : ∀ p ∈ qs, okP p) (hq : okP q) : ∀ p ∈ (putM qs i q).1, okP p := by
  unfold putM
  split
  · intro p hp
    rcases List.mem_or_eq_of_mem_set hp with hp | rfl
    · exact h p hp
    · exact hq
  · rename_i hl
    intro p hp
    rcases List.mem_append.1 hp with hp | hp
    · rcases List.mem_or_eq_of_mem_set hp with hp | rfl
      · exact h p hp
      · exact ⟨Nat.le_trans (List.length_take_le' ..) hq.1, Nat.le_trans (List.length_take_le' ..) hq.2.1, hq.2.2.2 _ (mid_mem hl), fun k hk => hq.2.2.2 k (List.mem_of_mem_take hk)⟩
    · obtain rfl := List.mem_singleton.1 hp
      refine ⟨?_, ?_, hq.2.2.1, fun k hk => hq.2.2.2 k (List.mem_of_mem_drop hk)⟩
      · have := hq.1; simp only [rightM, List.length_drop]; omega
      · have := hq.2.1; simp only [rightM, List.length_drop]; omega
theorem row_ok {ps : List PG} (hp : AllOK ps) (i a : Nat) {up : Ky} (kid : Int) (hu : up.length ≤ 100) : okP (rowX (pg ps i) a up kid) := by
  have hl : ∀ {α : Type} (l : List α) (j : Nat) (x : α), (insX l j x).length ≤ l.length + 1 := fun l j x => by
    unfold insX; rw [List.length_append, List.length_cons, List.length_take, List.length_drop]; omega
  have hp4 : (pg ps i).keys.length ≤ 4 ∧ (pg ps i).kids.length ≤ 5 ∧ (pg ps i).high.length ≤ 100 := by
    by_cases h : i < ps.length
    · have hok := ok_in hp h
      refine ⟨hok.nk, ?_, hok.nh⟩
      have := hok.nk
      cases hlf : (pg ps i).leaf
      · have := hok.ki hlf; omega
      · have := hok.kl hlf; omega
    · have : pg ps i = default := by rw [pg, List.getD_eq_getElem?_getD, List.getElem?_eq_none (by omega)]; rfl
      rw [this]; exact ⟨Nat.zero_le _, Nat.zero_le _, Nat.zero_le _⟩
  refine ⟨Nat.le_trans (hl _ _ _) (by omega), Nat.le_trans (hl _ _ _) (by omega), Nat.le_trans hp4.2.2 (by omega), fun k hk => ?_⟩
  rcases insX_mem hk with e | hk
  · rw [e]; omega
  · have := (pg_keys hp i hk).2; omega
theorem addF_ok {ps : List PG} (hp : AllOK ps) (ho : ∀ p ∈ ps, okP p) {k : Ky} (hk : k ≠ [] ∧ k.length ≤ 100) (row : Int) : ∀ (d i : Nat), ∀ p ∈ (addF ps k row d i).1, okP p
  | 0, i => put_ok ho (row_ok hp i _ row hk.2)
  | d + 1, i => by
    have ih := addF_ok hp ho hk row d (kidM ps k i)
    rw [addF]
    cases he : (addF ps k row d (kidM ps k i)).2 with
    | none => exact ih
    | some x =>
      obtain ⟨up, m⟩ := x
      exact put_ok ih (row_ok hp i _ m (addF_up hp hk row d _ up m he).2)
set_option maxRecDepth 100000 in
set_option maxHeartbeats 4000000 in
theorem added_none (G : List (Nat × List Value)) (t : Bool) (ps qs : List PG) (root : Int) (i : Nat) (p : PG) (k : Ky) (row : Int) (hp : ps[i]? = some p) (h4 : p.keys.length ≤ 4) (hk : k.length ≤ 1048576) (at_ : Nat) (hat : at_ ≤ p.keys.length) (hlo : ∀ (j : Nat) (x : Ky), j < at_ → p.keys[j]? = some x → ltK k x = false) (hhi : ∀ x, p.keys[at_]? = some x → ltK k x = true) (hlf : p.leaf = false)
    (c : Nat) (hc : p.kids[at_]? = some (c : Int)) (IH : Con Go.Proofs.Try.prog G 51 [.p 0 0 0, .r (.int .i64 c), .ro t 1 (k.map eByte), .r (.int .i64 row)] (ownI root 1 ps) 2 (Is (insA (qs, none)) (ownI root 2 qs) 3) No) :
    Con Go.Proofs.Try.prog G 51 [.p 0 0 0, .r (.int .i64 i), .ro t 1 (k.map eByte), .r (.int .i64 row)] (ownI root 1 ps) 2 (Is (insA (qs, none)) (ownI root 2 qs) 3) No := by
  have hi : i < ps.length := (List.getElem?_eq_some_iff.1 hp).1
  have zi : ((i : Int) < (ps.length : Int)) = True := eq_true (by omega)
  have zc : ((at_ : Int) < (p.kids.length : Int)) = True := eq_true (by have := (List.getElem?_eq_some_iff.1 hc).1; omega)
  have bc := bytesCopy_con G t k hk
  rw [ownI, ownI, insA] at *
  simp only at IH ⊢
  refine con_of_awp Go.Proofs.Try.func51 rfl (by kernel_rfl) (of_decide_eq_true (by kernel_rfl)) ?_; intro E hG hE; subst hG; simp only [ent]
  (repeat' (first | refine awp_seq ?_ | refine awp_block ?_ | refine awp_skip ?_ | refine awp_exit ?_ | ((first | refine rR (fun K kp hK hkp => ?_) | refine rD (id := 19) mixed 8 [0,1,2,3,4,5,6,7] (fun K kp hK hkp => ?_) | refine rD (id := 31) mixed 8 [0,1,2,3,4,5,6,7] (fun K kp hK hkp => ?_) | refine rD (id := 33) mixed 7 [0,1,2,3,4,5,6] (fun K kp hK hkp => ?_) | refine rD (id := 37) mixed 14 [0,1,2,3,4,5,6,7,8,9,10,11,12,13] (fun K kp hK hkp => ?_) | refine rD (id := 42) mixed 7 [0,1,2,3,4,5,6] (fun K kp hK hkp => ?_) | refine rX (id := 43) mixed [] 11 [0,1,2,3,4,5,6,7,8,9,10] (fun K kp hK hkp => ?_) | refine rD (id := 44) mixed 9 [0,1,2,3,4,5,6,7,8] (fun K kp hK hkp => ?_) | refine iG ?_ | refine iD ?_ | refine iX ?_); simp (implicitDefEqProofs := false) (maxSteps := 2000000) (disch := omega) only [go_sem, zi, hp, eP]; (repeat' (first | (refine hK _ ?_; clear hK hkp kp K) | (with_reducible refine And.intro ?_ ?_) | omega))) | ((first | refine aG (fun h => ?_) (fun h => ?_) | refine aD (fun h => ?_) (fun h => ?_) | refine aX (fun h => ?_) (fun h => ?_)) <;> simp only [h]) | refine awp_cond_t rfl ?_ | refine awp_cond_f rfl ?_ | ((refine awp_cond rfl (fun h => ?_) (fun h => ?_) <;> try simp only [ifs] at h) <;> (try (exfalso; omega))) | refine awp_ret ?_))
  refine awp_blk (fx := ⟨[(11, .r (.int .i64 at_)), (10, .p 2 0 0), (9, .r (.int .i64 0)), (8, .r (.slice none 0 0)), (0, .p 0 0 0), (1, .r (.int .i64 i)), (2, .ro t 1 (k.map eByte)), (3, .r (.int .i64 row))], [(0, .box 24 [.s 1 0 ps.length, .r (.int .i64 root)]), (1, .lst 52 5 (ps.map eP)), (2, .box 52 (eP p))], 3⟩) ?_ fun K hcut => ?_
  rotate_left
  · refine awp_loop (fun j : Nat => ⟨[(11, .r (.int .i64 j)), (10, .p 2 0 0), (9, .r (.int .i64 0)), (8, .r (.slice none 0 0)), (0, .p 0 0 0), (1, .r (.int .i64 i)), (2, .ro t 1 (k.map eByte)), (3, .r (.int .i64 row))], [(0, .box 24 [.s 1 0 ps.length, .r (.int .i64 root)]), (1, .lst 52 5 (ps.map eP)), (2, .box 52 (eP p))], 3⟩) (fun j => j ≤ at_) (fun j => at_ - j) 0 ?_ ?_ ?_
    · exact Nat.zero_le _
    · (refine emb [0, 1, 2] ?_ ?_ rfl ?_ ?_ ?_ ?_ <;> simp [okM, okO, lk, ren, renL, renNd, by_, hE, eP] <;> (try omega) <;> (try (intro i hi; first | (rcases i with _ | _ | i; rfl; rfl; (exfalso; omega)) | (rcases i with _ | _ | _ | i; rfl; rfl; rfl; (exfalso; omega)) | (rcases i with _ | _ | _ | _ | i; rfl; rfl; rfl; rfl; (exfalso; omega)) | (rcases i with _ | _ | _ | _ | _ | i; rfl; rfl; rfl; rfl; rfl; (exfalso; omega)) | (rcases i with _ | _ | _ | _ | _ | _ | i; rfl; rfl; rfl; rfl; rfl; rfl; (exfalso; omega)))))
    intro j hj
    by_cases hjl : j < p.keys.length
    · have zj : ((j : Int) < (p.keys.length : Int)) = True := eq_true (by omega)
      obtain ⟨x, hx⟩ : ∃ x, p.keys[j]? = some x := ⟨_, List.getElem?_eq_getElem hjl⟩
      have kb := keyBefore_con E.G t true k x
      by_cases hja : j < at_
      · have hb : Op.bytesLess k x = false := hlo j x hja hx
        rw [hb] at kb
        (repeat' (first | refine awp_seq ?_ | refine awp_block ?_ | refine awp_skip ?_ | refine awp_exit ?_ | ((first | refine rR (fun K kp hK hkp => ?_) | refine rD (id := 19) mixed 8 [0,1,2,3,4,5,6,7] (fun K kp hK hkp => ?_) | refine rD (id := 31) mixed 8 [0,1,2,3,4,5,6,7] (fun K kp hK hkp => ?_) | refine rD (id := 33) mixed 7 [0,1,2,3,4,5,6] (fun K kp hK hkp => ?_) | refine rD (id := 37) mixed 14 [0,1,2,3,4,5,6,7,8,9,10,11,12,13] (fun K kp hK hkp => ?_) | refine rD (id := 42) mixed 7 [0,1,2,3,4,5,6] (fun K kp hK hkp => ?_) | refine rX (id := 43) mixed [] 11 [0,1,2,3,4,5,6,7,8,9,10] (fun K kp hK hkp => ?_) | refine rD (id := 44) mixed 9 [0,1,2,3,4,5,6,7,8] (fun K kp hK hkp => ?_) | refine cR kb ?_ | refine cD kb ?_ | refine cX kb ?_ | refine iG ?_ | refine iD ?_ | refine iX ?_); simp (implicitDefEqProofs := false) (maxSteps := 2000000) (disch := omega) only [go_sem, zj, hx, eP, eKy]; (repeat' (first | (refine hK _ ?_; clear hK hkp kp K) | (with_reducible refine And.intro ?_ ?_) | omega))) | ((first | refine aG (fun h => ?_) (fun h => ?_) | refine aD (fun h => ?_) (fun h => ?_) | refine aX (fun h => ?_) (fun h => ?_)) <;> simp only [h]) | refine awp_cond_t rfl ?_ | refine awp_cond_f rfl ?_ | ((refine awp_cond rfl (fun h => ?_) (fun h => ?_) <;> try simp only [ifs] at h) <;> (try (exfalso; omega))) | refine awp_ret ?_))
        ((first | (refine nextB (j + 1) ?_ ?_ ?_) | (refine nextA (j + 1) ?_ ?_ ?_) | (refine nextE (j + 1) ?_ ?_ ?_)); rotate_left; (· (try dsimp only); (first | omega | (simp only [List.length_drop, List.length_cons, List.length_append]; omega) | (simp; done) | (simp; omega))); (· (refine emb [0, 1, 2] ?_ ?_ rfl ?_ ?_ ?_ ?_ <;> simp [okM, okO, lk, ren, renL, renNd, by_, hE, eP] <;> (try omega) <;> (try (intro i hi; first | (rcases i with _ | _ | i; rfl; rfl; (exfalso; omega)) | (rcases i with _ | _ | _ | i; rfl; rfl; rfl; (exfalso; omega)) | (rcases i with _ | _ | _ | _ | i; rfl; rfl; rfl; rfl; (exfalso; omega)) | (rcases i with _ | _ | _ | _ | _ | i; rfl; rfl; rfl; rfl; rfl; (exfalso; omega)) | (rcases i with _ | _ | _ | _ | _ | _ | i; rfl; rfl; rfl; rfl; rfl; rfl; (exfalso; omega)))))))
        omega
      · obtain rfl : j = at_ := by omega
        have hb : Op.bytesLess k x = true := hhi x hx
        rw [hb] at kb
        (repeat' (first | refine awp_seq ?_ | refine awp_block ?_ | refine awp_skip ?_ | refine awp_exit ?_ | ((first | refine rR (fun K kp hK hkp => ?_) | refine rD (id := 19) mixed 8 [0,1,2,3,4,5,6,7] (fun K kp hK hkp => ?_) | refine rD (id := 31) mixed 8 [0,1,2,3,4,5,6,7] (fun K kp hK hkp => ?_) | refine rD (id := 33) mixed 7 [0,1,2,3,4,5,6] (fun K kp hK hkp => ?_) | refine rD (id := 37) mixed 14 [0,1,2,3,4,5,6,7,8,9,10,11,12,13] (fun K kp hK hkp => ?_) | refine rD (id := 42) mixed 7 [0,1,2,3,4,5,6] (fun K kp hK hkp => ?_) | refine rX (id := 43) mixed [] 11 [0,1,2,3,4,5,6,7,8,9,10] (fun K kp hK hkp => ?_) | refine rD (id := 44) mixed 9 [0,1,2,3,4,5,6,7,8] (fun K kp hK hkp => ?_) | refine cR kb ?_ | refine cD kb ?_ | refine cX kb ?_ | refine iG ?_ | refine iD ?_ | refine iX ?_); simp (implicitDefEqProofs := false) (maxSteps := 2000000) (disch := omega) only [go_sem, zj, hx, eP, eKy]; (repeat' (first | (refine hK _ ?_; clear hK hkp kp K) | (with_reducible refine And.intro ?_ ?_) | omega))) | ((first | refine aG (fun h => ?_) (fun h => ?_) | refine aD (fun h => ?_) (fun h => ?_) | refine aX (fun h => ?_) (fun h => ?_)) <;> simp only [h]) | refine awp_cond_t rfl ?_ | refine awp_cond_f rfl ?_ | ((refine awp_cond rfl (fun h => ?_) (fun h => ?_) <;> try simp only [ifs] at h) <;> (try (exfalso; omega))) | refine awp_ret ?_))
        refine hcut _ ?_
        (refine emb [0, 1, 2] ?_ ?_ rfl ?_ ?_ ?_ ?_ <;> simp [okM, okO, lk, ren, renL, renNd, by_, hE, eP] <;> (try omega) <;> (try (intro i hi; first | (rcases i with _ | _ | i; rfl; rfl; (exfalso; omega)) | (rcases i with _ | _ | _ | i; rfl; rfl; rfl; (exfalso; omega)) | (rcases i with _ | _ | _ | _ | i; rfl; rfl; rfl; rfl; (exfalso; omega)) | (rcases i with _ | _ | _ | _ | _ | i; rfl; rfl; rfl; rfl; rfl; (exfalso; omega)) | (rcases i with _ | _ | _ | _ | _ | _ | i; rfl; rfl; rfl; rfl; rfl; rfl; (exfalso; omega)))))
    · have zj : ((j : Int) < (p.keys.length : Int)) = False := eq_false (by omega)
      obtain rfl : j = at_ := by omega
      (repeat' (first | refine awp_seq ?_ | refine awp_block ?_ | refine awp_skip ?_ | refine awp_exit ?_ | ((first | refine rR (fun K kp hK hkp => ?_) | refine rD (id := 19) mixed 8 [0,1,2,3,4,5,6,7] (fun K kp hK hkp => ?_) | refine rD (id := 31) mixed 8 [0,1,2,3,4,5,6,7] (fun K kp hK hkp => ?_) | refine rD (id := 33) mixed 7 [0,1,2,3,4,5,6] (fun K kp hK hkp => ?_) | refine rD (id := 37) mixed 14 [0,1,2,3,4,5,6,7,8,9,10,11,12,13] (fun K kp hK hkp => ?_) | refine rD (id := 42) mixed 7 [0,1,2,3,4,5,6] (fun K kp hK hkp => ?_) | refine rX (id := 43) mixed [] 11 [0,1,2,3,4,5,6,7,8,9,10] (fun K kp hK hkp => ?_) | refine rD (id := 44) mixed 9 [0,1,2,3,4,5,6,7,8] (fun K kp hK hkp => ?_) | refine iG ?_ | refine iD ?_ | refine iX ?_); simp (implicitDefEqProofs := false) (maxSteps := 2000000) (disch := omega) only [go_sem, zj, eP, eKy]; (repeat' (first | (refine hK _ ?_; clear hK hkp kp K) | (with_reducible refine And.intro ?_ ?_) | omega))) | ((first | refine aG (fun h => ?_) (fun h => ?_) | refine aD (fun h => ?_) (fun h => ?_) | refine aX (fun h => ?_) (fun h => ?_)) <;> simp only [h]) | refine awp_cond_t rfl ?_ | refine awp_cond_f rfl ?_ | ((refine awp_cond rfl (fun h => ?_) (fun h => ?_) <;> try simp only [ifs] at h) <;> (try (exfalso; omega))) | refine awp_ret ?_))
      refine hcut _ ?_
      (refine emb [0, 1, 2] ?_ ?_ rfl ?_ ?_ ?_ ?_ <;> simp [okM, okO, lk, ren, renL, renNd, by_, hE, eP] <;> (try omega) <;> (try (intro i hi; first | (rcases i with _ | _ | i; rfl; rfl; (exfalso; omega)) | (rcases i with _ | _ | _ | i; rfl; rfl; rfl; (exfalso; omega)) | (rcases i with _ | _ | _ | _ | i; rfl; rfl; rfl; rfl; (exfalso; omega)) | (rcases i with _ | _ | _ | _ | _ | i; rfl; rfl; rfl; rfl; rfl; (exfalso; omega)) | (rcases i with _ | _ | _ | _ | _ | _ | i; rfl; rfl; rfl; rfl; rfl; rfl; (exfalso; omega)))))
  (repeat' (first | refine awp_seq ?_ | refine awp_block ?_ | refine awp_skip ?_ | refine awp_exit ?_ | ((first | refine rR (fun K kp hK hkp => ?_) | refine rD (id := 19) mixed 8 [0,1,2,3,4,5,6,7] (fun K kp hK hkp => ?_) | refine rD (id := 31) mixed 8 [0,1,2,3,4,5,6,7] (fun K kp hK hkp => ?_) | refine rD (id := 33) mixed 7 [0,1,2,3,4,5,6] (fun K kp hK hkp => ?_) | refine rD (id := 37) mixed 14 [0,1,2,3,4,5,6,7,8,9,10,11,12,13] (fun K kp hK hkp => ?_) | refine rD (id := 42) mixed 7 [0,1,2,3,4,5,6] (fun K kp hK hkp => ?_) | refine rX (id := 43) mixed [] 11 [0,1,2,3,4,5,6,7,8,9,10] (fun K kp hK hkp => ?_) | refine rD (id := 44) mixed 9 [0,1,2,3,4,5,6,7,8] (fun K kp hK hkp => ?_) | refine cR bc ?_ | refine cD bc ?_ | refine cX bc ?_ | refine iG ?_ | refine iD ?_ | refine iX ?_); simp (implicitDefEqProofs := false) (maxSteps := 2000000) (disch := omega) only [go_sem, hlf, eP, zc, hc, eI]; (repeat' (first | (refine hK _ ?_; clear hK hkp kp K) | (with_reducible refine And.intro ?_ ?_) | omega))) | ((first | refine aG (fun h => ?_) (fun h => ?_) | refine aD (fun h => ?_) (fun h => ?_) | refine aX (fun h => ?_) (fun h => ?_)) <;> simp only [h]) | refine awp_cond_t rfl ?_ | refine awp_cond_f rfl ?_ | ((refine awp_cond rfl (fun h => ?_) (fun h => ?_) <;> try simp only [ifs] at h) <;> (try (exfalso; omega))) | refine awp_ret ?_))
  (refine callR_own [0, 1] (IH) ?_ ?_ ?_ ?_ ?_ ?_ ?_ ?_ rfl rfl ?_; (· simp [pasL, pas, idx, bor, borL, borC, lk, hlf, renOp]); (· simp [okO, lk, renNd, renL, ren, by_, hlf, renOp]); (· (intro i hi; simp only [List.length_cons, List.length_nil] at hi; repeat' (first | omega | exact ⟨_, rfl⟩ | (rcases i with _ | i)))); (· simp); (· simp); (· simp); (· simp [hlf, renOp]); (· simp [hlf, renOp]); simp only [mapO, fw, rmL, rm, List.map_cons, List.map_nil, List.foldl_cons, List.foldl_nil, List.getElem?_cons_zero, List.getElem?_cons_succ, List.getElem?_nil, List.length_cons, List.length_nil, Nat.zero_add, Nat.sub_self, Nat.add_zero, ↓reduceIte, Nat.reduceEqDiff, reduceCtorEq, Nat.reduceAdd, Nat.reduceSub, List.cons_append, List.nil_append, ren, renL, renNd, hlf, renOp]; simp (implicitDefEqProofs := false) (maxSteps := 2000000) (disch := omega) only [go_sem, hlf, renOp]; (repeat' (first | (refine hK _ ?_; clear hK hkp kp K) | (with_reducible refine And.intro ?_ ?_) | omega)))
  (repeat' (first | refine awp_seq ?_ | refine awp_block ?_ | refine awp_skip ?_ | refine awp_exit ?_ | ((first | refine rR (fun K kp hK hkp => ?_) | refine rD (id := 19) mixed 8 [0,1,2,3,4,5,6,7] (fun K kp hK hkp => ?_) | refine rD (id := 31) mixed 8 [0,1,2,3,4,5,6,7] (fun K kp hK hkp => ?_) | refine rD (id := 33) mixed 7 [0,1,2,3,4,5,6] (fun K kp hK hkp => ?_) | refine rD (id := 37) mixed 14 [0,1,2,3,4,5,6,7,8,9,10,11,12,13] (fun K kp hK hkp => ?_) | refine rD (id := 42) mixed 7 [0,1,2,3,4,5,6] (fun K kp hK hkp => ?_) | refine rX (id := 43) mixed [] 11 [0,1,2,3,4,5,6,7,8,9,10] (fun K kp hK hkp => ?_) | refine rD (id := 44) mixed 9 [0,1,2,3,4,5,6,7,8] (fun K kp hK hkp => ?_) | refine iG ?_ | refine iD ?_ | refine iX ?_); simp (implicitDefEqProofs := false) (maxSteps := 2000000) (disch := omega) only [go_sem, hlf]; (repeat' (first | (refine hK _ ?_; clear hK hkp kp K) | (with_reducible refine And.intro ?_ ?_) | omega))) | ((first | refine aG (fun h => ?_) (fun h => ?_) | refine aD (fun h => ?_) (fun h => ?_) | refine aX (fun h => ?_) (fun h => ?_)) <;> simp only [h]) | refine awp_cond_t rfl ?_ | refine awp_cond_f rfl ?_ | ((refine awp_cond rfl (fun h => ?_) (fun h => ?_) <;> try simp only [ifs] at h) <;> (try (exfalso; omega))) | refine awp_ret ?_))
  (refine retA_is (by (simp (implicitDefEqProofs := false) (maxSteps := 2000000) (disch := omega) only [go_sem, Go.Proofs.Try.results51]); rfl) ?_; refine (embV [0, 1, 3] ?_ ?_ ?_ ?_ ?_ ?_).s <;> simp [oneA, okO, lk, ren, renL, renNd, by_, hE] <;> (try (intro i hi; first | (rcases i with _ | _ | i; rfl; rfl; (exfalso; omega)) | (rcases i with _ | _ | _ | i; rfl; rfl; rfl; (exfalso; omega)) | (rcases i with _ | _ | _ | _ | i; rfl; rfl; rfl; rfl; (exfalso; omega)) | (rcases i with _ | _ | _ | _ | _ | i; rfl; rfl; rfl; rfl; rfl; (exfalso; omega)) | (rcases i with _ | _ | _ | _ | _ | _ | i; rfl; rfl; rfl; rfl; rfl; rfl; (exfalso; omega)))))
/-- The whole: below a page. -/
theorem added_con (G : List (Nat × List Value)) (t : Bool) {ps : List PG} (hp : AllOK ps) (hin : ∀ i x, x ∈ kidsOf ps i → x < ps.length) (hn : ps.length ≤ 4000) (root : Int) (k : Ky) (row : Int) (hk : k ≠ [] ∧ k.length ≤ 100) : ∀ (d i : Nat) (low high : Ky), Good ps d i low high → i < ps.length → d ≤ 4000 → ltK k low = false → (high = [] ∨ ltK k high = true) → thereM (pg ps (leafF ps k d i)) k = false →
    Con Go.Proofs.Try.prog G 51 [.p 0 0 0, .r (.int .i64 i), .ro t 1 (k.map eByte), .r (.int .i64 row)] (ownI root 1 ps) 2 (Is (insA (addF ps k row d i)) (ownI root 2 (addF ps k row d i).1) 3) No
  | 0, i, low, high, hg, hil, hd, h1, h2, ht => by
    have hok := ok_in hp hil
    have hlf := hg.1
    have ht : thereM (pg ps i) k = false := ht
    rw [addF]
    refine added_step G t ps ps root i (pg ps i) k k row row (pg_in hil) (pg_in hil) (by omega) (by omega) hok.nk (by rw [hok.kl hlf, if_pos hlf]) (fun y hy => by have := (pg_keys hp i hy).2; omega) (by omega) (by omega) (placeM (pg ps i) k) (place_le _ _) (fun j x hj hx => ?_) (fun x hx => ?_) (.inl ⟨hlf, rfl, rfl, rfl⟩)
    · have hpl : placeM (pg ps i) k = lowB k (pg ps i).keys := if_neg fun q => by rw [hlf] at q; cases q.1
      rw [hpl] at hj
      exact ltK_asymm (lowB_lt k _ j x hj hx)
    · have hpl : placeM (pg ps i) k = lowB k (pg ps i).keys := if_neg fun q => by rw [hlf] at q; cases q.1
      rw [thereM, decide_eq_false_iff_not, hx] at ht
      rw [hpl] at hx
      have h3 := lowB_at k _ x hx
      cases h4 : ltK k x
      · exact absurd (by rw [ltK_total h4 h3]) ht
      · rfl
  | d + 1, i, low, high, hg, hil, hd, h1, h2, ht => by
    obtain ⟨g1, g2, g3, g4⟩ := hg
    have hq := ok_inner hp g1
    have ha := kid_at hp g1 k
    have hb := g4 _ _ ha
    have hkl : kidM ps k i < ps.length := hin i _ (List.mem_of_getElem? ha)
    have hlo : ltK k (loP (pg ps i) (placeM (pg ps i) k) low) = false := by
      unfold loP
      split
      · exact h1
      · have hpl := place_le (pg ps i) k
        have hx := List.getElem?_eq_getElem (l := (pg ps i).keys) (i := placeM (pg ps i) k - 1) (by omega)
        rw [List.getD_eq_getElem?_getD, hx]
        exact place_lo hq g1 k (by omega) hx
    have hhi : hiP (pg ps i) (placeM (pg ps i) k) high = [] ∨ ltK k (hiP (pg ps i) (placeM (pg ps i) k) high) = true := by
      unfold hiP
      split
      · rename_i hl
        have hy := List.getElem?_eq_getElem hl
        right
        rw [List.getD_eq_getElem?_getD, hy]
        exact place_hi hq g1 k (Nat.le_refl _) hy
      · exact h2
    have ht' : thereM (pg ps (leafF ps k d (kidM ps k i))) k = false := ht
    have IH := added_con G t hp hin hn root k row hk d (kidM ps k i) _ _ hb hkl (by omega) hlo hhi ht'
    obtain ⟨_, hsame, _⟩ := add_loop hp k row d (kidM ps k i) _ _ hb hkl hin hlo hhi
    have hni : i ∉ pathF ps k d (kidM ps k i) := fun hmem => by
      obtain ⟨j, hj⟩ := List.mem_iff_getElem?.1 hmem
      have hpl := path_len ps k d (kidM ps k i)
      have hjl := (List.getElem?_eq_some_iff.1 hj).1
      obtain ⟨lo', hi', hg'⟩ := path_good hp k d (kidM ps k i) _ _ hb j i hj
      have := good_deep (kids_ne hp) (d + 1) i _ _ _ _ (d - j) ⟨g1, g2, g3, g4⟩ hg'
      omega
    have hpi := hsame i _ hni (pg_in hil)
    have kv := kid_val hp g1 k
    have hpl0 : ∀ (j : Nat) (x : Ky), j < placeM (pg ps i) k → (pg ps i).keys[j]? = some x → ltK k x = false := fun j x hj hx => place_lo hq g1 k hj hx
    have hpl1 : ∀ x, (pg ps i).keys[placeM (pg ps i) k]? = some x → ltK k x = true := fun x hx => place_hi hq g1 k (Nat.le_refl _) hx
    have hlen := addF_len ps k row d (kidM ps k i)
    have hup := addF_up hp hk row d (kidM ps k i)
    rw [addF]
    generalize addF ps k row d (kidM ps k i) = X at *
    obtain ⟨qs, o⟩ := X
    cases o with
    | none => exact added_none G t ps qs root i (pg ps i) k row (pg_in hil) hq.nk (by omega) _ (place_le _ _) hpl0 hpl1 g1 _ kv IH
    | some x =>
      obtain ⟨up, n⟩ := x
      obtain ⟨u1, u2⟩ := hup up n rfl
      exact added_step G t ps qs root i (pg ps i) k up row n (pg_in hil) hpi (by omega) (by simp only at hlen; omega) hq.nk (by rw [hq.ki g1, if_neg (by simp [g1])]) (fun y hy => by have := (pg_keys hp i hy).2; omega) (by omega) (by omega) _ (place_le _ _) hpl0 hpl1 (.inr ⟨g1, _, kv, u1, IH⟩)
end Go.AM
/- padlockref.Inserted; the law TreeInserts. -/
namespace Go.AM
open Go Go.RowKit
attribute [local irreducible] AWP retA
theorem insR_add (ps : List PG) (k : Ky) (row : Int) {r d : Nat} (h : Trd ps r d) : loopM ps (pathF ps k d r).reverse k row = addF ps k row d r :=
  (add_loop h.ok k row d r [] [] h.good h.rl h.kin (low_nil k) (.inl rfl)).1
theorem askM_key {ps : List PG} {root : Int} {k : Ky} (h : askM ps root k = 0) : k ≠ [] ∧ k.length ≤ 100 := by
  rw [askM] at h
  split at h
  · rename_i h'; exact absurd h h'
  · split at h
    · rename_i hk
      rw [keyB, Bool.and_eq_true, decide_eq_true_eq, decide_eq_true_eq] at hk
      refine ⟨fun e => ?_, by omega⟩
      rw [e] at hk; simp at hk
    · cases h
theorem okPs2_of {ps : List PG} (h : ps.length ≤ 1048576) (ho : ∀ p ∈ ps, okP p) : okPs2 ps := ⟨h, ho⟩
theorem treeLst_con (G : List (Nat × List Value)) (t : Bool) (ps : List PG) (root : Int) (ho : okPs2 ps) : Con Go.Proofs.Try.prog G 26 [.agg [.ro t 5 (ps.map eP), .r (.int .i64 root)]] [] 0 (Is (.agg [.s 0 0 ps.length, .r (.int .i64 root)]) [(0, .lst 52 5 (ps.map eP))] 1) No :=
  (treeOwn_con G t ps root ho).emb fun E hE => by
    refine Emb.trans (emb_toL 0 rfl) ?_
    simp only [setNd, dfzR_uP, ← eP_f]
    (refine emb [0] ?_ ?_ rfl ?_ ?_ ?_ ?_ <;> simp [okM, okO, lk, ren, renL, renNd, by_, hE, renOp] <;> (try omega) <;> (try (intro i hi; first | (rcases i with _ | _ | i; rfl; rfl; (exfalso; omega)) | (rcases i with _ | _ | _ | i; rfl; rfl; rfl; (exfalso; omega)) | (rcases i with _ | _ | _ | _ | i; rfl; rfl; rfl; rfl; (exfalso; omega)) | (rcases i with _ | _ | _ | _ | _ | i; rfl; rfl; rfl; rfl; rfl; (exfalso; omega)) | (rcases i with _ | _ | _ | _ | _ | _ | i; rfl; rfl; rfl; rfl; rfl; rfl; (exfalso; omega)))))
set_option maxRecDepth 100000 in
set_option maxHeartbeats 8000000 in
theorem insdLoop (G : List (Nat × List Value)) (t u : Bool) (ps : List PG) (r d : Nat) (k : Ky) (row : Int) (ho : okPs2 ps) (h : Trd ps r d) (h0 : askM ps r k = 0) (hrow : 0 ≤ row) (ht : thereM (pg ps (leafF ps k d r)) k = false) :
    Con Go.Proofs.Try.prog G 25 [.agg [.ro u 5 (ps.map eP), .r (.int .i64 r)], .ro t 1 (k.map eByte), .r (.int .i64 row)] [] 0 (Is (if 4000 < (rootM r (addF ps k row d r)).1.length then .tup [.agg [.r (.slice none 0 0), .r (.int .i64 0)], .r (.int .i64 10)] else delA ((rootM r (addF ps k row d r)).1, (rootM r (addF ps k row d r)).2, 0)) [] 0) No := by
  have cc := treeAndKey_con G t u ps r k ho
  rw [h0] at cc
  have hf : findM (pg ps (leafF ps k d r)) k = (0, 8) := by
    rw [thereM, decide_eq_false_iff_not] at ht
    rw [findM, if_neg ht]
  have fc := found_con G t u ps r k ho (0, 8) (fun _ r' d' e h' => by
    obtain rfl : r = r' := by omega
    obtain rfl := good_deep (kids_ne h.ok) d r _ _ _ _ d' h.good h'.good
    rw [found_find h.ok h.good k (h.leaf k), hf])
  simp only [findA, h0, ne_eq, not_true_eq_false, if_false] at fc
  have oc := treeLst_con G u ps r ho
  have hkk := askM_key h0
  have ac := added_con G t h.ok h.kin h.n r k row hkk d r [] [] h.good h.rl (by have := h.dl; have := h.n; omega) (low_nil k) (.inl rfl) ht
  have zr : (row < 0) = False := eq_false (by omega)
  have hlen := addF_len ps k row d r
  have hup := addF_up h.ok hkk row d r
  have hok := addF_ok h.ok ho.2 hkk row d r
  have hn := h.n
  have hd := h.dl
  clear hf
  generalize addF ps k row d r = X at *
  obtain ⟨qs, o⟩ := X
  simp only at hlen hup hok
  have zn : qs.length ≤ 9000 := by omega
  rw [ownI, ownI] at ac
  cases o with
  | none =>
    have hR : rootM r (qs, none) = (qs, (r : Int)) := rfl
    rw [hR]
    have c2 := treeCopy_con G false qs r (okPs2_of (by omega) hok)
    simp only [insA] at ac
    by_cases h4 : 4000 < qs.length
    · have z4 : ((qs.length : Int) > 4000) = True := eq_true (by omega)
      rw [if_pos h4]
      refine con_of_awp Go.Proofs.Try.func25 rfl (by kernel_rfl) (of_decide_eq_true (by kernel_rfl)) ?_; intro E hG hE; subst hG; simp only [ent]
      (repeat' (first | refine awp_seq ?_ | refine awp_block ?_ | refine awp_skip ?_ | refine awp_exit ?_ | ((first | refine rR (fun K kp hK hkp => ?_) | refine cR cc ?_ | refine cR fc ?_ | refine cR oc ?_ | refine iG ?_); simp (implicitDefEqProofs := false) (maxSteps := 2000000) (disch := omega) only [go_sem, bne_self_eq_false, beq_self_eq_true, zr]; (repeat' (first | (refine hK _ ?_; clear hK hkp kp K) | (with_reducible refine And.intro ?_ ?_) | omega))) | ((first | refine aG (fun h => ?_) (fun h => ?_) | refine aD (fun h => ?_) (fun h => ?_) | refine aX (fun h => ?_) (fun h => ?_)) <;> simp only [h]) | refine awp_cond_t rfl ?_ | refine awp_cond_f rfl ?_ | ((refine awp_cond rfl (fun h => ?_) (fun h => ?_) <;> try simp only [ifs] at h) <;> (try (exfalso; omega))) | refine awp_ret ?_))
      (refine callR_own [3, 2] (ac) ?_ ?_ ?_ ?_ ?_ ?_ ?_ ?_ rfl rfl ?_; (· simp [pasL, pas, idx, bor, borL, borC, lk, renOp]); (· simp [okO, lk, renNd, renL, ren, by_, renOp]); (· (intro i hi; simp only [List.length_cons, List.length_nil] at hi; repeat' (first | omega | exact ⟨_, rfl⟩ | (rcases i with _ | i)))); (· simp); (· simp); (· simp); (· simp [renOp]); (· simp [renOp]); simp only [mapO, fw, rmL, rm, List.map_cons, List.map_nil, List.foldl_cons, List.foldl_nil, List.getElem?_cons_zero, List.getElem?_cons_succ, List.getElem?_nil, List.length_cons, List.length_nil, Nat.zero_add, Nat.sub_self, Nat.add_zero, ↓reduceIte, Nat.reduceEqDiff, reduceCtorEq, Nat.reduceAdd, Nat.reduceSub, List.cons_append, List.nil_append, ren, renL, renNd, renOp]; simp (implicitDefEqProofs := false) (maxSteps := 2000000) (disch := omega) only [go_sem, renOp]; (repeat' (first | (refine hK _ ?_; clear hK hkp kp K) | (with_reducible refine And.intro ?_ ?_) | omega)))
      (repeat' (first | refine awp_seq ?_ | refine awp_block ?_ | refine awp_skip ?_ | refine awp_exit ?_ | ((first | refine rR (fun K kp hK hkp => ?_) | refine iG ?_); simp (implicitDefEqProofs := false) (maxSteps := 2000000) (disch := omega) only [go_sem, z4]; (repeat' (first | (refine hK _ ?_; clear hK hkp kp K) | (with_reducible refine And.intro ?_ ?_) | omega))) | ((first | refine aG (fun h => ?_) (fun h => ?_) | refine aD (fun h => ?_) (fun h => ?_) | refine aX (fun h => ?_) (fun h => ?_)) <;> simp only [h]) | refine awp_cond_t rfl ?_ | refine awp_cond_f rfl ?_ | ((refine awp_cond rfl (fun h => ?_) (fun h => ?_) <;> try simp only [ifs] at h) <;> (try (exfalso; omega))) | refine awp_ret ?_))
      (refine retA_is (by (simp (implicitDefEqProofs := false) (maxSteps := 2000000) (disch := omega) only [go_sem, Go.Proofs.Try.results25]); rfl) ?_; refine eN hE ?_; simp [oneA, ren, renL])
    · have z4 : ((qs.length : Int) > 4000) = False := eq_false (by omega)
      rw [if_neg h4, delA]
      refine con_of_awp Go.Proofs.Try.func25 rfl (by kernel_rfl) (of_decide_eq_true (by kernel_rfl)) ?_; intro E hG hE; subst hG; simp only [ent]
      (repeat' (first | refine awp_seq ?_ | refine awp_block ?_ | refine awp_skip ?_ | refine awp_exit ?_ | ((first | refine rR (fun K kp hK hkp => ?_) | refine cR cc ?_ | refine cR fc ?_ | refine cR oc ?_ | refine iG ?_); simp (implicitDefEqProofs := false) (maxSteps := 2000000) (disch := omega) only [go_sem, bne_self_eq_false, beq_self_eq_true, zr]; (repeat' (first | (refine hK _ ?_; clear hK hkp kp K) | (with_reducible refine And.intro ?_ ?_) | omega))) | ((first | refine aG (fun h => ?_) (fun h => ?_) | refine aD (fun h => ?_) (fun h => ?_) | refine aX (fun h => ?_) (fun h => ?_)) <;> simp only [h]) | refine awp_cond_t rfl ?_ | refine awp_cond_f rfl ?_ | ((refine awp_cond rfl (fun h => ?_) (fun h => ?_) <;> try simp only [ifs] at h) <;> (try (exfalso; omega))) | refine awp_ret ?_))
      (refine callR_own [3, 2] (ac) ?_ ?_ ?_ ?_ ?_ ?_ ?_ ?_ rfl rfl ?_; (· simp [pasL, pas, idx, bor, borL, borC, lk, renOp]); (· simp [okO, lk, renNd, renL, ren, by_, renOp]); (· (intro i hi; simp only [List.length_cons, List.length_nil] at hi; repeat' (first | omega | exact ⟨_, rfl⟩ | (rcases i with _ | i)))); (· simp); (· simp); (· simp); (· simp [renOp]); (· simp [renOp]); simp only [mapO, fw, rmL, rm, List.map_cons, List.map_nil, List.foldl_cons, List.foldl_nil, List.getElem?_cons_zero, List.getElem?_cons_succ, List.getElem?_nil, List.length_cons, List.length_nil, Nat.zero_add, Nat.sub_self, Nat.add_zero, ↓reduceIte, Nat.reduceEqDiff, reduceCtorEq, Nat.reduceAdd, Nat.reduceSub, List.cons_append, List.nil_append, ren, renL, renNd, renOp]; simp (implicitDefEqProofs := false) (maxSteps := 2000000) (disch := omega) only [go_sem, renOp]; (repeat' (first | (refine hK _ ?_; clear hK hkp kp K) | (with_reducible refine And.intro ?_ ?_) | omega)))
      (repeat' (first | refine awp_seq ?_ | refine awp_block ?_ | refine awp_skip ?_ | refine awp_exit ?_ | ((first | refine rR (fun K kp hK hkp => ?_) | refine cR c2 ?_ | refine iG ?_); simp (implicitDefEqProofs := false) (maxSteps := 2000000) (disch := omega) only [go_sem, z4]; (repeat' (first | (refine hK _ ?_; clear hK hkp kp K) | (with_reducible refine And.intro ?_ ?_) | omega))) | ((first | refine aG (fun h => ?_) (fun h => ?_) | refine aD (fun h => ?_) (fun h => ?_) | refine aX (fun h => ?_) (fun h => ?_)) <;> simp only [h]) | refine awp_cond_t rfl ?_ | refine awp_cond_f rfl ?_ | ((refine awp_cond rfl (fun h => ?_) (fun h => ?_) <;> try simp only [ifs] at h) <;> (try (exfalso; omega))) | refine awp_ret ?_))
      (refine retA_is (by (simp (implicitDefEqProofs := false) (maxSteps := 2000000) (disch := omega) only [go_sem, Go.Proofs.Try.results25]); rfl) ?_; refine eN hE ?_; simp [oneA, ren, renL])
  | some x =>
    obtain ⟨up, n⟩ := x
    obtain ⟨u1, u2⟩ := hup up n rfl
    obtain ⟨qr, hqr⟩ : ∃ qr : PG, (⟨false, [up], [(r : Int), n], [], -1⟩ : PG) = qr := ⟨_, rfl⟩
    obtain ⟨vs, hvs⟩ : ∃ vs, qs ++ [qr] = vs := ⟨_, rfl⟩
    have hR : rootM r (qs, some (up, n)) = (vs, (qs.length : Int)) := by rw [← hvs, ← hqr]; rfl
    rw [hR]
    have hl1 : vs.length = qs.length + 1 := by rw [← hvs]; simp
    have c2 := treeCopy_con G false vs qs.length (okPs2_of (by rw [hl1]; omega) (fun p hp => by
      rw [← hvs] at hp
      rcases List.mem_append.1 hp with hp | hp
      · exact hok p hp
      · obtain rfl := List.mem_singleton.1 hp
        rw [← hqr]
        exact ⟨by simp, by simp, by simp, by simp; omega⟩))
    simp only [insA] at ac
    obtain ⟨u0, us, rfl⟩ : ∃ u0 us, up = u0 :: us := by
      cases up with
      | nil => exact absurd rfl u1
      | cons u us => exact ⟨u, us, rfl⟩
    have e1 : ((qs.length + 1 : Nat) : Int) - 1 = (qs.length : Int) := by omega
    refine con_of_awp Go.Proofs.Try.func25 rfl (by kernel_rfl) (of_decide_eq_true (by kernel_rfl)) ?_; intro E hG hE; subst hG; simp only [ent]
    (repeat' (first | refine awp_seq ?_ | refine awp_block ?_ | refine awp_skip ?_ | refine awp_exit ?_ | ((first | refine rR (fun K kp hK hkp => ?_) | refine cR cc ?_ | refine cR fc ?_ | refine cR oc ?_ | refine iG ?_); simp (implicitDefEqProofs := false) (maxSteps := 2000000) (disch := omega) only [go_sem, bne_self_eq_false, beq_self_eq_true, zr]; (repeat' (first | (refine hK _ ?_; clear hK hkp kp K) | (with_reducible refine And.intro ?_ ?_) | omega))) | ((first | refine aG (fun h => ?_) (fun h => ?_) | refine aD (fun h => ?_) (fun h => ?_) | refine aX (fun h => ?_) (fun h => ?_)) <;> simp only [h]) | refine awp_cond_t rfl ?_ | refine awp_cond_f rfl ?_ | ((refine awp_cond rfl (fun h => ?_) (fun h => ?_) <;> try simp only [ifs] at h) <;> (try (exfalso; omega))) | refine awp_ret ?_))
    (refine callR_own [3, 2] (ac) ?_ ?_ ?_ ?_ ?_ ?_ ?_ ?_ rfl rfl ?_; (· simp [pasL, pas, idx, bor, borL, borC, lk, renOp]); (· simp [okO, lk, renNd, renL, ren, by_, renOp]); (· (intro i hi; simp only [List.length_cons, List.length_nil] at hi; repeat' (first | omega | exact ⟨_, rfl⟩ | (rcases i with _ | i)))); (· simp); (· simp); (· simp); (· simp [renOp]); (· simp [renOp]); simp only [mapO, fw, rmL, rm, List.map_cons, List.map_nil, List.foldl_cons, List.foldl_nil, List.getElem?_cons_zero, List.getElem?_cons_succ, List.getElem?_nil, List.length_cons, List.length_nil, Nat.zero_add, Nat.sub_self, Nat.add_zero, ↓reduceIte, Nat.reduceEqDiff, reduceCtorEq, Nat.reduceAdd, Nat.reduceSub, List.cons_append, List.nil_append, ren, renL, renNd, renOp]; simp (implicitDefEqProofs := false) (maxSteps := 2000000) (disch := omega) only [go_sem, renOp]; (repeat' (first | (refine hK _ ?_; clear hK hkp kp K) | (with_reducible refine And.intro ?_ ?_) | omega)))
    refine awp_cut (fx := ⟨[(11, .p 1 0 0), (7, .r (.int .i64 0)), (6, .p 0 0 0)], [(0, .box 24 [.r (.slice none 0 0), .r (.int .i64 0)]), (1, .box 24 [.s 2 0 vs.length, .r (.int .i64 qs.length)]), (2, .lst 52 5 (vs.map eP))], 3⟩) ?_ fun K hcut => ?_
    rotate_left
    · (repeat' (first | refine awp_seq ?_ | refine awp_block ?_ | refine awp_skip ?_ | refine awp_exit ?_ | ((first | refine rR (fun K kp hK hkp => ?_) | refine iG ?_); simp (implicitDefEqProofs := false) (maxSteps := 2000000) (disch := omega) only [go_sem, e1, List.map_cons]; (repeat' (first | (refine hK _ ?_; clear hK hkp kp K) | (with_reducible refine And.intro ?_ ?_) | omega))) | ((first | refine aG (fun h => ?_) (fun h => ?_) | refine aD (fun h => ?_) (fun h => ?_) | refine aX (fun h => ?_) (fun h => ?_)) <;> simp only [h]) | refine awp_cond_t rfl ?_ | refine awp_cond_f rfl ?_ | ((refine awp_cond rfl (fun h => ?_) (fun h => ?_) <;> try simp only [ifs] at h) <;> (try (exfalso; omega))) | refine awp_ret ?_))
      refine hcut _ ?_
      refine Emb.trans (emb_wk (els' := vs.map eP) 8 rfl (by simp [hl1]) (fun i e e' h1 h2 => ?_)) ?_
      · rw [← hvs, List.map_append] at h2
        by_cases hi : i < (qs.map eP).length
        · rw [List.getElem?_append_left hi] at h1 h2
          rw [h1] at h2; cases h2
          exact wkL_refl _
        · rw [List.getElem?_append_right (by omega)] at h1 h2
          obtain ⟨j, hj⟩ : ∃ j, i - (qs.map eP).length = j := ⟨_, rfl⟩
          rw [hj] at h1 h2
          cases j with
          | succ j => simp at h1
          | zero =>
            subst hqr
            cases h1; cases h2
            simp [wkL, wk, eP, eKy, eI]
      · simp only [setNd]
        (refine emb [1, 3, 8] ?_ ?_ rfl ?_ ?_ ?_ ?_ <;> simp [okM, okO, lk, ren, renL, renNd, by_, hE, renOp, hl1] <;> (try omega) <;> (try (intro i hi; first | (rcases i with _ | _ | i; rfl; rfl; (exfalso; omega)) | (rcases i with _ | _ | _ | i; rfl; rfl; rfl; (exfalso; omega)) | (rcases i with _ | _ | _ | _ | i; rfl; rfl; rfl; rfl; (exfalso; omega)) | (rcases i with _ | _ | _ | _ | _ | i; rfl; rfl; rfl; rfl; rfl; (exfalso; omega)) | (rcases i with _ | _ | _ | _ | _ | _ | i; rfl; rfl; rfl; rfl; rfl; rfl; (exfalso; omega)))))
    · have hvl : vs.length ≤ 10000 := by omega
      clear hvs hl1
      by_cases h4 : 4000 < vs.length
      · have z4 : ((vs.length : Int) > 4000) = True := eq_true (by omega)
        rw [if_pos h4]
        (repeat' (first | refine awp_seq ?_ | refine awp_block ?_ | refine awp_skip ?_ | refine awp_exit ?_ | ((first | refine rR (fun K kp hK hkp => ?_) | refine iG ?_); simp (implicitDefEqProofs := false) (maxSteps := 2000000) (disch := omega) only [go_sem, z4]; (repeat' (first | (refine hK _ ?_; clear hK hkp kp K) | (with_reducible refine And.intro ?_ ?_) | omega))) | ((first | refine aG (fun h => ?_) (fun h => ?_) | refine aD (fun h => ?_) (fun h => ?_) | refine aX (fun h => ?_) (fun h => ?_)) <;> simp only [h]) | refine awp_cond_t rfl ?_ | refine awp_cond_f rfl ?_ | ((refine awp_cond rfl (fun h => ?_) (fun h => ?_) <;> try simp only [ifs] at h) <;> (try (exfalso; omega))) | refine awp_ret ?_))
        (refine retA_is (by (simp (implicitDefEqProofs := false) (maxSteps := 2000000) (disch := omega) only [go_sem, Go.Proofs.Try.results25]); rfl) ?_; refine eN hE ?_; simp [oneA, ren, renL])
      · have z4 : ((vs.length : Int) > 4000) = False := eq_false (by omega)
        rw [if_neg h4, delA]
        (repeat' (first | refine awp_seq ?_ | refine awp_block ?_ | refine awp_skip ?_ | refine awp_exit ?_ | ((first | refine rR (fun K kp hK hkp => ?_) | refine cR c2 ?_ | refine iG ?_); simp (implicitDefEqProofs := false) (maxSteps := 2000000) (disch := omega) only [go_sem, z4]; (repeat' (first | (refine hK _ ?_; clear hK hkp kp K) | (with_reducible refine And.intro ?_ ?_) | omega))) | ((first | refine aG (fun h => ?_) (fun h => ?_) | refine aD (fun h => ?_) (fun h => ?_) | refine aX (fun h => ?_) (fun h => ?_)) <;> simp only [h]) | refine awp_cond_t rfl ?_ | refine awp_cond_f rfl ?_ | ((refine awp_cond rfl (fun h => ?_) (fun h => ?_) <;> try simp only [ifs] at h) <;> (try (exfalso; omega))) | refine awp_ret ?_))
        (refine retA_is (by (simp (implicitDefEqProofs := false) (maxSteps := 2000000) (disch := omega) only [go_sem, Go.Proofs.Try.results25]); rfl) ?_; refine eN hE ?_; simp [oneA, ren, renL])
set_option maxRecDepth 100000 in
set_option maxHeartbeats 4000000 in
theorem inserted_con (G : List (Nat × List Value)) (t u : Bool) (ps : List PG) (root : Int) (k : Ky) (row : Int) (ho : okPs2 ps) (R : List PG × Int × Int) (h1 : insE ps root k row ≠ 0 → R = ([], 0, insE ps root k row)) (hR : insE ps root k row = 0 → ∀ r d : Nat, root = r → Trd ps r d → R = insR ps k row r d) :
    Con Go.Proofs.Try.prog G 25 [.agg [.ro u 5 (ps.map eP), .r (.int .i64 root)], .ro t 1 (k.map eByte), .r (.int .i64 row)] [] 0 (Is (delA R) [] 0) No := by
  have cc := treeAndKey_con G t u ps root k ho
  by_cases h0 : askM ps root k = 0
  · rw [h0] at cc
    obtain ⟨r, d, rfl, h⟩ := trd_of (ask_chk h0)
    by_cases hrow : row < 0
    · have hE : insE ps r k row = 3 := by simp [insE, h0, hrow]
      rw [h1 (by rw [hE]; decide), hE, delA]
      have zr : (row < 0) = True := eq_true hrow
      refine Con.res (y := .tup [.agg [.r (.slice none 0 0), .r (.int .i64 0)], .r (.int .i64 3)]) ?_ (fun w z th v hr => rep_treenil hr)
      refine con_of_awp Go.Proofs.Try.func25 rfl (by kernel_rfl) (of_decide_eq_true (by kernel_rfl)) ?_; intro E hG hE; subst hG; simp only [ent]
      (repeat' (first | refine awp_seq ?_ | refine awp_block ?_ | refine awp_skip ?_ | refine awp_exit ?_ | ((first | refine rR (fun K kp hK hkp => ?_) | refine cR cc ?_ | refine iG ?_); simp (implicitDefEqProofs := false) (maxSteps := 2000000) (disch := omega) only [go_sem, bne_self_eq_false, beq_self_eq_true, zr]; (repeat' (first | (refine hK _ ?_; clear hK hkp kp K) | (with_reducible refine And.intro ?_ ?_) | omega))) | ((first | refine aG (fun h => ?_) (fun h => ?_) | refine aD (fun h => ?_) (fun h => ?_) | refine aX (fun h => ?_) (fun h => ?_)) <;> simp only [h]) | refine awp_cond_t rfl ?_ | refine awp_cond_f rfl ?_ | ((refine awp_cond rfl (fun h => ?_) (fun h => ?_) <;> try simp only [ifs] at h) <;> (try (exfalso; omega))) | refine awp_ret ?_))
      (refine retA_is (by (simp (implicitDefEqProofs := false) (maxSteps := 2000000) (disch := omega) only [go_sem, Go.Proofs.Try.results25]); rfl) ?_; refine eN hE ?_; simp [oneA, ren, renL])
    · have hE : insE ps r k row = 0 := by simp [insE, h0, hrow]
      rw [hR hE r d rfl h, insR]
      cases ht : thereM (pg ps (leafF ps k d r)) k
      · rw [if_neg (by simp), insR_add ps k row h]
        have key := insdLoop G t u ps r d k row ho h h0 (by omega) ht
        split
        · rename_i h4
          rw [if_pos h4] at key
          exact Con.res key (fun w z th v hr => rep_treenil hr)
        · rename_i h4
          rw [if_neg h4] at key
          exact key
      · rw [if_pos rfl, delA]
        have hf : ∃ c, findM (pg ps (leafF ps k d r)) k = (c, 0) := by
          rw [thereM, decide_eq_true_eq] at ht
          exact ⟨_, by rw [findM, if_pos ht]⟩
        obtain ⟨c, hf⟩ := hf
        have fc := found_con G t u ps r k ho (c, 0) (fun _ r' d' e h' => by
          obtain rfl : r = r' := by omega
          obtain rfl := good_deep (kids_ne h.ok) d r _ _ _ _ d' h.good h'.good
          rw [found_find h.ok h.good k (h.leaf k), hf])
        simp only [findA, h0, ne_eq, not_true_eq_false, if_false] at fc
        have zr : (row < 0) = False := eq_false hrow
        refine Con.res (y := .tup [.agg [.r (.slice none 0 0), .r (.int .i64 0)], .r (.int .i64 9)]) ?_ (fun w z th v hr => rep_treenil hr)
        refine con_of_awp Go.Proofs.Try.func25 rfl (by kernel_rfl) (of_decide_eq_true (by kernel_rfl)) ?_; intro E hG hE; subst hG; simp only [ent]
        (repeat' (first | refine awp_seq ?_ | refine awp_block ?_ | refine awp_skip ?_ | refine awp_exit ?_ | ((first | refine rR (fun K kp hK hkp => ?_) | refine cR cc ?_ | refine cR fc ?_ | refine iG ?_); simp (implicitDefEqProofs := false) (maxSteps := 2000000) (disch := omega) only [go_sem, bne_self_eq_false, beq_self_eq_true, zr]; (repeat' (first | (refine hK _ ?_; clear hK hkp kp K) | (with_reducible refine And.intro ?_ ?_) | omega))) | ((first | refine aG (fun h => ?_) (fun h => ?_) | refine aD (fun h => ?_) (fun h => ?_) | refine aX (fun h => ?_) (fun h => ?_)) <;> simp only [h]) | refine awp_cond_t rfl ?_ | refine awp_cond_f rfl ?_ | ((refine awp_cond rfl (fun h => ?_) (fun h => ?_) <;> try simp only [ifs] at h) <;> (try (exfalso; omega))) | refine awp_ret ?_))
        (refine retA_is (by (simp (implicitDefEqProofs := false) (maxSteps := 2000000) (disch := omega) only [go_sem, Go.Proofs.Try.results25]); rfl) ?_; refine eN hE ?_; simp [oneA, ren, renL])
  · have hE : insE ps root k row = askM ps root k := by simp [insE, h0]
    rw [h1 (by rw [hE]; exact h0), hE, delA]
    have z0 : (askM ps root k != 0) = true := by simp [h0]
    have z1 : (askM ps root k == 0) = false := by simp [h0]
    refine Con.res (y := .tup [.agg [.r (.slice none 0 0), .r (.int .i64 0)], .r (.int .i64 (askM ps root k))]) ?_ (fun w z th v hr => rep_treenil hr)
    refine con_of_awp Go.Proofs.Try.func25 rfl (by kernel_rfl) (of_decide_eq_true (by kernel_rfl)) ?_; intro E hG hE; subst hG; simp only [ent]
    (repeat' (first | refine awp_seq ?_ | refine awp_block ?_ | refine awp_skip ?_ | refine awp_exit ?_ | ((first | refine rR (fun K kp hK hkp => ?_) | refine cR cc ?_ | refine iG ?_); simp (implicitDefEqProofs := false) (maxSteps := 2000000) (disch := omega) only [go_sem, z0, z1]; (repeat' (first | (refine hK _ ?_; clear hK hkp kp K) | (with_reducible refine And.intro ?_ ?_) | omega))) | ((first | refine aG (fun h => ?_) (fun h => ?_) | refine aD (fun h => ?_) (fun h => ?_) | refine aX (fun h => ?_) (fun h => ?_)) <;> simp only [h]) | refine awp_cond_t rfl ?_ | refine awp_cond_f rfl ?_ | ((refine awp_cond rfl (fun h => ?_) (fun h => ?_) <;> try simp only [ifs] at h) <;> (try (exfalso; omega))) | refine awp_ret ?_))
    (refine retA_is (by (simp (implicitDefEqProofs := false) (maxSteps := 2000000) (disch := omega) only [go_sem, Go.Proofs.Try.results25, h0]); rfl) ?_; refine eN hE ?_; simp [oneA, ren, renL, h0])
theorem ins_same (ps : List PG) (root : Int) (k : Ky) (row : Int) : ∃ R : List PG × Int × Int, (insE ps root k row ≠ 0 → R = ([], 0, insE ps root k row)) ∧ (insE ps root k row = 0 → ∃ r d : Nat, root = r ∧ Trd ps r d ∧ askM ps root k = 0 ∧ R = insR ps k row r d ∧ ∀ r' d' : Nat, root = r' → Trd ps r' d' → R = insR ps k row r' d') := by
  by_cases h0 : insE ps root k row = 0
  · have ha : askM ps root k = 0 := by
      unfold insE at h0
      split at h0
      · rename_i h; exact absurd h0 h
      · rename_i h; simpa using h
    obtain ⟨r, d, rfl, h⟩ := trd_of (ask_chk ha)
    refine ⟨insR ps k row r d, fun e => absurd h0 e, fun _ => ⟨r, d, rfl, h, ha, rfl, fun r' d' e h' => ?_⟩⟩
    obtain rfl : r = r' := by omega
    obtain rfl := good_deep (kids_ne h.ok) d r _ _ _ _ d' h.good h'.good
    rfl
  · exact ⟨_, fun _ => rfl, fun e => absurd e h0⟩
theorem insR_ok {ps : List PG} {k : Ky} {row : Int} {r d : Nat} (h : Trd ps r d) (ho : okPs2 ps) (h0 : askM ps r k = 0) : okPs2 (insR ps k row r d).1 := by
  have hnil : okPs2 [] := ⟨Nat.zero_le _, fun p hp => by cases hp⟩
  rw [insR, insR_add ps k row h]
  split
  · exact hnil
  · split
    · exact hnil
    · rename_i h4
      have hkk := askM_key h0
      have hok := addF_ok h.ok ho.2 hkk row d r
      have hup := addF_up h.ok hkk row d r
      generalize addF ps k row d r = X at *
      obtain ⟨qs, o⟩ := X
      cases o with
      | none => exact okPs2_of (by simp only [rootM] at h4 ⊢; omega) hok
      | some x =>
        obtain ⟨up, n⟩ := x
        refine okPs2_of (by simp only [rootM] at h4 ⊢; omega) (fun p hp => ?_)
        rcases List.mem_append.1 hp with hp | hp
        · exact hok p hp
        · obtain rfl := List.mem_singleton.1 hp
          have := (hup up n rfl).2
          exact ⟨by simp, by simp, by simp, by simp; omega⟩
set_option maxRecDepth 100000 in
set_option maxHeartbeats 4000000 in
theorem lawInserts_con (G : List (Nat × List Value)) (ps : List PG) (root : Int) (k : Ky) (row : Int) (ho : okPs2 ps) (hk : k.length ≤ 1048576) : Con Go.Proofs.Try.prog G 8 [.agg [.ro true 5 (ps.map eP), .r (.int .i64 root)], .ro true 1 (k.map eByte), .r (.int .i64 row)] [] 0 (Is (.r (.bool true)) [] 0) No := by
  obtain ⟨R, hR1, hR2⟩ := ins_same ps root k row
  have tc := trees_con G true ps root ho
  have oc := octetsT_con G true k (by omega)
  have hR3 : insE ps root k row = 0 → ∀ r d : Nat, root = r → Trd ps r d → R = insR ps k row r d := fun h0 r d e h => by
    obtain ⟨_, _, _, _, _, _, g⟩ := hR2 h0
    exact g r d e h
  have fc := insT_con G true ps root k row ho hk R hR1 hR3
  have gc := inserted_con G true true ps root k row ho R hR1 hR3
  have hoR : okPs2 R.1 := by
    by_cases h0 : insE ps root k row = 0
    · obtain ⟨r, d, rfl, h, ha, g, _⟩ := hR2 h0
      rw [g]
      exact insR_ok h ho ha
    · rw [hR1 h0]
      exact ⟨Nat.zero_le _, fun p hp => by cases hp⟩
  clear hR1 hR2 hR3
  rw [delA] at fc gc
  obtain ⟨qs, qr, qe⟩ := R
  have s1 := sameTree_con G true true qs qr hoR
  have s2 := sameTree_con G true true ps root ho
  refine con_of_awp Go.Proofs.Try.func8 rfl (by kernel_rfl) (of_decide_eq_true (by kernel_rfl)) ?_; intro E hG hE; subst hG; simp only [ent]
  (repeat' (first | refine awp_seq ?_ | refine awp_block ?_ | refine awp_skip ?_ | refine awp_exit ?_ | ((first | refine rR (fun K kp hK hkp => ?_) | refine rU (id := 2) mixed 9 [⟨0, 0, [], [(0, 1)]⟩, ⟨0, 0, [], [(0, 1)]⟩, ⟨0, 0, [1], [(0, 1)]⟩, ⟨0, 0, [], [(0, 1)]⟩, ⟨0, 0, [0, 1, 2, 3], [(0, 1)]⟩, ⟨0, 0, [0, 1, 2, 3, 4], [(0, 1)]⟩, ⟨0, 0, [0, 1, 2, 3, 4, 5], [(0, 1)]⟩, ⟨0, 0, [0, 1, 2, 3, 4, 5], [(0, 1)]⟩, ⟨0, 1, [], []⟩] 1 [15, 16, 17, 18, 19, 14, 20, 21, 8] [7] (fun K kp hK hkp => ?_) | refine cR tc ?_ | refine cD tc ?_ | refine cU tc ?_ | refine cR oc ?_ | refine cD oc ?_ | refine cU oc ?_ | refine cR fc ?_ | refine cD fc ?_ | refine cU fc ?_ | refine cR gc ?_ | refine cD gc ?_ | refine cU gc ?_ | refine cR s1 ?_ | refine cD s1 ?_ | refine cU s1 ?_ | refine cR s2 ?_ | refine cD s2 ?_ | refine cU s2 ?_ | refine iG ?_ | refine iD ?_); simp (implicitDefEqProofs := false) (maxSteps := 2000000) (disch := omega) only [go_sem, beq_self_eq_true]; (repeat' (first | (refine hK _ ?_; clear hK hkp kp K) | (with_reducible refine And.intro ?_ ?_) | omega))) | ((first | refine aG (fun h => ?_) (fun h => ?_) | refine aD (fun h => ?_) (fun h => ?_) | refine aX (fun h => ?_) (fun h => ?_)) <;> simp only [h]) | refine awp_cond_t rfl ?_ | refine awp_cond_f rfl ?_ | ((refine awp_cond rfl (fun h => ?_) (fun h => ?_) <;> try simp only [ifs] at h) <;> (try (exfalso; omega))) | refine awp_ret ?_))
  (refine retA_is (by (simp (implicitDefEqProofs := false) (maxSteps := 2000000) (disch := omega) only [go_sem, Go.Proofs.Try.results8]); rfl) ?_; refine eN hE ?_; simp [oneA, ren, renL])
end Go.AM
/- How arguments that came in read: lemmas out of the kit's readings, in the walks' own terms. -/
namespace Go.Proofs.Yteebiklebedneaa
open Go.ChangeShapes Go.WideShapes Go.ChangeAt Go.RowKit
theorem own : ownKnob Try.prog.godebug = none := by kernel_rfl
theorem laidOut : laidOutB Try.prog = true := by kernel_rfl
set_option maxRecDepth 100000 in
theorem open_i64 {H : Type} {enc : TypeId × Value → H} {w : World} {base : Nat} {spare : Nat → Bool} {held : Bool} {b0 : Nat} {v : Value} {d : DataW H} {p : List MemPlace}
    (hv : Value.okWide Try.prog w .any b0 3 v) (h : DataW.Trod enc Try.prog w base spare held 3 v d p) : ∃ n : Int, v = .int .i64 n ∧ (Lit.int .i64 n).wf = true := by
  obtain ⟨n, rfl, _, _, w0⟩ := open_int Try.underlying3 hv h
  exact ⟨n, rfl, w0⟩
theorem i64_bd {n : Int} (h : (Lit.int .i64 n).wf = true) : -9223372036854775808 ≤ n ∧ n ≤ 9223372036854775807 := by
  simp [Lit.wf, IntKind.min, IntKind.max, IntKind.signed, IntKind.bits] at h
  omega
end Go.Proofs.Yteebiklebedneaa
/- How bytes that came in read; bulk. -/
namespace Go.Proofs.Yteebiklebedneaa
open Go.ChangeShapes Go.WideShapes Go.ChangeAt Go.RowKit Go.AM
theorem bulk_one {H : Type} (d : DataW H) : 1 ≤ Rows.uptoBulk d := by
  cases d with
  | lit l => cases l <;> simp [Rows.uptoBulk]
  | nil => simp [Rows.uptoBulk]
  | ptr d => simp [Rows.uptoBulk]
  | slice elems spare => simp [Rows.uptoBulk]
  | agg parts => simp [Rows.uptoBulk]
  | iface t d => simp [Rows.uptoBulk]
  | map entries => simp [Rows.uptoBulk]
  | held h => simp [Rows.uptoBulk]
theorem bulk_length {H : Type} : ∀ l : List (DataW H), l.length ≤ Rows.uptoBulkAll l
  | [] => by simp [Rows.uptoBulkAll]
  | x :: r => by have := bulk_one x; have := bulk_length r; simp only [Rows.uptoBulkAll, List.length_cons]; omega
theorem bulk_slice {H : Type} (ds rest : List (DataW H)) : ds.length + 1 ≤ Rows.uptoBulk (.slice ds rest) := by
  have := bulk_length ds
  simp only [Rows.uptoBulk]; omega
theorem bulk_bound {H : Type} {l : List (DataW H)} (hk : Rows.uptoSmall H l = true) : Rows.uptoBulkAll l ≤ 1048576 := of_decide_eq_true hk
theorem bulk_of {H α : Type} {l : List α} {R : α → DataW H → Prop} {d : DataW H} (h : (l = [] ∧ d = .nil) ∨ ∃ ds rest, d = .slice ds rest ∧ ds.length = l.length ∧ ∀ (i : Nat) y, l[i]? = some y → ∃ d, ds[i]? = some d ∧ R y d) : l.length ≤ Rows.uptoBulk d := by
  rcases h with ⟨rfl, _⟩ | ⟨ds, rest, rfl, h, _⟩
  · exact Nat.zero_le _
  · have := bulk_slice ds rest; omega
end Go.Proofs.Yteebiklebedneaa
/- How bytes that came in read. -/
namespace Go.Proofs.Yteebiklebedneaa
open Go.ChangeShapes Go.WideShapes Go.ChangeAt Go.RowKit Go.AM
theorem leaf_u8 {H : Type} {E : TypeId × Value → H} {w : World} {base : Nat} {spare : Nat → Bool} {held : Bool} (fuel : Nat) (cs : List Value) (x : DataW H × List MemPlace)
    (h : DataW.trod E Try.prog w base spare held fuel 5 cs = some x) : ∃ y : UInt8, Reps w (zAll w) [] (eByte y) cs ∧ (∀ v ∈ cs, v.oneCell' = true) ∧ True := by
  obtain ⟨n, rfl, _, wf⟩ := DataW.trod_int Try.underlying5 h
  have hb : 0 ≤ n ∧ n ≤ 255 := by simpa [Lit.wf, IntKind.min, IntKind.max, IntKind.signed, IntKind.bits] using wf
  refine ⟨UInt8.ofNat n.toNat, ?_, by simp [Value.oneCell'], trivial⟩
  have : ((UInt8.ofNat n.toNat).toNat : Int) = n := by
    rw [UInt8.toNat_ofNat_of_lt' (by simp [UInt8.size]; omega)]; omega
  rw [eByte, this]
  exact rep1 (.r _ _)
/-- Bytes that came in. -/
theorem open_bytes {H : Type} {E : TypeId × Value → H} {w : World} {base : Nat} {spare : Nat → Bool} {held : Bool} {b0 : Nat} {v : Value} {d : DataW H} {p : List MemPlace}
    (hv : Value.okWide Try.prog w .any b0 30 v) (h : DataW.Trod E Try.prog w base spare held 30 v d p) :
    ∃ l : List UInt8, Rep w (zAll w) [] (.ro true 1 (l.map eByte)) v ∧ l.length ≤ Rows.uptoBulk d ∧ (l = [] ∨ ∃ el sp, d = .slice el sp ∧ el.length = l.length) := by
  obtain ⟨f, hf⟩ := h
  obtain ⟨u, l, h1, h2, _, h3⟩ := open_ro eByte (fun _ _ => True) true Try.underlying30 (show Try.prog.cellsOf 5 = 1 by kernel_rfl) (by omega) leaf_u8 hf
  obtain ⟨a', n', c', rfl⟩ := okWide_slice Try.underlying30 hv
  obtain rfl : Value.slice a' n' c' = u := List.head_eq_of_cons_eq (show [Value.slice a' n' c'] = [u] from h1)
  exact ⟨l, h2, bulk_of h3, h3.imp (fun h => h.1) (fun ⟨ds, rest, h4, h5, _⟩ => ⟨ds, rest, h4, h5⟩)⟩
end Go.Proofs.Yteebiklebedneaa
/- How a tree that came in reads. -/
namespace Go.Proofs.Yteebiklebedneaa
open Go.ChangeShapes Go.WideShapes Go.ChangeAt Go.RowKit Go.AM
theorem bulk_mem {H : Type} : ∀ {l : List (DataW H)} {d : DataW H}, d ∈ l → Rows.uptoBulk d ≤ Rows.uptoBulkAll l
  | x :: r, d, h => by
    rcases List.mem_cons.1 h with rfl | h
    · simp only [Rows.uptoBulkAll]; omega
    · have := bulk_mem h; simp only [Rows.uptoBulkAll]; omega
/-- What holds of an element by its own bulk holds of all by the slice's. -/
theorem bulk_all {H α : Type} {l : List α} {f : α → Nat} {d : DataW H} (h : (l = [] ∧ d = .nil) ∨ ∃ ds rest, d = .slice ds rest ∧ ds.length = l.length ∧ ∀ (i : Nat) y, l[i]? = some y → ∃ d, ds[i]? = some d ∧ f y ≤ Rows.uptoBulk d) : ∀ y ∈ l, f y ≤ Rows.uptoBulk d := by
  intro c hc
  obtain ⟨i, hi⟩ := List.mem_iff_getElem?.1 hc
  rcases h with ⟨rfl, _⟩ | ⟨ds, rest, rfl, _, h6⟩
  · simp at hi
  · obtain ⟨d, h1, h2⟩ := h6 i c hi
    have := bulk_mem (List.mem_of_getElem? h1)
    simp only [Rows.uptoBulk]; omega
theorem cellsU8 : Try.prog.cellsOf 5 = 1 := by kernel_rfl
theorem cellsKy : Try.prog.cellsOf 30 = 1 := by kernel_rfl
theorem cellsIn : Try.prog.cellsOf 3 = 1 := by kernel_rfl
theorem leaf_int1 {H : Type} {E : TypeId × Value → H} {w : World} {base : Nat} {spare : Nat → Bool} {held : Bool} (fuel : Nat) (cs : List Value) (x : DataW H × List MemPlace)
    (h : DataW.trod E Try.prog w base spare held fuel 3 cs = some x) : ∃ y : Int, Reps w (zAll w) [] (eI y) cs ∧ (∀ v ∈ cs, v.oneCell' = true) ∧ True := by
  obtain ⟨n, rfl, _, _⟩ := DataW.trod_int Try.underlying3 h
  exact ⟨n, .cons (.r _ _) .nil, by simp [Value.oneCell'], trivial⟩
theorem leaf_ky {H : Type} {E : TypeId × Value → H} {w : World} {base : Nat} {spare : Nat → Bool} {held : Bool} (fuel : Nat) (cs : List Value) (x : DataW H × List MemPlace)
    (h : DataW.trod E Try.prog w base spare held fuel 30 cs = some x) : ∃ y : Ky, Reps w (zAll w) [] (eKy y) cs ∧ (∀ v ∈ cs, v.oneCell' = true) ∧ y.length ≤ Rows.uptoBulk x.1 := by
  obtain ⟨u, l, h1, h2, h4, h3⟩ := open_ro eByte (fun _ _ => True) true Try.underlying30 cellsU8 (by omega) leaf_u8 h
  subst h1
  exact ⟨l, .cons h2 .nil, by simpa using h4, bulk_of h3⟩
theorem list5 {α : Type} {l : List α} (h : l.length = 5) : ∃ a b c d e, l = [a, b, c, d, e] := by
  match l, h with
  | [a, b, c, d, e], _ => exact ⟨a, b, c, d, e, rfl⟩
def okP (p : PG) (n : Nat) : Prop := p.keys.length ≤ n ∧ p.kids.length ≤ n ∧ p.high.length ≤ n ∧ ∀ k ∈ p.keys, k.length ≤ n
theorem cellsPg : Try.prog.cellsOf 52 = 5 := by kernel_rfl
set_option maxRecDepth 100000 in
theorem leaf_pg {H : Type} {E : TypeId × Value → H} {w : World} {base : Nat} {spare : Nat → Bool} {held : Bool} (fuel : Nat) (cs : List Value) (x : DataW H × List MemPlace)
    (h : DataW.trod E Try.prog w base spare held fuel 52 cs = some x) : ∃ y : PG, Reps w (zAll w) [] (eP y) cs ∧ (∀ v ∈ cs, v.oneCell' = true) ∧ okP y (Rows.uptoBulk x.1) := by
  obtain ⟨xs, n, _, hx, hl, hxl, hff⟩ := DataW.trod_struct Try.underlying52 h
  rw [cellsPg] at hl
  obtain ⟨c0, c1, c2, c3, c4, rfl⟩ := list5 hl
  obtain ⟨x0, x1, x2, x3, x4, rfl⟩ := list5 (l := xs) hxl
  have cb : Try.prog.cellsOf 4 = 1 := by kernel_rfl
  have ck : Try.prog.cellsOf 49 = 1 := by kernel_rfl
  have ci : Try.prog.cellsOf 50 = 1 := by kernel_rfl
  have h0 : DataW.trod E Try.prog w base spare held n 4 (([c0, c1, c2, c3, c4].drop 0).take (Try.prog.cellsOf 4)) = some x0 := hff 0 _ rfl
  rw [cb] at h0
  have h1 : DataW.trod E Try.prog w base spare held n 49 (([c0, c1, c2, c3, c4].drop 1).take (Try.prog.cellsOf 49)) = some x1 := hff 1 _ rfl
  rw [ck] at h1
  have h2 : DataW.trod E Try.prog w base spare held n 50 (([c0, c1, c2, c3, c4].drop 2).take (Try.prog.cellsOf 50)) = some x2 := hff 2 _ rfl
  rw [ci] at h2
  have h3 : DataW.trod E Try.prog w base spare held n 30 (([c0, c1, c2, c3, c4].drop 3).take (Try.prog.cellsOf 30)) = some x3 := hff 3 _ rfl
  rw [cellsKy] at h3
  have h4 : DataW.trod E Try.prog w base spare held n 3 (([c0, c1, c2, c3, c4].drop 4).take (Try.prog.cellsOf 3)) = some x4 := hff 4 _ rfl
  rw [cellsIn] at h4
  obtain ⟨lf, e0, _⟩ := DataW.trod_bool Try.underlying4 h0
  obtain ⟨u1, lk, e1, r1, o1, g1⟩ := open_ro eKy (fun y d => y.length ≤ Rows.uptoBulk d) true Try.underlying49 cellsKy (by omega) leaf_ky h1
  obtain ⟨u2, li, e2, r2, o2, g2⟩ := open_ro eI (fun _ _ => True) true Try.underlying50 cellsIn (by omega) leaf_int1 h2
  obtain ⟨u3, lh, e3, r3, o3, g3⟩ := open_ro eByte (fun _ _ => True) true Try.underlying30 cellsU8 (by omega) leaf_u8 h3
  obtain ⟨nx, e4, _, _⟩ := DataW.trod_int Try.underlying3 h4
  simp at e0 e1 e2 e3 e4
  subst e0 e1 e2 e3 e4
  refine ⟨⟨lf, lk, li, lh, nx⟩, .cons (.r _ _) (.cons r1 (.cons r2 (.cons r3 (.cons (.r _ _) .nil)))), (by
    intro v hv
    simp only [List.mem_cons, List.not_mem_nil, or_false] at hv
    rcases hv with rfl | rfl | rfl | rfl | rfl <;> first | rfl | assumption), ?_⟩
  rw [hx]
  have b1 := bulk_of g1
  have b2 := bulk_of g2
  have b3 := bulk_of g3
  have b4 := bulk_all g1
  simp only [List.map_cons, List.map_nil, Rows.uptoBulk, Rows.uptoBulkAll]
  exact ⟨by simp only; omega, by simp only; omega, by simp only; omega, fun k hk => by have := b4 k hk; omega⟩
theorem cellsTr : Try.prog.cellsOf 24 = 2 := by kernel_rfl
set_option maxRecDepth 100000 in
/-- A tree that came in. -/
theorem open_tree {H : Type} {enc : TypeId × Value → H} {w : World} {base : Nat} {spare : Nat → Bool} {held : Bool} {b0 : Nat} {v : Value} {d : DataW H} {p : List MemPlace}
    (hv : Value.okWide Try.prog w .any b0 24 v) (h : DataW.Trod enc Try.prog w base spare held 24 v d p) :
    ∃ (ps : List PG) (root : Int), Rep w (zAll w) [] (.agg [.ro true 5 (ps.map eP), .r (.int .i64 root)]) v ∧ (Rows.uptoBulk d ≤ 1048576 → okPs2 ps) := by
  obtain ⟨c0, c1, y0, y1, m, rfl, rfl, _, h0, h1⟩ := Joins.open_agg2 Try.underlying24 (by kernel_rfl) cellsTr hv h
  obtain ⟨u0, l, e0, r0, o0, g0⟩ := open_ro eP (fun y d => okP y (Rows.uptoBulk d)) true Try.underlying22 cellsPg (by omega) leaf_pg h0
  obtain ⟨rt, e1, _, _⟩ := DataW.trod_int Try.underlying3 h1
  simp at e0 e1
  subst e0 e1
  have hr : Reps w (zAll w) [] [.ro true 5 (l.map eP), .r (.int .i64 rt)] [c0, .int .i64 rt] := .cons r0 (.cons (.r _ _) .nil)
  refine ⟨l, rt, .agg _ _ _ hr.1 hr.2, fun hb => ?_⟩
  simp only [Rows.uptoBulk, Rows.uptoBulkAll] at hb
  have b0 := bulk_of g0
  refine ⟨by omega, fun q hq => ?_⟩
  obtain ⟨i, hi⟩ := List.mem_iff_getElem?.1 hq
  rcases g0 with ⟨rfl, _⟩ | ⟨ds, rest, hd, _, h6⟩
  · simp at hi
  · obtain ⟨d, k1, k2, k3, k4, k5⟩ := h6 i q hi
    have k6 := bulk_mem (List.mem_of_getElem? k1)
    rw [hd] at hb
    simp only [Rows.uptoBulk] at hb
    exact ⟨by omega, by omega, by omega, fun k hk => by have := k5 k hk; omega⟩
end Go.Proofs.Yteebiklebedneaa
