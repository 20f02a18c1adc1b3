/- Texts of the law TreeInserts, part 5: lemmas; what is proved stands in the last text. -/
import Derived.Test.YteebiklebedneaaZz4
import Derived.OrdersIn
import Derived.OwnWalkIn
import Derived.RangeFuncNested
import Derived.RangeFuncLeaves
import Derived.Laws.AppendOwn
set_option linter.unusedSimpArgs false
set_option linter.unusedVariables false
/- tree.Check: the program's side. -/
namespace Go.AM
open Go Go.RowKit
attribute [local irreducible] AWP retA
/-- What tree.Check asks. -/
structure ChkOK (ps : List PG) (root : Int) : Prop where
  n1 : 1 ≤ ps.length
  n2 : ps.length ≤ 4000
  r0 : 0 ≤ root
  r1 : root < ps.length
  pg : ∀ (i : Nat) (p : PG), ps[i]? = some p → PageOK p ps.length
  wk : 0 ≤ (walkF ps (ps.length + 1) root.toNat [] [] 0 ⟨[], []⟩).1
  mt : (walkF ps (ps.length + 1) root.toNat [] [] 0 ⟨[], []⟩).2.met.length = ps.length
  ch : ∀ l ∈ (walkF ps (ps.length + 1) root.toNat [] [] 0 ⟨[], []⟩).2.rows, chain ps l
noncomputable def chkR (ps : List PG) (root : Int) : Int := @ite Int (ChkOK ps root) (Classical.propDecidable _) 0 11
theorem chkR_t {ps : List PG} {root : Int} (h : ChkOK ps root) : chkR ps root = 0 := if_pos h
theorem chkR_f {ps : List PG} {root : Int} (h : ¬ ChkOK ps root) : chkR ps root = 11 := if_neg h
def okPs (ps : List PG) : Prop := ∀ p ∈ ps, p.keys.length ≤ 1048576 ∧ p.kids.length ≤ 1048576
theorem page_con (G : List (Nat × List Value)) (p : PG) (many : Nat) (hb : p.keys.length ≤ 1048576) (hb2 : p.kids.length ≤ 1048576) : Con Go.Proofs.Try.prog G 27 [.agg (eP p), .r (.int .i64 many)] [] 0 (Is (.r (.bool (pgB p many))) [] 0) No := by
  by_cases H : HeadOK p many
  · exact page_good G p many H hb2
  · exact page_head G p many H hb
theorem kids_in {ps : List PG} (h : ∀ (i : Nat) (p : PG), ps[i]? = some p → PageOK p ps.length) : ∀ i x, x ∈ kidsOf ps i → x < ps.length := by
  intro i x hx
  cases hp : ps[i]? with
  | none =>
    have : pg ps i = default := by rw [pg, List.getD_eq_getElem?_getD, hp]; rfl
    rw [kidsOf, this] at hx; cases hx
  | some p =>
    have hpg : pg ps i = p := by rw [pg, List.getD_eq_getElem?_getD, hp]; rfl
    rw [kidsOf, hpg] at hx
    split at hx
    · cases hx
    · rename_i hl
      obtain ⟨y, hy, rfl⟩ := List.mem_map.1 hx
      obtain ⟨j, hj⟩ := List.mem_iff_getElem?.1 hy
      have := (h i p hp).kd j (List.getElem?_eq_some_iff.1 hj).1
      rw [List.getD_eq_getElem?_getD, hj] at this
      have h1 : 0 ≤ y := this.1
      have h2 : y < ps.length := this.2 (by simpa using hl)
      omega
theorem kids_ne {ps : List PG} (h : ∀ (i : Nat) (p : PG), ps[i]? = some p → PageOK p ps.length) : ∀ i, (pg ps i).leaf = false → kidsOf ps i ≠ [] := by
  intro i hl he
  cases hp : ps[i]? with
  | none =>
    have : pg ps i = default := by rw [pg, List.getD_eq_getElem?_getD, hp]; rfl
    rw [this] at hl; cases hl
  | some p =>
    have hpg : pg ps i = p := by rw [pg, List.getD_eq_getElem?_getD, hp]; rfl
    rw [hpg] at hl
    rw [kidsOf, hpg, hl] at he
    have h1 : p.kids = [] := by simpa using he
    have := (h i p hp).ki hl
    rw [h1] at this; simp at this
theorem lvl_lt {ps : List PG} {n : Nat} (hin : ∀ i x, x ∈ kidsOf ps i → x < n) : ∀ (j : Nat) (l : List Nat), (∀ x ∈ l, x < n) → ∀ x ∈ lvl ps j l, x < n
  | 0, l, h, x, hx => h x hx
  | j + 1, l, h, x, hx => lvl_lt hin j _ (fun y hy => by obtain ⟨z, _, hz⟩ := List.mem_flatMap.1 hy; exact hin z y hz) x hx
def eNs (l : List Nat) : List AV := [.ro true 1 (l.map eNt)]
theorem dfz_eRow (rows : List (List Nat)) : dfzR true (rows.map eRow) = rows.map eNs :=
  dfzR_map true eRow eNs (fun a => by
    simp only [eRow, eNs, dfzC, dfz]
    rw [dfzR_map true eNt eNt (fun b => by simp [eNt, dfzC, dfz])]) rows
set_option maxRecDepth 100000 in
set_option maxHeartbeats 8000000 in
theorem check_con2 (G : List (Nat × List Value)) (ps : List PG) (root : Int) (ho : okPs ps) : Con Go.Proofs.Try.prog G 10 [.agg [.ro true 5 (ps.map eP), .r (.int .i64 root)]] [] 0 (Is (.r (.int .i64 (chkR ps root))) [] 0) No := by
  obtain ⟨R, hR⟩ : ∃ R, chkR ps root = R := ⟨_, rfl⟩
  have hbad : ¬ ChkOK ps root → R = 11 := fun h => by rw [← hR]; exact chkR_f h
  have hgood : ChkOK ps root → R = 0 := fun h => by rw [← hR]; exact chkR_t h
  rw [hR]
  refine con_of_awp Go.Proofs.Try.func10 rfl (by kernel_rfl) (of_decide_eq_true (by kernel_rfl)) ?_; intro E hG hE; subst hG; simp only [ent]
  by_cases hb0 : 1 ≤ ps.length ∧ ps.length ≤ 4000 ∧ 0 ≤ root ∧ root < ps.length
  rotate_left
  · obtain rfl := hbad fun X => hb0 ⟨X.n1, X.n2, X.r0, X.r1⟩
    clear hbad hgood hR
    (repeat' (first | refine awp_seq ?_ | refine awp_block ?_ | refine awp_skip ?_ | refine awp_exit ?_ | ((first | refine rR (fun K kp hK hkp => ?_) | refine rD (id := 10) mixed 16 [0,1,2,3,4,5,6,7,8,9,10,11,12,13,14,15] (fun K kp hK hkp => ?_) | refine iG ?_ | refine iD ?_); simp (implicitDefEqProofs := false) (maxSteps := 2000000) (disch := omega) only [go_sem, eP]; (repeat' (first | (refine hK _ ?_; clear hK hkp kp K) | (with_reducible refine And.intro ?_ ?_) | omega))) | ((first | refine aG (fun h => ?_) (fun h => ?_) | refine aD (fun h => ?_) (fun h => ?_) | refine aX (fun h => ?_) (fun h => ?_)) <;> simp only [h]) | refine awp_cond_t rfl ?_ | refine awp_cond_f rfl ?_ | ((refine awp_cond rfl (fun h => ?_) (fun h => ?_) <;> try simp only [ifs] at h) <;> (try (exfalso; omega))) | refine awp_ret ?_))
    all_goals first
      | (refine retA_is (by (simp (implicitDefEqProofs := false) (maxSteps := 2000000) (disch := omega) only [go_sem, Go.Proofs.Try.results10]); rfl) ?_; refine eN hE ?_; simp [oneA, ren, renL])
      | (exfalso; simp only [decide_eq_false_iff_not] at *; omega)
  obtain ⟨b1, b2, b3, b4⟩ := hb0
  obtain ⟨rt, hrt⟩ : ∃ rt : Nat, root = rt := ⟨root.toNat, by omega⟩
  subst hrt
  have g1 : ((ps.length : Int) < 1) = False := eq_false (by omega)
  have g2 : ((ps.length : Int) > 4000) = False := eq_false (by omega)
  have g3 : ((rt : Int) < 0) = False := eq_false (by omega)
  have g4 : ((rt : Int) ≥ (ps.length : Int)) = False := eq_false (by omega)
  refine awp_seq ?_
  (refine rR (fun K kp hK hkp => ?_); simp (implicitDefEqProofs := false) (maxSteps := 2000000) (disch := omega) only [go_sem]; (repeat' (first | (refine hK _ ?_; clear hK hkp kp K) | (with_reducible refine And.intro ?_ ?_) | omega)))
  refine awp_seq ?_
  refine awp_seq ?_
  (refine rR (fun K kp hK hkp => ?_); simp (implicitDefEqProofs := false) (maxSteps := 2000000) (disch := omega) only [go_sem, g1, g2, g3, g4]; (repeat' (first | (refine hK _ ?_; clear hK hkp kp K) | (with_reducible refine And.intro ?_ ?_) | omega)))
  refine awp_cond_f rfl ?_
  refine awp_skip ?_
  by_cases hall : ∀ (i : Nat) (p : PG), ps[i]? = some p → PageOK p ps.length
  rotate_left
  · obtain rfl := hbad fun X => hall X.pg
    clear hbad hgood hR
    (repeat' (first | refine awp_seq ?_ | refine awp_block ?_ | refine awp_skip ?_ | refine awp_exit ?_ | ((first | refine rR (fun K kp hK hkp => ?_) | refine rD (id := 10) mixed 16 [0,1,2,3,4,5,6,7,8,9,10,11,12,13,14,15] (fun K kp hK hkp => ?_) | refine iG ?_ | refine iD ?_); simp (implicitDefEqProofs := false) (maxSteps := 2000000) (disch := omega) only [go_sem, eP]; (repeat' (first | (refine hK _ ?_; clear hK hkp kp K) | (with_reducible refine And.intro ?_ ?_) | omega))) | ((first | refine aG (fun h => ?_) (fun h => ?_) | refine aD (fun h => ?_) (fun h => ?_) | refine aX (fun h => ?_) (fun h => ?_)) <;> simp only [h]) | refine awp_cond_t rfl ?_ | refine awp_cond_f rfl ?_ | ((refine awp_cond rfl (fun h => ?_) (fun h => ?_) <;> try simp only [ifs] at h) <;> (try (exfalso; omega))) | refine awp_ret ?_))
    refine awp_loop (fun i : Nat => ⟨[(37, .r (.int .i64 i)), (36, .r (.int .i64 ps.length)), (35, .ro true 5 (ps.map eP)), (1, .p 0 0 0)], [(0, .box 24 [.ro true 5 (ps.map eP), .r (.int .i64 rt)])], 1⟩) (fun i => i ≤ ps.length ∧ ∀ (j : Nat) (p : PG), j < i → ps[j]? = some p → PageOK p ps.length) (fun i => ps.length - i) 0 ?_ ?_ ?_
    · exact ⟨Nat.zero_le _, fun j p hj => by omega⟩
    · (refine emb [0] ?_ ?_ rfl ?_ ?_ ?_ ?_ <;> simp [okM, okO, lk, ren, renL, renNd, by_, hE] <;> (try omega) <;> (try (intro i hi; first | (rcases i with _ | _ | i; rfl; rfl; (exfalso; omega)) | (rcases i with _ | _ | _ | i; rfl; rfl; rfl; (exfalso; omega)) | (rcases i with _ | _ | _ | _ | i; rfl; rfl; rfl; rfl; (exfalso; omega)) | (rcases i with _ | _ | _ | _ | _ | i; rfl; rfl; rfl; rfl; rfl; (exfalso; omega)) | (rcases i with _ | _ | _ | _ | _ | _ | i; rfl; rfl; rfl; rfl; rfl; rfl; (exfalso; omega)))))
    intro i hi
    obtain ⟨hi, hdone⟩ := hi
    by_cases hlt : i < ps.length
    · have zi : ((i : Int) < (ps.length : Int)) = True := eq_true (by omega)
      obtain ⟨p, hp⟩ : ∃ p, ps[i]? = some p := ⟨ps[i], by simp [hlt]⟩
      have pc := page_con E.G p ps.length (ho p (List.mem_of_getElem? hp)).1 (ho p (List.mem_of_getElem? hp)).2
      by_cases hpo : PageOK p ps.length
      · rw [pgB_t hpo] at pc
        (repeat' (first | refine awp_seq ?_ | refine awp_block ?_ | refine awp_skip ?_ | refine awp_exit ?_ | ((first | refine rR (fun K kp hK hkp => ?_) | refine rD (id := 10) mixed 16 [0,1,2,3,4,5,6,7,8,9,10,11,12,13,14,15] (fun K kp hK hkp => ?_) | refine cR pc ?_ | refine cD pc ?_ | refine iG ?_ | refine iD ?_); simp (implicitDefEqProofs := false) (maxSteps := 2000000) (disch := omega) only [go_sem, zi, hp, eP]; (repeat' (first | (refine hK _ ?_; clear hK hkp kp K) | (with_reducible refine And.intro ?_ ?_) | omega))) | ((first | refine aG (fun h => ?_) (fun h => ?_) | refine aD (fun h => ?_) (fun h => ?_) | refine aX (fun h => ?_) (fun h => ?_)) <;> simp only [h]) | refine awp_cond_t rfl ?_ | refine awp_cond_f rfl ?_ | ((refine awp_cond rfl (fun h => ?_) (fun h => ?_) <;> try simp only [ifs] at h) <;> (try (exfalso; omega))) | refine awp_ret ?_))
        ((first | (refine nextB (i + 1) ?_ ?_ ?_) | (refine nextA (i + 1) ?_ ?_ ?_) | (refine nextE (i + 1) ?_ ?_ ?_)); rotate_left; (· (try dsimp only); (first | omega | (simp only [List.length_drop, List.length_cons, List.length_append]; omega) | (simp; done) | (simp; omega))); (· (refine emb [0] ?_ ?_ rfl ?_ ?_ ?_ ?_ <;> simp [okM, okO, lk, ren, renL, renNd, by_, hE] <;> (try omega) <;> (try (intro i hi; first | (rcases i with _ | _ | i; rfl; rfl; (exfalso; omega)) | (rcases i with _ | _ | _ | i; rfl; rfl; rfl; (exfalso; omega)) | (rcases i with _ | _ | _ | _ | i; rfl; rfl; rfl; rfl; (exfalso; omega)) | (rcases i with _ | _ | _ | _ | _ | i; rfl; rfl; rfl; rfl; rfl; (exfalso; omega)) | (rcases i with _ | _ | _ | _ | _ | _ | i; rfl; rfl; rfl; rfl; rfl; rfl; (exfalso; omega)))))))
        refine ⟨by omega, fun j q hj hq => ?_⟩
        by_cases he : j = i
        · subst he; rw [hp] at hq; cases hq; exact hpo
        · exact hdone j q (by omega) hq
      · rw [pgB_f hpo] at pc
        (repeat' (first | refine awp_seq ?_ | refine awp_block ?_ | refine awp_skip ?_ | refine awp_exit ?_ | ((first | refine rR (fun K kp hK hkp => ?_) | refine rD (id := 10) mixed 16 [0,1,2,3,4,5,6,7,8,9,10,11,12,13,14,15] (fun K kp hK hkp => ?_) | refine cR pc ?_ | refine cD pc ?_ | refine iG ?_ | refine iD ?_); simp (implicitDefEqProofs := false) (maxSteps := 2000000) (disch := omega) only [go_sem, zi, hp, eP]; (repeat' (first | (refine hK _ ?_; clear hK hkp kp K) | (with_reducible refine And.intro ?_ ?_) | omega))) | ((first | refine aG (fun h => ?_) (fun h => ?_) | refine aD (fun h => ?_) (fun h => ?_) | refine aX (fun h => ?_) (fun h => ?_)) <;> simp only [h]) | refine awp_cond_t rfl ?_ | refine awp_cond_f rfl ?_ | ((refine awp_cond rfl (fun h => ?_) (fun h => ?_) <;> try simp only [ifs] at h) <;> (try (exfalso; omega))) | refine awp_ret ?_))
        (refine retA_is (by (simp (implicitDefEqProofs := false) (maxSteps := 2000000) (disch := omega) only [go_sem, Go.Proofs.Try.results10]); rfl) ?_; refine eN hE ?_; simp [oneA, ren, renL])
    · exfalso
      exact hall fun j p hp => hdone j p (by have := (List.getElem?_eq_some_iff.1 hp).1; omega) hp
  refine awp_cut (fx := ⟨[(1, .p 0 0 0)], [(0, .box 24 [.ro true 5 (ps.map eP), .r (.int .i64 rt)])], 1⟩) ?_ fun K hcut => ?_
  rotate_left
  · (repeat' (first | refine awp_seq ?_ | refine awp_block ?_ | refine awp_skip ?_ | refine awp_exit ?_ | ((first | refine rR (fun K kp hK hkp => ?_) | refine rD (id := 10) mixed 16 [0,1,2,3,4,5,6,7,8,9,10,11,12,13,14,15] (fun K kp hK hkp => ?_) | refine iG ?_ | refine iD ?_); simp (implicitDefEqProofs := false) (maxSteps := 2000000) (disch := omega) only [go_sem, eP]; (repeat' (first | (refine hK _ ?_; clear hK hkp kp K) | (with_reducible refine And.intro ?_ ?_) | omega))) | ((first | refine aG (fun h => ?_) (fun h => ?_) | refine aD (fun h => ?_) (fun h => ?_) | refine aX (fun h => ?_) (fun h => ?_)) <;> simp only [h]) | refine awp_cond_t rfl ?_ | refine awp_cond_f rfl ?_ | ((refine awp_cond rfl (fun h => ?_) (fun h => ?_) <;> try simp only [ifs] at h) <;> (try (exfalso; omega))) | refine awp_ret ?_))
    refine awp_loop (fun i : Nat => ⟨[(37, .r (.int .i64 i)), (36, .r (.int .i64 ps.length)), (35, .ro true 5 (ps.map eP)), (1, .p 0 0 0)], [(0, .box 24 [.ro true 5 (ps.map eP), .r (.int .i64 rt)])], 1⟩) (fun i => i ≤ ps.length) (fun i => ps.length - i) 0 ?_ ?_ ?_
    · exact Nat.zero_le _
    · (refine emb [0] ?_ ?_ rfl ?_ ?_ ?_ ?_ <;> simp [okM, okO, lk, ren, renL, renNd, by_, hE] <;> (try omega) <;> (try (intro i hi; first | (rcases i with _ | _ | i; rfl; rfl; (exfalso; omega)) | (rcases i with _ | _ | _ | i; rfl; rfl; rfl; (exfalso; omega)) | (rcases i with _ | _ | _ | _ | i; rfl; rfl; rfl; rfl; (exfalso; omega)) | (rcases i with _ | _ | _ | _ | _ | i; rfl; rfl; rfl; rfl; rfl; (exfalso; omega)) | (rcases i with _ | _ | _ | _ | _ | _ | i; rfl; rfl; rfl; rfl; rfl; rfl; (exfalso; omega)))))
    intro i hi
    by_cases hlt : i < ps.length
    · have zi : ((i : Int) < (ps.length : Int)) = True := eq_true (by omega)
      obtain ⟨p, hp⟩ : ∃ p, ps[i]? = some p := ⟨ps[i], by simp [hlt]⟩
      have pc := page_con E.G p ps.length (ho p (List.mem_of_getElem? hp)).1 (ho p (List.mem_of_getElem? hp)).2
      rw [pgB_t (hall i p hp)] at pc
      (repeat' (first | refine awp_seq ?_ | refine awp_block ?_ | refine awp_skip ?_ | refine awp_exit ?_ | ((first | refine rR (fun K kp hK hkp => ?_) | refine rD (id := 10) mixed 16 [0,1,2,3,4,5,6,7,8,9,10,11,12,13,14,15] (fun K kp hK hkp => ?_) | refine cR pc ?_ | refine cD pc ?_ | refine iG ?_ | refine iD ?_); simp (implicitDefEqProofs := false) (maxSteps := 2000000) (disch := omega) only [go_sem, zi, hp, eP]; (repeat' (first | (refine hK _ ?_; clear hK hkp kp K) | (with_reducible refine And.intro ?_ ?_) | omega))) | ((first | refine aG (fun h => ?_) (fun h => ?_) | refine aD (fun h => ?_) (fun h => ?_) | refine aX (fun h => ?_) (fun h => ?_)) <;> simp only [h]) | refine awp_cond_t rfl ?_ | refine awp_cond_f rfl ?_ | ((refine awp_cond rfl (fun h => ?_) (fun h => ?_) <;> try simp only [ifs] at h) <;> (try (exfalso; omega))) | refine awp_ret ?_))
      ((first | (refine nextB (i + 1) ?_ ?_ ?_) | (refine nextA (i + 1) ?_ ?_ ?_) | (refine nextE (i + 1) ?_ ?_ ?_)); rotate_left; (· (try dsimp only); (first | omega | (simp only [List.length_drop, List.length_cons, List.length_append]; omega) | (simp; done) | (simp; omega))); (· (refine emb [0] ?_ ?_ rfl ?_ ?_ ?_ ?_ <;> simp [okM, okO, lk, ren, renL, renNd, by_, hE] <;> (try omega) <;> (try (intro i hi; first | (rcases i with _ | _ | i; rfl; rfl; (exfalso; omega)) | (rcases i with _ | _ | _ | i; rfl; rfl; rfl; (exfalso; omega)) | (rcases i with _ | _ | _ | _ | i; rfl; rfl; rfl; rfl; (exfalso; omega)) | (rcases i with _ | _ | _ | _ | _ | i; rfl; rfl; rfl; rfl; rfl; (exfalso; omega)) | (rcases i with _ | _ | _ | _ | _ | _ | i; rfl; rfl; rfl; rfl; rfl; rfl; (exfalso; omega)))))))
      omega
    · obtain rfl : i = ps.length := by omega
      (repeat' (first | refine awp_seq ?_ | refine awp_block ?_ | refine awp_skip ?_ | refine awp_exit ?_ | ((first | refine rR (fun K kp hK hkp => ?_) | refine rD (id := 10) mixed 16 [0,1,2,3,4,5,6,7,8,9,10,11,12,13,14,15] (fun K kp hK hkp => ?_) | refine iG ?_ | refine iD ?_); simp (implicitDefEqProofs := false) (maxSteps := 2000000) (disch := omega) only [go_sem]; (repeat' (first | (refine hK _ ?_; clear hK hkp kp K) | (with_reducible refine And.intro ?_ ?_) | omega))) | ((first | refine aG (fun h => ?_) (fun h => ?_) | refine aD (fun h => ?_) (fun h => ?_) | refine aX (fun h => ?_) (fun h => ?_)) <;> simp only [h]) | refine awp_cond_t rfl ?_ | refine awp_cond_f rfl ?_ | ((refine awp_cond rfl (fun h => ?_) (fun h => ?_) <;> try simp only [ifs] at h) <;> (try (exfalso; omega))) | refine awp_ret ?_))
      refine hcut _ ?_
      (refine emb [0] ?_ ?_ rfl ?_ ?_ ?_ ?_ <;> simp [okM, okO, lk, ren, renL, renNd, by_, hE] <;> (try omega) <;> (try (intro i hi; first | (rcases i with _ | _ | i; rfl; rfl; (exfalso; omega)) | (rcases i with _ | _ | _ | i; rfl; rfl; rfl; (exfalso; omega)) | (rcases i with _ | _ | _ | _ | i; rfl; rfl; rfl; rfl; (exfalso; omega)) | (rcases i with _ | _ | _ | _ | _ | i; rfl; rfl; rfl; rfl; rfl; (exfalso; omega)) | (rcases i with _ | _ | _ | _ | _ | _ | i; rfl; rfl; rfl; rfl; rfl; rfl; (exfalso; omega)))))
  have hin := kids_in hall
  have wi0 : WI ps.length ⟨[], []⟩ := ⟨List.nodup_nil, by simp, Nat.le_refl _, by simp⟩
  have wc := walk_con E.G ps rt b2 (fun p hp => by obtain ⟨i, hi⟩ := List.mem_iff_getElem?.1 hp; exact hall i p hi) hin (ps.length + 1) rt 0 [] [] true true ⟨[], []⟩ (by omega) wi0 (Nat.le_refl _) (by simp)
  obtain ⟨X, hX⟩ : ∃ X, walkF ps (ps.length + 1) rt [] [] 0 ⟨[], []⟩ = X := ⟨_, rfl⟩
  obtain ⟨wi, wl⟩ := walk_inv (n := ps.length) hin (ps.length + 1) rt [] [] 0 ⟨[], []⟩ (by omega) wi0 (Nat.le_refl _)
  rw [hX] at wc wi wl
  have hgood : 0 ≤ X.1 → X.2.met.length = ps.length → (∀ l ∈ X.2.rows, chain ps l) → R = 0 := fun h1 h2 h3 => hgood ⟨b1, b2, b3, b4, hall, by rw [Int.toNat_natCast, hX]; exact h1, by rw [Int.toNat_natCast, hX]; exact h2, by rw [Int.toNat_natCast, hX]; exact h3⟩
  have hbad1 : ¬ 0 ≤ X.1 → R = 11 := fun h => hbad fun Y => h (by have := Y.wk; rwa [Int.toNat_natCast, hX] at this)
  have hbad2 : X.2.met.length ≠ ps.length → R = 11 := fun h => hbad fun Y => h (by have := Y.mt; rwa [Int.toNat_natCast, hX] at this)
  have hbad3 : ¬ (∀ l ∈ X.2.rows, chain ps l) → R = 11 := fun h => hbad fun Y => h (by have := Y.ch; rwa [Int.toNat_natCast, hX] at this)
  clear hbad
  refine awp_seq ?_
  (refine rR (fun K kp hK hkp => ?_); simp (implicitDefEqProofs := false) (maxSteps := 2000000) (disch := omega) only [go_sem, eP]; (repeat' (first | (refine hK _ ?_; clear hK hkp kp K) | (with_reducible refine And.intro ?_ ?_) | omega)))
  (refine AWP.emb (emb_nilB 2 3 50 1 rfl rfl (by simp)) ?_; simp only [List.set_cons_zero, List.set_cons_succ, lk, ↓reduceIte, Nat.reduceAdd])
  (refine AWP.emb (emb_toU (T := ?z1T) (k := ?z1k) (els := ?z1e) 3 ?z1h) ?z1g; (case z1h => rfl); simp only [setNd])
  replace wc := wc.weak (xs := [.p 0 0 0, .r (.int .i64 rt), .r (.slice none 0 0), .r (.slice none 0 0), .r (.int .i64 0)]) (by simp [wkL, wk])
  (repeat' (first | refine awp_seq ?_ | refine awp_block ?_ | refine awp_skip ?_ | refine awp_exit ?_ | ((first | refine rR (fun K kp hK hkp => ?_) | refine rP (id := 10) mixed 3 4 [0, 1, 2] [4, 5, 6, 7, 8, 9, 10, 11, 12, 13, 14, 15] (fun K kp hK hkp => ?_) | refine phA (fun K kp hK hkp => ?_) | refine iG ?_ | refine iD ?_); simp (implicitDefEqProofs := false) (maxSteps := 2000000) (disch := omega) only [go_sem, eP]; (repeat' (first | (refine hK _ ?_; clear hK hkp kp K) | (with_reducible refine And.intro ?_ ?_) | omega))) | ((first | refine aG (fun h => ?_) (fun h => ?_) | refine aD (fun h => ?_) (fun h => ?_) | refine aX (fun h => ?_) (fun h => ?_)) <;> simp only [h]) | refine awp_cond_t rfl ?_ | refine awp_cond_f rfl ?_ | ((refine awp_cond rfl (fun h => ?_) (fun h => ?_) <;> try simp only [ifs] at h) <;> (try (exfalso; omega))) | refine awp_ret ?_))
  (refine callR_own [2, 1, 3] (wc) ?_ ?_ ?_ ?_ ?_ ?_ ?_ ?_ rfl rfl ?_; (· simp [pasL, pas, idx, bor, borL, borC, lk, ownW, boxW, renOp, ptq, ptA_eRow, List.map_nil, castL, List.length_nil]); (· simp [okO, lk, renNd, renL, ren, by_, ownW, boxW, renOp, ptq, ptA_eRow, List.map_nil, castL, List.length_nil]); (· (intro i hi; simp only [List.length_cons, List.length_nil] at hi; repeat' (first | omega | exact ⟨_, rfl⟩ | (rcases i with _ | i)))); (· simp); (· simp); (· simp); (· simp [ownW, boxW, renOp, ptq, ptA_eRow, List.map_nil, castL, List.length_nil]); (· simp [ownW, boxW, renOp, ptq, ptA_eRow, List.map_nil, castL, List.length_nil]); simp only [mapO, fw, rmL, rm, List.map_cons, List.map_nil, List.foldl_cons, List.foldl_nil, List.getElem?_cons_zero, List.getElem?_cons_succ, List.getElem?_nil, List.length_cons, List.length_nil, Nat.zero_add, Nat.sub_self, Nat.add_zero, ↓reduceIte, Nat.reduceEqDiff, reduceCtorEq, Nat.reduceAdd, Nat.reduceSub, List.cons_append, List.nil_append, ren, renL, renNd, ownW, boxW, renOp, ptq, ptA_eRow, List.map_nil, castL, List.length_nil]; simp (implicitDefEqProofs := false) (maxSteps := 2000000) (disch := omega) only [go_sem, ownW, boxW, renOp, ptq, ptA_eRow, List.map_nil, castL, List.length_nil]; (repeat' (first | (refine hK _ ?_; clear hK hkp kp K) | (with_reducible refine And.intro ?_ ?_) | omega)))
  by_cases c1 : 0 ≤ X.1
  rotate_left
  · obtain rfl := hbad1 c1
    have q1 : (X.1 < 0) = True := eq_true (by omega)
    (repeat' (first | refine awp_seq ?_ | refine awp_block ?_ | refine awp_skip ?_ | refine awp_exit ?_ | ((first | refine rR (fun K kp hK hkp => ?_) | refine rP (id := 10) mixed 3 4 [0, 1, 2] [4, 5, 6, 7, 8, 9, 10, 11, 12, 13, 14, 15] (fun K kp hK hkp => ?_) | refine phA (fun K kp hK hkp => ?_) | refine iG ?_ | refine iD ?_); simp (implicitDefEqProofs := false) (maxSteps := 2000000) (disch := omega) only [go_sem, eP, q1]; (repeat' (first | (refine hK _ ?_; clear hK hkp kp K) | (with_reducible refine And.intro ?_ ?_) | omega))) | ((first | refine aG (fun h => ?_) (fun h => ?_) | refine aD (fun h => ?_) (fun h => ?_) | refine aX (fun h => ?_) (fun h => ?_)) <;> simp only [h]) | refine awp_cond_t rfl ?_ | refine awp_cond_f rfl ?_ | ((refine awp_cond rfl (fun h => ?_) (fun h => ?_) <;> try simp only [ifs] at h) <;> (try (exfalso; omega))) | refine awp_ret ?_))
    (refine retA_is (by (simp (implicitDefEqProofs := false) (maxSteps := 2000000) (disch := omega) only [go_sem, Go.Proofs.Try.results10]); rfl) ?_; refine eN hE ?_; simp [oneA, ren, renL])
  have q1 : (X.1 < 0) = False := eq_false (by omega)
  by_cases c2 : X.2.met.length = ps.length
  rotate_left
  · obtain rfl := hbad2 c2
    have q2 : ((X.2.met.length : Int) != (ps.length : Int)) = true := by simp; omega
    (repeat' (first | refine awp_seq ?_ | refine awp_block ?_ | refine awp_skip ?_ | refine awp_exit ?_ | ((first | refine rR (fun K kp hK hkp => ?_) | refine rP (id := 10) mixed 3 4 [0, 1, 2] [4, 5, 6, 7, 8, 9, 10, 11, 12, 13, 14, 15] (fun K kp hK hkp => ?_) | refine phA (fun K kp hK hkp => ?_) | refine iG ?_ | refine iD ?_); simp (implicitDefEqProofs := false) (maxSteps := 2000000) (disch := omega) only [go_sem, eP, q1, q2, List.length_map]; (repeat' (first | (refine hK _ ?_; clear hK hkp kp K) | (with_reducible refine And.intro ?_ ?_) | omega))) | ((first | refine aG (fun h => ?_) (fun h => ?_) | refine aD (fun h => ?_) (fun h => ?_) | refine aX (fun h => ?_) (fun h => ?_)) <;> simp only [h]) | refine awp_cond_t rfl ?_ | refine awp_cond_f rfl ?_ | ((refine awp_cond rfl (fun h => ?_) (fun h => ?_) <;> try simp only [ifs] at h) <;> (try (exfalso; omega))) | refine awp_ret ?_))
    (refine retA_is (by (simp (implicitDefEqProofs := false) (maxSteps := 2000000) (disch := omega) only [go_sem, Go.Proofs.Try.results10]); rfl) ?_; refine eN hE ?_; simp [oneA, ren, renL])
  have q2 : ((X.2.met.length : Int) != (ps.length : Int)) = false := by rw [c2]; simp
  obtain ⟨dd, W⟩ := walk_sound (kids_ne hall) (ps.length + 1) rt [] [] 0 ⟨[], []⟩ (Nat.le_refl _) List.nodup_nil (by rw [hX]; exact c1)
  rw [hX] at W
  have hrow : ∀ (m : Nat) (l : List Nat), X.2.rows[m]? = some l → ∀ x ∈ l, x < ps.length := by
    intro m l hl x hx
    have h1 := W.rows m
    rw [List.getD_eq_getElem?_getD, hl] at h1
    simp only [Option.getD_some, Nat.zero_le, if_true, Nat.sub_zero] at h1
    have h2 : l = lvl ps m [rt] := by simpa using h1
    rw [h2] at hx
    exact lvl_lt hin m [rt] (by simp; omega) x hx
  have wil := wi.len
  have wirl := wi.rl
  (repeat' (first | refine awp_seq ?_ | refine awp_block ?_ | refine awp_skip ?_ | refine awp_exit ?_ | ((first | refine rR (fun K kp hK hkp => ?_) | refine rP (id := 10) mixed 3 4 [0, 1, 2] [4, 5, 6, 7, 8, 9, 10, 11, 12, 13, 14, 15] (fun K kp hK hkp => ?_) | refine phA (fun K kp hK hkp => ?_) | refine iG ?_ | refine iD ?_); simp (implicitDefEqProofs := false) (maxSteps := 2000000) (disch := omega) only [go_sem, eP, q1, q2, List.length_map]; (repeat' (first | (refine hK _ ?_; clear hK hkp kp K) | (with_reducible refine And.intro ?_ ?_) | omega))) | ((first | refine aG (fun h => ?_) (fun h => ?_) | refine aD (fun h => ?_) (fun h => ?_) | refine aX (fun h => ?_) (fun h => ?_)) <;> simp only [h]) | refine awp_cond_t rfl ?_ | refine awp_cond_f rfl ?_ | ((refine awp_cond rfl (fun h => ?_) (fun h => ?_) <;> try simp only [ifs] at h) <;> (try (exfalso; omega))) | refine awp_ret ?_))
  (refine AWP.emb (emb_toL (T := ?z2T) (k := ?z2k) (els := ?z2e) 4 ?z2h) ?z2g; (case z2h => rfl); simp only [setNd, dfz_eRow])
  refine awp_loop (fun k : Nat => ⟨[(73, .r (.int .i64 k)), (72, .r (.int .i64 X.2.rows.length)), (71, .s 1 0 X.2.rows.length), (1, .p 0 0 0)], [(0, .box 24 [.ro true 5 (ps.map eP), .r (.int .i64 rt)]), (1, .lst 50 1 (X.2.rows.map eNs))], 2⟩) (fun k => k ≤ X.2.rows.length ∧ ∀ (j : Nat) l, j < k → X.2.rows[j]? = some l → chain ps l) (fun k => X.2.rows.length - k) 0 ?_ ?_ ?_
  · exact ⟨Nat.zero_le _, fun j l hj => by omega⟩
  · (refine emb [0, 4] ?_ ?_ rfl ?_ ?_ ?_ ?_ <;> simp [okM, okO, lk, ren, renL, renNd, by_, hE] <;> (try omega) <;> (try (intro i hi; first | (rcases i with _ | _ | i; rfl; rfl; (exfalso; omega)) | (rcases i with _ | _ | _ | i; rfl; rfl; rfl; (exfalso; omega)) | (rcases i with _ | _ | _ | _ | i; rfl; rfl; rfl; rfl; (exfalso; omega)) | (rcases i with _ | _ | _ | _ | _ | i; rfl; rfl; rfl; rfl; rfl; (exfalso; omega)) | (rcases i with _ | _ | _ | _ | _ | _ | i; rfl; rfl; rfl; rfl; rfl; rfl; (exfalso; omega)))))
  intro k hk
  obtain ⟨hk, hdone⟩ := hk
  by_cases hlt : k < X.2.rows.length
  · have zk : ((k : Int) < (X.2.rows.length : Int)) = True := eq_true (by omega)
    obtain ⟨l, hl⟩ : ∃ l, X.2.rows[k]? = some l := ⟨X.2.rows[k], by simp [hlt]⟩
    have hll := wi.rs l (List.mem_of_getElem? hl)
    (repeat' (first | refine awp_seq ?_ | refine awp_block ?_ | refine awp_skip ?_ | refine awp_exit ?_ | ((first | refine rR (fun K kp hK hkp => ?_) | refine rD (id := 10) mixed 16 [0,1,2,3,4,5,6,7,8,9,10,11,12,13,14,15] (fun K kp hK hkp => ?_) | refine iG ?_ | refine iD ?_); simp (implicitDefEqProofs := false) (maxSteps := 2000000) (disch := omega) only [go_sem, zk, hl, eNs]; (repeat' (first | (refine hK _ ?_; clear hK hkp kp K) | (with_reducible refine And.intro ?_ ?_) | omega))) | ((first | refine aG (fun h => ?_) (fun h => ?_) | refine aD (fun h => ?_) (fun h => ?_) | refine aX (fun h => ?_) (fun h => ?_)) <;> simp only [h]) | refine awp_cond_t rfl ?_ | refine awp_cond_f rfl ?_ | ((refine awp_cond rfl (fun h => ?_) (fun h => ?_) <;> try simp only [ifs] at h) <;> (try (exfalso; omega))) | refine awp_ret ?_))
    refine awp_loop (fun i : Nat => ⟨[(79, .r (.int .i64 i)), (78, .r (.int .i64 l.length)), (77, .ro true 1 (l.map eNt)), (7, .ro true 1 (l.map eNt)), (73, .r (.int .i64 k)), (72, .r (.int .i64 X.2.rows.length)), (71, .s 1 0 X.2.rows.length), (1, .p 0 0 0)], [(0, .box 24 [.ro true 5 (ps.map eP), .r (.int .i64 rt)]), (1, .lst 50 1 (X.2.rows.map eNs))], 2⟩) (fun i => i ≤ l.length ∧ ∀ (j y : Nat), j < i → l[j]? = some y → (pg ps y).next = rightOf l j) (fun i => l.length - i) 0 ?_ ?_ ?_
    · exact ⟨Nat.zero_le _, fun j l hj => by omega⟩
    · (refine emb [0, 1] ?_ ?_ rfl ?_ ?_ ?_ ?_ <;> simp [okM, okO, lk, ren, renL, renNd, by_, hE] <;> (try omega) <;> (try (intro i hi; first | (rcases i with _ | _ | i; rfl; rfl; (exfalso; omega)) | (rcases i with _ | _ | _ | i; rfl; rfl; rfl; (exfalso; omega)) | (rcases i with _ | _ | _ | _ | i; rfl; rfl; rfl; rfl; (exfalso; omega)) | (rcases i with _ | _ | _ | _ | _ | i; rfl; rfl; rfl; rfl; rfl; (exfalso; omega)) | (rcases i with _ | _ | _ | _ | _ | _ | i; rfl; rfl; rfl; rfl; rfl; rfl; (exfalso; omega)))))
    intro i hi
    obtain ⟨hi, hd2⟩ := hi
    by_cases hil : i < l.length
    · have zi : ((i : Int) < (l.length : Int)) = True := eq_true (by omega)
      obtain ⟨x, hx⟩ : ∃ x, l[i]? = some x := ⟨l[i], by simp [hil]⟩
      have hxn := hrow k l hl x (List.mem_of_getElem? hx)
      obtain ⟨p, hp⟩ : ∃ p, ps[x]? = some p := ⟨ps[x], by simp [hxn]⟩
      have hpg : pg ps x = p := by rw [pg, List.getD_eq_getElem?_getD, hp]; rfl
      have zx : ((x : Int) < (ps.length : Int)) = True := eq_true (by omega)
      have i1 : (i : Int) + 1 = ((i + 1 : Nat) : Int) := by omega
      by_cases hi1 : i + 1 < l.length
      · have q3 : (((i + 1 : Nat) : Int) < (l.length : Int)) = True := eq_true (by omega)
        obtain ⟨y, hy⟩ : ∃ y, l[i + 1]? = some y := ⟨l[i + 1], by simp [hi1]⟩
        have hrt2 : rightOf l i = (y : Int) := by rw [rightOf, hy]
        by_cases hc : p.next = (y : Int)
        · have q4 : (p.next != (y : Int)) = false := by rw [hc]; simp
          (repeat' (first | refine awp_seq ?_ | refine awp_block ?_ | refine awp_skip ?_ | refine awp_exit ?_ | ((first | refine rR (fun K kp hK hkp => ?_) | refine rD (id := 10) mixed 16 [0,1,2,3,4,5,6,7,8,9,10,11,12,13,14,15] (fun K kp hK hkp => ?_) | refine iG ?_ | refine iD ?_); simp (implicitDefEqProofs := false) (maxSteps := 2000000) (disch := omega) only [go_sem, zi, hx, hp, eNt, eP, q3, i1, hy, zx, q4]; (repeat' (first | (refine hK _ ?_; clear hK hkp kp K) | (with_reducible refine And.intro ?_ ?_) | omega))) | ((first | refine aG (fun h => ?_) (fun h => ?_) | refine aD (fun h => ?_) (fun h => ?_) | refine aX (fun h => ?_) (fun h => ?_)) <;> simp only [h]) | refine awp_cond_t rfl ?_ | refine awp_cond_f rfl ?_ | ((refine awp_cond rfl (fun h => ?_) (fun h => ?_) <;> try simp only [ifs] at h) <;> (try (exfalso; omega))) | refine awp_ret ?_))
          ((first | (refine nextB (i + 1) ?_ ?_ ?_) | (refine nextA (i + 1) ?_ ?_ ?_) | (refine nextE (i + 1) ?_ ?_ ?_)); rotate_left; (· (try dsimp only); (first | omega | (simp only [List.length_drop, List.length_cons, List.length_append]; omega) | (simp; done) | (simp; omega))); (· (refine emb [0, 1] ?_ ?_ rfl ?_ ?_ ?_ ?_ <;> simp [okM, okO, lk, ren, renL, renNd, by_, hE] <;> (try omega) <;> (try (intro i hi; first | (rcases i with _ | _ | i; rfl; rfl; (exfalso; omega)) | (rcases i with _ | _ | _ | i; rfl; rfl; rfl; (exfalso; omega)) | (rcases i with _ | _ | _ | _ | i; rfl; rfl; rfl; rfl; (exfalso; omega)) | (rcases i with _ | _ | _ | _ | _ | i; rfl; rfl; rfl; rfl; rfl; (exfalso; omega)) | (rcases i with _ | _ | _ | _ | _ | _ | i; rfl; rfl; rfl; rfl; rfl; rfl; (exfalso; omega)))))))
          exact ⟨by omega, fun j y' hj hy' => (by
            by_cases he : j = i
            · subst he; rw [hx] at hy'; cases hy'; rw [hpg, hrt2]; exact hc
            · exact hd2 j y' (by omega) hy')⟩
        · skip
          obtain rfl := hbad3 fun Y => (by
            have h1 := Y l (List.mem_of_getElem? hl) i x hx
            rw [hpg, hrt2] at h1
            exact hc h1)
          have q4 : (p.next != (y : Int)) = true := by simpa using hc
          (repeat' (first | refine awp_seq ?_ | refine awp_block ?_ | refine awp_skip ?_ | refine awp_exit ?_ | ((first | refine rR (fun K kp hK hkp => ?_) | refine rD (id := 10) mixed 16 [0,1,2,3,4,5,6,7,8,9,10,11,12,13,14,15] (fun K kp hK hkp => ?_) | refine iG ?_ | refine iD ?_); simp (implicitDefEqProofs := false) (maxSteps := 2000000) (disch := omega) only [go_sem, zi, hx, hp, eNt, eP, q3, i1, hy, zx, q4]; (repeat' (first | (refine hK _ ?_; clear hK hkp kp K) | (with_reducible refine And.intro ?_ ?_) | omega))) | ((first | refine aG (fun h => ?_) (fun h => ?_) | refine aD (fun h => ?_) (fun h => ?_) | refine aX (fun h => ?_) (fun h => ?_)) <;> simp only [h]) | refine awp_cond_t rfl ?_ | refine awp_cond_f rfl ?_ | ((refine awp_cond rfl (fun h => ?_) (fun h => ?_) <;> try simp only [ifs] at h) <;> (try (exfalso; omega))) | refine awp_ret ?_))
          (refine retA_is (by (simp (implicitDefEqProofs := false) (maxSteps := 2000000) (disch := omega) only [go_sem, Go.Proofs.Try.results10]); rfl) ?_; refine eN hE ?_; simp [oneA, ren, renL])
      · have q3 : (((i + 1 : Nat) : Int) < (l.length : Int)) = False := eq_false (by omega)
        have hrt2 : rightOf l i = -1 := by rw [rightOf, List.getElem?_eq_none (by omega)]
        by_cases hc : p.next = -1
        · have q4 : (p.next != -1) = false := by rw [hc]; rfl
          (repeat' (first | refine awp_seq ?_ | refine awp_block ?_ | refine awp_skip ?_ | refine awp_exit ?_ | ((first | refine rR (fun K kp hK hkp => ?_) | refine rD (id := 10) mixed 16 [0,1,2,3,4,5,6,7,8,9,10,11,12,13,14,15] (fun K kp hK hkp => ?_) | refine iG ?_ | refine iD ?_); simp (implicitDefEqProofs := false) (maxSteps := 2000000) (disch := omega) only [go_sem, zi, hx, hp, eNt, eP, q3, i1, zx, q4]; (repeat' (first | (refine hK _ ?_; clear hK hkp kp K) | (with_reducible refine And.intro ?_ ?_) | omega))) | ((first | refine aG (fun h => ?_) (fun h => ?_) | refine aD (fun h => ?_) (fun h => ?_) | refine aX (fun h => ?_) (fun h => ?_)) <;> simp only [h]) | refine awp_cond_t rfl ?_ | refine awp_cond_f rfl ?_ | ((refine awp_cond rfl (fun h => ?_) (fun h => ?_) <;> try simp only [ifs] at h) <;> (try (exfalso; omega))) | refine awp_ret ?_))
          ((first | (refine nextB (i + 1) ?_ ?_ ?_) | (refine nextA (i + 1) ?_ ?_ ?_) | (refine nextE (i + 1) ?_ ?_ ?_)); rotate_left; (· (try dsimp only); (first | omega | (simp only [List.length_drop, List.length_cons, List.length_append]; omega) | (simp; done) | (simp; omega))); (· (refine emb [0, 1] ?_ ?_ rfl ?_ ?_ ?_ ?_ <;> simp [okM, okO, lk, ren, renL, renNd, by_, hE] <;> (try omega) <;> (try (intro i hi; first | (rcases i with _ | _ | i; rfl; rfl; (exfalso; omega)) | (rcases i with _ | _ | _ | i; rfl; rfl; rfl; (exfalso; omega)) | (rcases i with _ | _ | _ | _ | i; rfl; rfl; rfl; rfl; (exfalso; omega)) | (rcases i with _ | _ | _ | _ | _ | i; rfl; rfl; rfl; rfl; rfl; (exfalso; omega)) | (rcases i with _ | _ | _ | _ | _ | _ | i; rfl; rfl; rfl; rfl; rfl; rfl; (exfalso; omega)))))))
          exact ⟨by omega, fun j y' hj hy' => (by
            by_cases he : j = i
            · subst he; rw [hx] at hy'; cases hy'; rw [hpg, hrt2]; exact hc
            · exact hd2 j y' (by omega) hy')⟩
        · skip
          obtain rfl := hbad3 fun Y => (by
            have h1 := Y l (List.mem_of_getElem? hl) i x hx
            rw [hpg, hrt2] at h1
            exact hc h1)
          have q4 : (p.next != -1) = true := by simpa using hc
          (repeat' (first | refine awp_seq ?_ | refine awp_block ?_ | refine awp_skip ?_ | refine awp_exit ?_ | ((first | refine rR (fun K kp hK hkp => ?_) | refine rD (id := 10) mixed 16 [0,1,2,3,4,5,6,7,8,9,10,11,12,13,14,15] (fun K kp hK hkp => ?_) | refine iG ?_ | refine iD ?_); simp (implicitDefEqProofs := false) (maxSteps := 2000000) (disch := omega) only [go_sem, zi, hx, hp, eNt, eP, q3, i1, zx, q4]; (repeat' (first | (refine hK _ ?_; clear hK hkp kp K) | (with_reducible refine And.intro ?_ ?_) | omega))) | ((first | refine aG (fun h => ?_) (fun h => ?_) | refine aD (fun h => ?_) (fun h => ?_) | refine aX (fun h => ?_) (fun h => ?_)) <;> simp only [h]) | refine awp_cond_t rfl ?_ | refine awp_cond_f rfl ?_ | ((refine awp_cond rfl (fun h => ?_) (fun h => ?_) <;> try simp only [ifs] at h) <;> (try (exfalso; omega))) | refine awp_ret ?_))
          (refine retA_is (by (simp (implicitDefEqProofs := false) (maxSteps := 2000000) (disch := omega) only [go_sem, Go.Proofs.Try.results10]); rfl) ?_; refine eN hE ?_; simp [oneA, ren, renL])
    · obtain rfl : i = l.length := by omega
      (repeat' (first | refine awp_seq ?_ | refine awp_block ?_ | refine awp_skip ?_ | refine awp_exit ?_ | ((first | refine rR (fun K kp hK hkp => ?_) | refine rD (id := 10) mixed 16 [0,1,2,3,4,5,6,7,8,9,10,11,12,13,14,15] (fun K kp hK hkp => ?_) | refine iG ?_ | refine iD ?_); simp (implicitDefEqProofs := false) (maxSteps := 2000000) (disch := omega) only [go_sem]; (repeat' (first | (refine hK _ ?_; clear hK hkp kp K) | (with_reducible refine And.intro ?_ ?_) | omega))) | ((first | refine aG (fun h => ?_) (fun h => ?_) | refine aD (fun h => ?_) (fun h => ?_) | refine aX (fun h => ?_) (fun h => ?_)) <;> simp only [h]) | refine awp_cond_t rfl ?_ | refine awp_cond_f rfl ?_ | ((refine awp_cond rfl (fun h => ?_) (fun h => ?_) <;> try simp only [ifs] at h) <;> (try (exfalso; omega))) | refine awp_ret ?_))
      ((first | (refine nextB (k + 1) ?_ ?_ ?_) | (refine nextA (k + 1) ?_ ?_ ?_) | (refine nextE (k + 1) ?_ ?_ ?_)); rotate_left; (· (try dsimp only); (first | omega | (simp only [List.length_drop, List.length_cons, List.length_append]; omega) | (simp; done) | (simp; omega))); (· (refine emb [0, 1] ?_ ?_ rfl ?_ ?_ ?_ ?_ <;> simp [okM, okO, lk, ren, renL, renNd, by_, hE] <;> (try omega) <;> (try (intro i hi; first | (rcases i with _ | _ | i; rfl; rfl; (exfalso; omega)) | (rcases i with _ | _ | _ | i; rfl; rfl; rfl; (exfalso; omega)) | (rcases i with _ | _ | _ | _ | i; rfl; rfl; rfl; rfl; (exfalso; omega)) | (rcases i with _ | _ | _ | _ | _ | i; rfl; rfl; rfl; rfl; rfl; (exfalso; omega)) | (rcases i with _ | _ | _ | _ | _ | _ | i; rfl; rfl; rfl; rfl; rfl; rfl; (exfalso; omega)))))))
      refine ⟨by omega, fun j m hj hm => ?_⟩
      by_cases he : j = k
      · subst he; rw [hl] at hm; cases hm
        exact fun a b hb => hd2 a b (List.getElem?_eq_some_iff.1 hb).1 hb
      · exact hdone j m (by omega) hm
  · obtain rfl : k = X.2.rows.length := by omega
    obtain rfl := hgood c1 c2 fun l hl => by
      obtain ⟨j, hj⟩ := List.mem_iff_getElem?.1 hl
      exact hdone j l (List.getElem?_eq_some_iff.1 hj).1 hj
    (repeat' (first | refine awp_seq ?_ | refine awp_block ?_ | refine awp_skip ?_ | refine awp_exit ?_ | ((first | refine rR (fun K kp hK hkp => ?_) | refine rD (id := 10) mixed 16 [0,1,2,3,4,5,6,7,8,9,10,11,12,13,14,15] (fun K kp hK hkp => ?_) | refine iG ?_ | refine iD ?_); simp (implicitDefEqProofs := false) (maxSteps := 2000000) (disch := omega) only [go_sem]; (repeat' (first | (refine hK _ ?_; clear hK hkp kp K) | (with_reducible refine And.intro ?_ ?_) | omega))) | ((first | refine aG (fun h => ?_) (fun h => ?_) | refine aD (fun h => ?_) (fun h => ?_) | refine aX (fun h => ?_) (fun h => ?_)) <;> simp only [h]) | refine awp_cond_t rfl ?_ | refine awp_cond_f rfl ?_ | ((refine awp_cond rfl (fun h => ?_) (fun h => ?_) <;> try simp only [ifs] at h) <;> (try (exfalso; omega))) | refine awp_ret ?_))
    (refine retA_is (by (simp (implicitDefEqProofs := false) (maxSteps := 2000000) (disch := omega) only [go_sem, Go.Proofs.Try.results10]); rfl) ?_; refine eN hE ?_; simp [oneA, ren, renL])
end Go.AM
/- Trees: a page by itself, the reference's side. -/
namespace Go.AM
open Go Go.RowKit
attribute [local irreducible] AWP retA
theorem nb_bit (n : Int) (l : Nat) : ((n == -1) = true ↔ n = -1) ∧ (((l : Int) == 0) = true ↔ l = 0) := ⟨beq_iff_eq, by rw [beq_iff_eq]; omega⟩
theorem nb_of2 {n : Int} {l : Nat} (h0 : -1 ≤ n) (h : ((n == -1) == ((l : Int) == 0)) = true) : n < 0 ↔ l = 0 := by
  obtain ⟨a, b⟩ := nb_bit n l
  rw [beq_iff_eq] at h
  rw [← b, ← h, a]; omega
theorem nb_to2 {n : Int} {l : Nat} (h0 : -1 ≤ n) (h : n < 0 ↔ l = 0) : (!((n == -1) == ((l : Int) == 0))) = false := by
  obtain ⟨a, b⟩ := nb_bit n l
  have : (n == -1) = ((l : Int) == 0) := Bool.eq_iff_iff.2 (by rw [a, b, ← h]; omega)
  rw [this]; simp
set_option maxRecDepth 100000 in
set_option maxHeartbeats 4000000 in
theorem fault_head (G : List (Nat × List Value)) (p : PG) (many : Nat) (H : ¬ HeadOK p many) (hb : p.keys.length ≤ 1048576) (hm : many ≤ 1048576) : Con Go.Proofs.Try.prog G 30 [.agg (eP p), .r (.int .i64 many)] [] 0 (Is (.r (.bool (!pgB p many))) [] 0) No := by
  rw [pgB_f fun x => H x.1]
  have ic := inT_con G p.next (-1) ((many : Int) - 1)
  refine con_of_awp Go.Proofs.Try.func30 rfl (by kernel_rfl) (of_decide_eq_true (by kernel_rfl)) ?_; intro E hG hE; subst hG; simp only [ent]
  cases hl : p.leaf
  · (repeat' (first | refine awp_seq ?_ | refine awp_block ?_ | refine awp_skip ?_ | refine awp_exit ?_ | ((first | refine rR (fun K kp hK hkp => ?_) | refine rD (id := 11) mixed 43 [0,1,2,3,4,5,6,7,8,9,10,11,12,13,14,15,16,17,18,19,20,21,22,23,24,25,26,27,28,29,30,31,32,33,34,35,36,37,38,39,40,41,42] (fun K kp hK hkp => ?_) | refine cR ic ?_ | refine cD ic ?_ | refine iG ?_ | refine iD ?_); simp (implicitDefEqProofs := false) (maxSteps := 2000000) (disch := omega) only [go_sem, eP, hl]; (repeat' (first | (refine hK _ ?_; clear hK hkp kp K) | (with_reducible refine And.intro ?_ ?_) | omega))) | ((first | refine aG (fun h => ?_) (fun h => ?_) | refine aD (fun h => ?_) (fun h => ?_) | refine aX (fun h => ?_) (fun h => ?_)) <;> simp only [h]) | refine awp_cond_t rfl ?_ | refine awp_cond_f rfl ?_ | ((refine awp_cond rfl (fun h => ?_) (fun h => ?_) <;> try simp only [ifs] at h) <;> (try (exfalso; omega))) | refine awp_ret ?_))
    all_goals first
      | (refine retA_is (by (simp (implicitDefEqProofs := false) (maxSteps := 2000000) (disch := omega) only [go_sem, Go.Proofs.Try.results30]); rfl) ?_; refine eN hE ?_; simp [oneA, ren, renL])
      | skip
    all_goals (exfalso; apply H; simp only [decide_eq_false_iff_not, decide_eq_true_eq, bne_eq_false_iff_eq, Bool.not_eq_false', Bool.and_eq_true] at *)
    rename_i h2 h3 h4 h5 h6
    exact ⟨by omega, by omega, by omega, by omega, nb_of2 (by omega) h6, fun h => (by rw [hl] at h; cases h), fun _ => by omega, fun _ => by omega⟩
  · (repeat' (first | refine awp_seq ?_ | refine awp_block ?_ | refine awp_skip ?_ | refine awp_exit ?_ | ((first | refine rR (fun K kp hK hkp => ?_) | refine rD (id := 11) mixed 43 [0,1,2,3,4,5,6,7,8,9,10,11,12,13,14,15,16,17,18,19,20,21,22,23,24,25,26,27,28,29,30,31,32,33,34,35,36,37,38,39,40,41,42] (fun K kp hK hkp => ?_) | refine cR ic ?_ | refine cD ic ?_ | refine iG ?_ | refine iD ?_); simp (implicitDefEqProofs := false) (maxSteps := 2000000) (disch := omega) only [go_sem, eP, hl]; (repeat' (first | (refine hK _ ?_; clear hK hkp kp K) | (with_reducible refine And.intro ?_ ?_) | omega))) | ((first | refine aG (fun h => ?_) (fun h => ?_) | refine aD (fun h => ?_) (fun h => ?_) | refine aX (fun h => ?_) (fun h => ?_)) <;> simp only [h]) | refine awp_cond_t rfl ?_ | refine awp_cond_f rfl ?_ | ((refine awp_cond rfl (fun h => ?_) (fun h => ?_) <;> try simp only [ifs] at h) <;> (try (exfalso; omega))) | refine awp_ret ?_))
    all_goals first
      | (refine retA_is (by (simp (implicitDefEqProofs := false) (maxSteps := 2000000) (disch := omega) only [go_sem, Go.Proofs.Try.results30]); rfl) ?_; refine eN hE ?_; simp [oneA, ren, renL])
      | skip
    all_goals (exfalso; apply H; simp only [decide_eq_false_iff_not, decide_eq_true_eq, bne_eq_false_iff_eq, Bool.not_eq_false', Bool.and_eq_true] at *)
    rename_i h2 h3 h4 h6
    exact ⟨by omega, by omega, by omega, by omega, nb_of2 (by omega) h6, fun _ => by omega, fun h => (by rw [hl] at h; cases h), fun h => (by rw [hl] at h; cases h)⟩
set_option maxRecDepth 100000 in
set_option maxHeartbeats 4000000 in
theorem fault_good (G : List (Nat × List Value)) (p : PG) (many : Nat) (H : HeadOK p many) (hb : p.kids.length ≤ 1048576) (hm : many ≤ 1048576) : Con Go.Proofs.Try.prog G 30 [.agg (eP p), .r (.int .i64 many)] [] 0 (Is (.r (.bool (!pgB p many))) [] 0) No := by
  have f1 : ((p.keys.length : Int) > 4) = False := eq_false (by have := H.nk; omega)
  have f2 : ((p.high.length : Int) > 100) = False := eq_false (by have := H.nh; omega)
  have f3 : (-1 ≤ p.next) = True := eq_true H.n0
  have f4 : (p.next ≤ (many : Int) - 1) = True := eq_true (by have := H.n1; omega)
  have f5 := nb_to2 H.n0 H.nb
  have hk4 := H.nk
  have ic := inT_con G p.next (-1) ((many : Int) - 1)
  simp only [f3, f4, decide_true, Bool.and_self] at ic
  refine con_of_awp Go.Proofs.Try.func30 rfl (by kernel_rfl) (of_decide_eq_true (by kernel_rfl)) ?_; intro E hG hE; subst hG; simp only [ent]
  cases hl : p.leaf
  case' false =>
    have f6 := H.ki hl
    have f7 : ((p.keys.length : Int) == 0) = false := by have := H.ne hl; simp; exact List.ne_nil_of_length_pos (by omega)
    have f8 : ((p.kids.length : Int) != (p.keys.length : Int) + 1) = false := by rw [f6]; simp
    (repeat' (first | refine awp_seq ?_ | refine awp_block ?_ | refine awp_skip ?_ | refine awp_exit ?_ | ((first | refine rR (fun K kp hK hkp => ?_) | refine rD (id := 11) mixed 43 [0,1,2,3,4,5,6,7,8,9,10,11,12,13,14,15,16,17,18,19,20,21,22,23,24,25,26,27,28,29,30,31,32,33,34,35,36,37,38,39,40,41,42] (fun K kp hK hkp => ?_) | refine cR ic ?_ | refine cD ic ?_ | refine iG ?_ | refine iD ?_); simp (implicitDefEqProofs := false) (maxSteps := 2000000) (disch := omega) only [go_sem, eP, hl, f1, f2, f5, f7, f8]; (repeat' (first | (refine hK _ ?_; clear hK hkp kp K) | (with_reducible refine And.intro ?_ ?_) | omega))) | ((first | refine aG (fun h => ?_) (fun h => ?_) | refine aD (fun h => ?_) (fun h => ?_) | refine aX (fun h => ?_) (fun h => ?_)) <;> simp only [h]) | refine awp_cond_t rfl ?_ | refine awp_cond_f rfl ?_ | ((refine awp_cond rfl (fun h => ?_) (fun h => ?_) <;> try simp only [ifs] at h) <;> (try (exfalso; omega))) | refine awp_ret ?_))
  case' true =>
    have f6 := H.kl hl
    have f8 : ((p.kids.length : Int) != (p.keys.length : Int)) = false := by rw [f6]; simp
    (repeat' (first | refine awp_seq ?_ | refine awp_block ?_ | refine awp_skip ?_ | refine awp_exit ?_ | ((first | refine rR (fun K kp hK hkp => ?_) | refine rD (id := 11) mixed 43 [0,1,2,3,4,5,6,7,8,9,10,11,12,13,14,15,16,17,18,19,20,21,22,23,24,25,26,27,28,29,30,31,32,33,34,35,36,37,38,39,40,41,42] (fun K kp hK hkp => ?_) | refine cR ic ?_ | refine cD ic ?_ | refine iG ?_ | refine iD ?_); simp (implicitDefEqProofs := false) (maxSteps := 2000000) (disch := omega) only [go_sem, eP, hl, f1, f2, f5, f8]; (repeat' (first | (refine hK _ ?_; clear hK hkp kp K) | (with_reducible refine And.intro ?_ ?_) | omega))) | ((first | refine aG (fun h => ?_) (fun h => ?_) | refine aD (fun h => ?_) (fun h => ?_) | refine aX (fun h => ?_) (fun h => ?_)) <;> simp only [h]) | refine awp_cond_t rfl ?_ | refine awp_cond_f rfl ?_ | ((refine awp_cond rfl (fun h => ?_) (fun h => ?_) <;> try simp only [ifs] at h) <;> (try (exfalso; omega))) | refine awp_ret ?_))
  all_goals
    refine awp_loop (fun i : Nat => ⟨[(6, .r (.int .i64 i)), (2, .p 0 0 0), (1, .r (.int .i64 many))], [(0, .box 52 [.r (.bool p.leaf), .ro true 1 (p.keys.map eKy), .ro true 1 (p.kids.map eI), .ro true 1 (p.high.map eByte), .r (.int .i64 p.next)])], 1⟩) (fun i => i ≤ p.keys.length ∧ ∀ j, j < i → okKey p j) (fun i => p.keys.length - i) 0 ?_ ?_ ?_
    · exact ⟨Nat.zero_le _, fun j hj => by omega⟩
    · (refine emb [0] ?_ ?_ rfl ?_ ?_ ?_ ?_ <;> simp [okM, okO, lk, ren, renL, renNd, by_, hE, hl] <;> (try omega) <;> (try (intro i hi; first | (rcases i with _ | _ | i; rfl; rfl; (exfalso; omega)) | (rcases i with _ | _ | _ | i; rfl; rfl; rfl; (exfalso; omega)) | (rcases i with _ | _ | _ | _ | i; rfl; rfl; rfl; rfl; (exfalso; omega)) | (rcases i with _ | _ | _ | _ | _ | i; rfl; rfl; rfl; rfl; rfl; (exfalso; omega)) | (rcases i with _ | _ | _ | _ | _ | _ | i; rfl; rfl; rfl; rfl; rfl; rfl; (exfalso; omega)))))
    intro i hi
    obtain ⟨hi, hdone⟩ := hi
    by_cases hlt : i < p.keys.length
    · have zi : ((i : Int) < (p.keys.length : Int)) = True := eq_true (by omega)
      obtain ⟨x, hx⟩ : ∃ x, p.keys[i]? = some x := ⟨p.keys[i], by simp [hlt]⟩
      have hxD : p.keys.getD i [] = x := by rw [List.getD_eq_getElem?_getD, hx]; rfl
      cases i with
      | zero =>
        have hok : okKey p 0 ↔ keyB x = true ∧ (0 < p.high.length → Op.bytesLess x p.high = true) := by unfold okKey ltK; rw [hxD]; simp
        (repeat' (first | refine awp_seq ?_ | refine awp_block ?_ | refine awp_skip ?_ | refine awp_exit ?_ | ((first | refine rR (fun K kp hK hkp => ?_) | refine rD (id := 11) mixed 43 [0,1,2,3,4,5,6,7,8,9,10,11,12,13,14,15,16,17,18,19,20,21,22,23,24,25,26,27,28,29,30,31,32,33,34,35,36,37,38,39,40,41,42] (fun K kp hK hkp => ?_) | refine cR (keyMay_con _ _ _) ?_ | refine cD (keyMay_con _ _ _) ?_ | refine cR (keyBefore_con _ _ _ _ _) ?_ | refine cD (keyBefore_con _ _ _ _ _) ?_ | refine iG ?_ | refine iD ?_); simp (implicitDefEqProofs := false) (maxSteps := 2000000) (disch := omega) only [go_sem, zi, hx, eKy]; (repeat' (first | (refine hK _ ?_; clear hK hkp kp K) | (with_reducible refine And.intro ?_ ?_) | omega))) | ((first | refine aG (fun h => ?_) (fun h => ?_) | refine aD (fun h => ?_) (fun h => ?_) | refine aX (fun h => ?_) (fun h => ?_)) <;> simp only [h]) | refine awp_cond_t rfl ?_ | refine awp_cond_f rfl ?_ | ((refine awp_cond rfl (fun h => ?_) (fun h => ?_) <;> try simp only [ifs] at h) <;> (try (exfalso; omega))) | refine awp_ret ?_))
        all_goals first
          | (rw [pgB_f (fun X => absurd (hok.1 (X.ks _ hlt)) (by clear hE hdone; simp_all))]; (refine retA_is (by (simp (implicitDefEqProofs := false) (maxSteps := 2000000) (disch := omega) only [go_sem, Go.Proofs.Try.results30]); rfl) ?_; refine eN hE ?_; simp [oneA, ren, renL]))
          | (have hok' := hok.2 (by clear hE hdone; simp_all); ((first | (refine nextB (0 + 1) ?_ ?_ ?_) | (refine nextA (0 + 1) ?_ ?_ ?_) | (refine nextE (0 + 1) ?_ ?_ ?_)); rotate_left; (· (try dsimp only); (first | omega | (simp only [List.length_drop, List.length_cons, List.length_append]; omega) | (simp; done) | (simp; omega))); (· (refine emb [0] ?_ ?_ rfl ?_ ?_ ?_ ?_ <;> simp [okM, okO, lk, ren, renL, renNd, by_, hE] <;> (try omega) <;> (try (intro i hi; first | (rcases i with _ | _ | i; rfl; rfl; (exfalso; omega)) | (rcases i with _ | _ | _ | i; rfl; rfl; rfl; (exfalso; omega)) | (rcases i with _ | _ | _ | _ | i; rfl; rfl; rfl; rfl; (exfalso; omega)) | (rcases i with _ | _ | _ | _ | _ | i; rfl; rfl; rfl; rfl; rfl; (exfalso; omega)) | (rcases i with _ | _ | _ | _ | _ | _ | i; rfl; rfl; rfl; rfl; rfl; rfl; (exfalso; omega))))))); exact ⟨by omega, fun j' hj' => (by by_cases he : j' = 0; (· rw [he]; exact hok'); (· exact hdone j' (by omega)))⟩)
      | succ j =>
        obtain ⟨y, hy⟩ : ∃ y, p.keys[j]? = some y := ⟨p.keys[j], by simp [show j < p.keys.length by omega]⟩
        have hyD : p.keys.getD j [] = y := by rw [List.getD_eq_getElem?_getD, hy]; rfl
        have hj1 : ((j + 1 : Nat) : Int) - 1 = (j : Int) := by omega
        have hok : okKey p (j + 1) ↔ keyB x = true ∧ Op.bytesLess y x = true ∧ (0 < p.high.length → Op.bytesLess x p.high = true) := by unfold okKey ltK; rw [hxD, Nat.add_sub_cancel, hyD]; simp
        (repeat' (first | refine awp_seq ?_ | refine awp_block ?_ | refine awp_skip ?_ | refine awp_exit ?_ | ((first | refine rR (fun K kp hK hkp => ?_) | refine rD (id := 11) mixed 43 [0,1,2,3,4,5,6,7,8,9,10,11,12,13,14,15,16,17,18,19,20,21,22,23,24,25,26,27,28,29,30,31,32,33,34,35,36,37,38,39,40,41,42] (fun K kp hK hkp => ?_) | refine cR (keyMay_con _ _ _) ?_ | refine cD (keyMay_con _ _ _) ?_ | refine cR (keyBefore_con _ _ _ _ _) ?_ | refine cD (keyBefore_con _ _ _ _ _) ?_ | refine iG ?_ | refine iD ?_); simp (implicitDefEqProofs := false) (maxSteps := 2000000) (disch := omega) only [go_sem, zi, hx, hy, hj1, eKy]; (repeat' (first | (refine hK _ ?_; clear hK hkp kp K) | (with_reducible refine And.intro ?_ ?_) | omega))) | ((first | refine aG (fun h => ?_) (fun h => ?_) | refine aD (fun h => ?_) (fun h => ?_) | refine aX (fun h => ?_) (fun h => ?_)) <;> simp only [h]) | refine awp_cond_t rfl ?_ | refine awp_cond_f rfl ?_ | ((refine awp_cond rfl (fun h => ?_) (fun h => ?_) <;> try simp only [ifs] at h) <;> (try (exfalso; omega))) | refine awp_ret ?_))
        all_goals first
          | (rw [pgB_f (fun X => absurd (hok.1 (X.ks _ hlt)) (by clear hE hdone; simp_all))]; (refine retA_is (by (simp (implicitDefEqProofs := false) (maxSteps := 2000000) (disch := omega) only [go_sem, Go.Proofs.Try.results30]); rfl) ?_; refine eN hE ?_; simp [oneA, ren, renL]))
          | (have hok' := hok.2 (by clear hE hdone; simp_all); ((first | (refine nextB (j + 1 + 1) ?_ ?_ ?_) | (refine nextA (j + 1 + 1) ?_ ?_ ?_) | (refine nextE (j + 1 + 1) ?_ ?_ ?_)); rotate_left; (· (try dsimp only); (first | omega | (simp only [List.length_drop, List.length_cons, List.length_append]; omega) | (simp; done) | (simp; omega))); (· (refine emb [0] ?_ ?_ rfl ?_ ?_ ?_ ?_ <;> simp [okM, okO, lk, ren, renL, renNd, by_, hE] <;> (try omega) <;> (try (intro i hi; first | (rcases i with _ | _ | i; rfl; rfl; (exfalso; omega)) | (rcases i with _ | _ | _ | i; rfl; rfl; rfl; (exfalso; omega)) | (rcases i with _ | _ | _ | _ | i; rfl; rfl; rfl; rfl; (exfalso; omega)) | (rcases i with _ | _ | _ | _ | _ | i; rfl; rfl; rfl; rfl; rfl; (exfalso; omega)) | (rcases i with _ | _ | _ | _ | _ | _ | i; rfl; rfl; rfl; rfl; rfl; rfl; (exfalso; omega))))))); exact ⟨by omega, fun j' hj' => (by by_cases he : j' = j + 1; (· rw [he]; exact hok'); (· exact hdone j' (by omega)))⟩)
    · obtain rfl : i = p.keys.length := by omega
      (repeat' (first | refine awp_seq ?_ | refine awp_block ?_ | refine awp_skip ?_ | refine awp_exit ?_ | ((first | refine rR (fun K kp hK hkp => ?_) | refine rD (id := 11) mixed 43 [0,1,2,3,4,5,6,7,8,9,10,11,12,13,14,15,16,17,18,19,20,21,22,23,24,25,26,27,28,29,30,31,32,33,34,35,36,37,38,39,40,41,42] (fun K kp hK hkp => ?_) | refine iG ?_ | refine iD ?_); simp (implicitDefEqProofs := false) (maxSteps := 2000000) (disch := omega) only [go_sem]; (repeat' (first | (refine hK _ ?_; clear hK hkp kp K) | (with_reducible refine And.intro ?_ ?_) | omega))) | ((first | refine aG (fun h => ?_) (fun h => ?_) | refine aD (fun h => ?_) (fun h => ?_) | refine aX (fun h => ?_) (fun h => ?_)) <;> simp only [h]) | refine awp_cond_t rfl ?_ | refine awp_cond_f rfl ?_ | ((refine awp_cond rfl (fun h => ?_) (fun h => ?_) <;> try simp only [ifs] at h) <;> (try (exfalso; omega))) | refine awp_ret ?_))
      refine awp_loop (fun i : Nat => ⟨[(7, .r (.int .i64 i)), (2, .p 0 0 0), (1, .r (.int .i64 many))], [(0, .box 52 [.r (.bool p.leaf), .ro true 1 (p.keys.map eKy), .ro true 1 (p.kids.map eI), .ro true 1 (p.high.map eByte), .r (.int .i64 p.next)])], 1⟩) (fun i => i ≤ p.kids.length ∧ ∀ j, j < i → okKid p many (p.kids.getD j 0)) (fun i => p.kids.length - i) 0 ?_ ?_ ?_
      · exact ⟨Nat.zero_le _, fun j hj => by omega⟩
      · (refine emb [0] ?_ ?_ rfl ?_ ?_ ?_ ?_ <;> simp [okM, okO, lk, ren, renL, renNd, by_, hE, hl] <;> (try omega) <;> (try (intro i hi; first | (rcases i with _ | _ | i; rfl; rfl; (exfalso; omega)) | (rcases i with _ | _ | _ | i; rfl; rfl; rfl; (exfalso; omega)) | (rcases i with _ | _ | _ | _ | i; rfl; rfl; rfl; rfl; (exfalso; omega)) | (rcases i with _ | _ | _ | _ | _ | i; rfl; rfl; rfl; rfl; rfl; (exfalso; omega)) | (rcases i with _ | _ | _ | _ | _ | _ | i; rfl; rfl; rfl; rfl; rfl; rfl; (exfalso; omega)))))
      intro i hi
      obtain ⟨hi, hd2⟩ := hi
      by_cases hlt : i < p.kids.length
      · have zi : ((i : Int) < (p.kids.length : Int)) = True := eq_true (by omega)
        obtain ⟨x, hx⟩ : ∃ x, p.kids[i]? = some x := ⟨p.kids[i], by simp [hlt]⟩
        have hok : okKid p many (p.kids.getD i 0) ↔ 0 ≤ x ∧ (p.leaf = false → x < many) := by rw [List.getD_eq_getElem?_getD, hx]; rfl
        rw [hl] at hok
        (repeat' (first | refine awp_seq ?_ | refine awp_block ?_ | refine awp_skip ?_ | refine awp_exit ?_ | ((first | refine rR (fun K kp hK hkp => ?_) | refine rD (id := 11) mixed 43 [0,1,2,3,4,5,6,7,8,9,10,11,12,13,14,15,16,17,18,19,20,21,22,23,24,25,26,27,28,29,30,31,32,33,34,35,36,37,38,39,40,41,42] (fun K kp hK hkp => ?_) | refine iG ?_ | refine iD ?_); simp (implicitDefEqProofs := false) (maxSteps := 2000000) (disch := omega) only [go_sem, zi, hx, eI, hl]; (repeat' (first | (refine hK _ ?_; clear hK hkp kp K) | (with_reducible refine And.intro ?_ ?_) | omega))) | ((first | refine aG (fun h => ?_) (fun h => ?_) | refine aD (fun h => ?_) (fun h => ?_) | refine aX (fun h => ?_) (fun h => ?_)) <;> simp only [h]) | refine awp_cond_t rfl ?_ | refine awp_cond_f rfl ?_ | ((refine awp_cond rfl (fun h => ?_) (fun h => ?_) <;> try simp only [ifs] at h) <;> (try (exfalso; omega))) | refine awp_ret ?_))
        all_goals first
          | (rw [pgB_f (fun X => by have Y := hok.1 (X.kd _ hlt); clear hE hdone hd2; simp_all; try omega)]; (refine retA_is (by (simp (implicitDefEqProofs := false) (maxSteps := 2000000) (disch := omega) only [go_sem, Go.Proofs.Try.results30]); rfl) ?_; refine eN hE ?_; simp [oneA, ren, renL]))
          | (have hok' := hok.2 (by clear hE hdone hd2; constructor <;> simp_all <;> omega); ((first | (refine nextB (i + 1) ?_ ?_ ?_) | (refine nextA (i + 1) ?_ ?_ ?_) | (refine nextE (i + 1) ?_ ?_ ?_)); rotate_left; (· (try dsimp only); (first | omega | (simp only [List.length_drop, List.length_cons, List.length_append]; omega) | (simp; done) | (simp; omega))); (· (refine emb [0] ?_ ?_ rfl ?_ ?_ ?_ ?_ <;> simp [okM, okO, lk, ren, renL, renNd, by_, hE] <;> (try omega) <;> (try (intro i hi; first | (rcases i with _ | _ | i; rfl; rfl; (exfalso; omega)) | (rcases i with _ | _ | _ | i; rfl; rfl; rfl; (exfalso; omega)) | (rcases i with _ | _ | _ | _ | i; rfl; rfl; rfl; rfl; (exfalso; omega)) | (rcases i with _ | _ | _ | _ | _ | i; rfl; rfl; rfl; rfl; rfl; (exfalso; omega)) | (rcases i with _ | _ | _ | _ | _ | _ | i; rfl; rfl; rfl; rfl; rfl; rfl; (exfalso; omega))))))); exact ⟨by omega, fun j' hj' => (by by_cases he : j' = i; (· rw [he]; exact hok'); (· exact hd2 j' (by omega)))⟩)
      · obtain rfl : i = p.kids.length := by omega
        rw [pgB_t ⟨H, hdone, hd2⟩]
        (repeat' (first | refine awp_seq ?_ | refine awp_block ?_ | refine awp_skip ?_ | refine awp_exit ?_ | ((first | refine rR (fun K kp hK hkp => ?_) | refine rD (id := 11) mixed 43 [0,1,2,3,4,5,6,7,8,9,10,11,12,13,14,15,16,17,18,19,20,21,22,23,24,25,26,27,28,29,30,31,32,33,34,35,36,37,38,39,40,41,42] (fun K kp hK hkp => ?_) | refine iG ?_ | refine iD ?_); simp (implicitDefEqProofs := false) (maxSteps := 2000000) (disch := omega) only [go_sem]; (repeat' (first | (refine hK _ ?_; clear hK hkp kp K) | (with_reducible refine And.intro ?_ ?_) | omega))) | ((first | refine aG (fun h => ?_) (fun h => ?_) | refine aD (fun h => ?_) (fun h => ?_) | refine aX (fun h => ?_) (fun h => ?_)) <;> simp only [h]) | refine awp_cond_t rfl ?_ | refine awp_cond_f rfl ?_ | ((refine awp_cond rfl (fun h => ?_) (fun h => ?_) <;> try simp only [ifs] at h) <;> (try (exfalso; omega))) | refine awp_ret ?_))
        (refine retA_is (by (simp (implicitDefEqProofs := false) (maxSteps := 2000000) (disch := omega) only [go_sem, Go.Proofs.Try.results30]); rfl) ?_; refine eN hE ?_; simp [oneA, ren, renL])
end Go.AM
/- TreeFault: the reference's side. -/
namespace Go.AM
open Go Go.RowKit
attribute [local irreducible] AWP retA
/-- What TreeFault asks. -/
structure FltOK (ps : List PG) (root : Int) : Prop where
  n1 : 1 ≤ ps.length
  n2 : ps.length ≤ 4000
  r0 : 0 ≤ root
  r1 : root < ps.length
  pg : ∀ (i : Nat) (p : PG), ps[i]? = some p → PageOK p ps.length
  bf : bfsF ps ps.length (ps.length + 2) [(root.toNat, [], [])] 0 = true
  on : (root.toNat :: refs ps ps.length).Nodup
noncomputable def fltR (ps : List PG) (root : Int) : Int := @ite Int (FltOK ps root) (Classical.propDecidable _) 0 11
theorem fltR_t {ps : List PG} {root : Int} (h : FltOK ps root) : fltR ps root = 0 := if_pos h
theorem fltR_f {ps : List PG} {root : Int} (h : ¬ FltOK ps root) : fltR ps root = 11 := if_neg h
theorem fault_con (G : List (Nat × List Value)) (p : PG) (many : Nat) (hb : p.keys.length ≤ 1048576) (hb2 : p.kids.length ≤ 1048576) (hm : many ≤ 1048576) : Con Go.Proofs.Try.prog G 30 [.agg (eP p), .r (.int .i64 many)] [] 0 (Is (.r (.bool (!pgB p many))) [] 0) No := by
  by_cases H : HeadOK p many
  · exact fault_good G p many H hb2 hm
  · exact fault_head G p many H hb hm
def lowE (x : Tri) : List AV := eKy x.2.1
def highE (x : Tri) : List AV := eKy x.2.2
theorem awp_cut3 {P : Program} {E : Env} {N : Nat} {st : AS} {AQ : AExit → AS → Prop} {x y z v : Code} (fx : AS) (h : AWP P E N v fx AQ) (h2 : ∀ K : AS → Prop, (∀ st', Emb E N st' fx → K st') → AWP P E N x st (thenA (fun s => AWP P E N y s (thenA (fun s => AWP P E N z s (thenA K AQ)) AQ)) AQ)) :
    AWP P E N (.seq x (.seq y (.seq z v))) st AQ :=
  awp_seq ((h2 _ fun st' he => AWP.emb he h).mono (thenA_mono fun _ hh => awp_seq (hh.mono (thenA_mono fun _ hh => awp_seq hh))))
theorem kidsOf_len {ps : List PG} (h : ∀ (i : Nat) (p : PG), ps[i]? = some p → PageOK p ps.length) (i : Nat) : (kidsOf ps i).length ≤ 5 := by
  cases hp : ps[i]? with
  | none =>
    have : pg ps i = default := by rw [pg, List.getD_eq_getElem?_getD, hp]; rfl
    rw [kidsOf, this]; exact Nat.zero_le _
  | some p =>
    have hpg : pg ps i = p := by rw [pg, List.getD_eq_getElem?_getD, hp]; rfl
    rw [kidsOf, hpg]
    split
    · exact Nat.zero_le _
    · rename_i hl
      have h1 := (h i p hp).ki (by simpa using hl)
      have h2 := (h i p hp).nk
      rw [List.length_map]; omega
theorem flat_len {ps : List PG} (h : ∀ i, (kidsOf ps i).length ≤ 5) : ∀ (L : List Tri), (L.flatMap (kidsT ps)).length ≤ 5 * L.length
  | [] => by simp
  | x :: r => by
    have h1 := flat_len h r
    have h2 := h x.1
    rw [List.flatMap_cons, List.length_append, List.length_cons, kidsT, List.length_mapIdx]; omega
/-- What has been seen. -/
def sB (n : Nat) (D : List Nat) : List (List AV) := (List.range n).map fun c => [.r (.bool (decide (c ∈ D)))]
theorem sB_len (n : Nat) (D : List Nat) : (sB n D).length = n := by simp [sB]
theorem sB_get {n c : Nat} (D : List Nat) (h : c < n) : (sB n D)[c]? = some [.r (.bool (decide (c ∈ D)))] := by simp [sB, h]
theorem sB_set {n x : Nat} (D : List Nat) : (sB n D).set x [.r (.bool true)] = sB n (D ++ [x]) := by
  apply List.ext_getElem?
  intro i
  rw [List.getElem?_set]
  by_cases h : i < n
  · rw [sB_get _ h]
    by_cases hb : x = i
    · subst hb; rw [if_pos rfl, sB_len, if_pos h, sB_get _ h]; simp
    · rw [if_neg hb, sB_get _ h]; simp [Ne.symm hb]
  · rw [List.getElem?_eq_none (by rw [sB_len]; omega : (sB n (D ++ [x])).length ≤ i)]
    split
    · rw [sB_len, if_neg (by omega)]
    · exact List.getElem?_eq_none (by rw [sB_len]; omega)
theorem sB_nil (n : Nat) : sB n [] = List.replicate n [AV.r (.bool false)] := by
  apply List.ext_getElem?
  intro c
  by_cases hc : c < n
  · rw [sB_get _ hc]; simp [hc]
  · rw [List.getElem?_eq_none (by rw [sB_len]; omega), List.getElem?_eq_none (by simp; omega)]
def dnL (ps : List PG) (rt i k : Nat) : List Nat := rt :: ((List.range i).flatMap (kidsOf ps) ++ (kidsOf ps i).take k)
theorem dnL_next (ps : List PG) (rt i : Nat) {k : Nat} (hk : (kidsOf ps i).length ≤ k) : dnL ps rt i k = dnL ps rt (i + 1) 0 := by
  simp [dnL, List.range_succ, List.flatMap_append, List.take_of_length_le hk]
theorem dnL_step {ps : List PG} {rt i k x : Nat} (hx : (kidsOf ps i)[k]? = some x) : dnL ps rt i (k + 1) = dnL ps rt i k ++ [x] := by
  rw [dnL, dnL, List.take_add_one, hx]; simp
theorem dnL_pre {ps : List PG} {rt i k x n : Nat} (hi : i < n) (hx : (kidsOf ps i)[k]? = some x) : ∃ r, rt :: refs ps n = dnL ps rt i k ++ x :: r := by
  obtain ⟨m, hm⟩ : ∃ m, n = i + (1 + m) := ⟨n - i - 1, by omega⟩
  obtain ⟨h1, h2⟩ := List.getElem?_eq_some_iff.1 hx
  have hd : kidsOf ps i = (kidsOf ps i).take k ++ x :: (kidsOf ps i).drop (k + 1) := by
    rw [← h2, ← List.drop_eq_getElem_cons h1, List.take_append_drop]
  refine ⟨(kidsOf ps i).drop (k + 1) ++ ((List.range m).map (i + 1 + ·)).flatMap (kidsOf ps), ?_⟩
  have hr : List.range n = List.range i ++ i :: (List.range m).map (i + 1 + ·) := by
    rw [hm, List.range_add, Nat.add_comm 1 m, List.range_succ_eq_map, List.map_cons, List.map_map]
    simp [Function.comp_def, Nat.add_assoc, Nat.add_comm 1]
  rw [refs, hr, List.flatMap_append, List.flatMap_cons, dnL]
  conv => lhs; rw [hd]
  simp
theorem dnL_dup {ps : List PG} {rt i k x n : Nat} (hi : i < n) (hx : (kidsOf ps i)[k]? = some x) (hm : x ∈ dnL ps rt i k) : ¬ (rt :: refs ps n).Nodup := by
  obtain ⟨r, hr⟩ := dnL_pre (rt := rt) hi hx
  rw [hr]
  intro h
  exact (List.nodup_append.1 h).2.2 x hm x (by simp) rfl
theorem dnL_end (ps : List PG) (rt n : Nat) : dnL ps rt n 0 = rt :: refs ps n := by simp [dnL, refs]
set_option maxRecDepth 100000 in
set_option maxHeartbeats 8000000 in
theorem treeFault_con (G : List (Nat × List Value)) (t : Bool) (ps : List PG) (root : Int) (ho : okPs ps) (hn0 : ps.length ≤ 1048576) : Con Go.Proofs.Try.prog G 11 [.agg [.ro t 5 (ps.map eP), .r (.int .i64 root)]] [] 0 (Is (.r (.int .i64 (fltR ps root))) [] 0) No := by
  obtain ⟨R, hR⟩ : ∃ R, fltR ps root = R := ⟨_, rfl⟩
  have hbad : ¬ FltOK ps root → R = 11 := fun h => by rw [← hR]; exact fltR_f h
  have hgood : FltOK ps root → R = 0 := fun h => by rw [← hR]; exact fltR_t h
  rw [hR]
  have ic1 := inT_con G ps.length 1 4000
  have ic2 := inT_con G root 0 ((ps.length : Int) - 1)
  refine con_of_awp Go.Proofs.Try.func11 rfl (by kernel_rfl) (of_decide_eq_true (by kernel_rfl)) ?_; intro E hG hE; subst hG; simp only [ent]
  by_cases hb0 : 1 ≤ ps.length ∧ ps.length ≤ 4000 ∧ 0 ≤ root ∧ root < ps.length
  rotate_left
  · obtain rfl := hbad fun X => hb0 ⟨X.n1, X.n2, X.r0, X.r1⟩
    clear hbad hgood hR
    (repeat' (first | refine awp_seq ?_ | refine awp_block ?_ | refine awp_skip ?_ | refine awp_exit ?_ | ((first | refine rR (fun K kp hK hkp => ?_) | refine rD (id := 6) mixed 9 [0,1,2,3,4,5,6,7,8] (fun K kp hK hkp => ?_) | refine rD (id := 22) mixed 9 [0,1,2,3,4,5,6,7,8] (fun K kp hK hkp => ?_) | refine rD (id := 26) mixed 27 [0,1,2,3,4,5,6,7,8,9,10,11,12,13,14,15,16,17,18,19,20,21,22,23,24,25,26] (fun K kp hK hkp => ?_) | refine rD (id := 28) mixed 15 [0,1,2,3,4,5,6,7,8,9,10,11,12,13,14] (fun K kp hK hkp => ?_) | refine cR ic1 ?_ | refine cD ic1 ?_ | refine cR ic2 ?_ | refine cD ic2 ?_ | refine iG ?_ | refine iD ?_); simp (implicitDefEqProofs := false) (maxSteps := 2000000) (disch := omega) only [go_sem, eP]; (repeat' (first | (refine hK _ ?_; clear hK hkp kp K) | (with_reducible refine And.intro ?_ ?_) | omega))) | ((first | refine aG (fun h => ?_) (fun h => ?_) | refine aD (fun h => ?_) (fun h => ?_) | refine aX (fun h => ?_) (fun h => ?_)) <;> simp only [h]) | refine awp_cond_t rfl ?_ | refine awp_cond_f rfl ?_ | ((refine awp_cond rfl (fun h => ?_) (fun h => ?_) <;> try simp only [ifs] at h) <;> (try (exfalso; omega))) | refine awp_ret ?_))
    all_goals first
      | (refine retA_is (by (simp (implicitDefEqProofs := false) (maxSteps := 2000000) (disch := omega) only [go_sem, Go.Proofs.Try.results11]); rfl) ?_; refine eN hE ?_; simp [oneA, ren, renL])
      | (exfalso; simp only [Bool.not_eq_false', Bool.and_eq_true, decide_eq_true_eq] at *; omega)
  obtain ⟨b1, b2, b3, b4⟩ := hb0
  obtain ⟨rt, hrt⟩ : ∃ rt : Nat, root = rt := ⟨root.toNat, by omega⟩
  subst hrt
  have g1 : (1 ≤ (ps.length : Int)) = True := eq_true (by omega)
  have g2 : ((ps.length : Int) ≤ 4000) = True := eq_true (by omega)
  have g3 : (0 ≤ (rt : Int)) = True := eq_true (by omega)
  have g4 : ((rt : Int) ≤ (ps.length : Int) - 1) = True := eq_true (by omega)
  simp only [g1, g2, decide_true, Bool.and_self] at ic1
  simp only [g3, g4, decide_true, Bool.and_self] at ic2
  refine awp_seq ?_
  (refine rR (fun K kp hK hkp => ?_); simp (implicitDefEqProofs := false) (maxSteps := 2000000) (disch := omega) only [go_sem]; (repeat' (first | (refine hK _ ?_; clear hK hkp kp K) | (with_reducible refine And.intro ?_ ?_) | omega)))
  by_cases hall : ∀ (i : Nat) (p : PG), ps[i]? = some p → PageOK p ps.length
  rotate_left
  · obtain rfl := hbad fun X => hall X.pg
    clear hbad hgood hR
    (repeat' (first | refine awp_seq ?_ | refine awp_block ?_ | refine awp_skip ?_ | refine awp_exit ?_ | ((first | refine rR (fun K kp hK hkp => ?_) | refine rD (id := 6) mixed 9 [0,1,2,3,4,5,6,7,8] (fun K kp hK hkp => ?_) | refine rD (id := 22) mixed 9 [0,1,2,3,4,5,6,7,8] (fun K kp hK hkp => ?_) | refine rD (id := 26) mixed 27 [0,1,2,3,4,5,6,7,8,9,10,11,12,13,14,15,16,17,18,19,20,21,22,23,24,25,26] (fun K kp hK hkp => ?_) | refine rD (id := 28) mixed 15 [0,1,2,3,4,5,6,7,8,9,10,11,12,13,14] (fun K kp hK hkp => ?_) | refine cR ic1 ?_ | refine cD ic1 ?_ | refine cR ic2 ?_ | refine cD ic2 ?_ | refine iG ?_ | refine iD ?_); simp (implicitDefEqProofs := false) (maxSteps := 2000000) (disch := omega) only [go_sem, eP]; (repeat' (first | (refine hK _ ?_; clear hK hkp kp K) | (with_reducible refine And.intro ?_ ?_) | omega))) | ((first | refine aG (fun h => ?_) (fun h => ?_) | refine aD (fun h => ?_) (fun h => ?_) | refine aX (fun h => ?_) (fun h => ?_)) <;> simp only [h]) | refine awp_cond_t rfl ?_ | refine awp_cond_f rfl ?_ | ((refine awp_cond rfl (fun h => ?_) (fun h => ?_) <;> try simp only [ifs] at h) <;> (try (exfalso; omega))) | refine awp_ret ?_))
    refine awp_loop (fun i : Nat => ⟨[(3, .r (.int .i64 i)), (1, .p 0 0 0)], [(0, .box 24 [.ro t 5 (ps.map eP), .r (.int .i64 rt)])], 1⟩) (fun i => i ≤ ps.length ∧ ∀ (j : Nat) (p : PG), j < i → ps[j]? = some p → PageOK p ps.length) (fun i => ps.length - i) 0 ?_ ?_ ?_
    · exact ⟨Nat.zero_le _, fun j p hj => by omega⟩
    · (refine emb [0] ?_ ?_ rfl ?_ ?_ ?_ ?_ <;> simp [okM, okO, lk, ren, renL, renNd, by_, hE] <;> (try omega) <;> (try (intro i hi; first | (rcases i with _ | _ | i; rfl; rfl; (exfalso; omega)) | (rcases i with _ | _ | _ | i; rfl; rfl; rfl; (exfalso; omega)) | (rcases i with _ | _ | _ | _ | i; rfl; rfl; rfl; rfl; (exfalso; omega)) | (rcases i with _ | _ | _ | _ | _ | i; rfl; rfl; rfl; rfl; rfl; (exfalso; omega)) | (rcases i with _ | _ | _ | _ | _ | _ | i; rfl; rfl; rfl; rfl; rfl; rfl; (exfalso; omega)))))
    intro i hi
    obtain ⟨hi, hdone⟩ := hi
    by_cases hlt : i < ps.length
    · have zi : ((i : Int) < (ps.length : Int)) = True := eq_true (by omega)
      obtain ⟨p, hp⟩ : ∃ p, ps[i]? = some p := ⟨ps[i], by simp [hlt]⟩
      have pc := fault_con E.G p ps.length (ho p (List.mem_of_getElem? hp)).1 (ho p (List.mem_of_getElem? hp)).2 hn0
      by_cases hpo : PageOK p ps.length
      · rw [pgB_t hpo] at pc
        (repeat' (first | refine awp_seq ?_ | refine awp_block ?_ | refine awp_skip ?_ | refine awp_exit ?_ | ((first | refine rR (fun K kp hK hkp => ?_) | refine rD (id := 6) mixed 9 [0,1,2,3,4,5,6,7,8] (fun K kp hK hkp => ?_) | refine rD (id := 22) mixed 9 [0,1,2,3,4,5,6,7,8] (fun K kp hK hkp => ?_) | refine rD (id := 26) mixed 27 [0,1,2,3,4,5,6,7,8,9,10,11,12,13,14,15,16,17,18,19,20,21,22,23,24,25,26] (fun K kp hK hkp => ?_) | refine rD (id := 28) mixed 15 [0,1,2,3,4,5,6,7,8,9,10,11,12,13,14] (fun K kp hK hkp => ?_) | refine cR pc ?_ | refine cD pc ?_ | refine iG ?_ | refine iD ?_); simp (implicitDefEqProofs := false) (maxSteps := 2000000) (disch := omega) only [go_sem, zi, hp, eP]; (repeat' (first | (refine hK _ ?_; clear hK hkp kp K) | (with_reducible refine And.intro ?_ ?_) | omega))) | ((first | refine aG (fun h => ?_) (fun h => ?_) | refine aD (fun h => ?_) (fun h => ?_) | refine aX (fun h => ?_) (fun h => ?_)) <;> simp only [h]) | refine awp_cond_t rfl ?_ | refine awp_cond_f rfl ?_ | ((refine awp_cond rfl (fun h => ?_) (fun h => ?_) <;> try simp only [ifs] at h) <;> (try (exfalso; omega))) | refine awp_ret ?_))
        ((first | (refine nextB (i + 1) ?_ ?_ ?_) | (refine nextA (i + 1) ?_ ?_ ?_) | (refine nextE (i + 1) ?_ ?_ ?_)); rotate_left; (· (try dsimp only); (first | omega | (simp only [List.length_drop, List.length_cons, List.length_append]; omega) | (simp; done) | (simp; omega))); (· (refine emb [0] ?_ ?_ rfl ?_ ?_ ?_ ?_ <;> simp [okM, okO, lk, ren, renL, renNd, by_, hE] <;> (try omega) <;> (try (intro i hi; first | (rcases i with _ | _ | i; rfl; rfl; (exfalso; omega)) | (rcases i with _ | _ | _ | i; rfl; rfl; rfl; (exfalso; omega)) | (rcases i with _ | _ | _ | _ | i; rfl; rfl; rfl; rfl; (exfalso; omega)) | (rcases i with _ | _ | _ | _ | _ | i; rfl; rfl; rfl; rfl; rfl; (exfalso; omega)) | (rcases i with _ | _ | _ | _ | _ | _ | i; rfl; rfl; rfl; rfl; rfl; rfl; (exfalso; omega)))))))
        refine ⟨by omega, fun j q hj hq => ?_⟩
        by_cases he : j = i
        · subst he; rw [hp] at hq; cases hq; exact hpo
        · exact hdone j q (by omega) hq
      · rw [pgB_f hpo] at pc
        (repeat' (first | refine awp_seq ?_ | refine awp_block ?_ | refine awp_skip ?_ | refine awp_exit ?_ | ((first | refine rR (fun K kp hK hkp => ?_) | refine rD (id := 6) mixed 9 [0,1,2,3,4,5,6,7,8] (fun K kp hK hkp => ?_) | refine rD (id := 22) mixed 9 [0,1,2,3,4,5,6,7,8] (fun K kp hK hkp => ?_) | refine rD (id := 26) mixed 27 [0,1,2,3,4,5,6,7,8,9,10,11,12,13,14,15,16,17,18,19,20,21,22,23,24,25,26] (fun K kp hK hkp => ?_) | refine rD (id := 28) mixed 15 [0,1,2,3,4,5,6,7,8,9,10,11,12,13,14] (fun K kp hK hkp => ?_) | refine cR pc ?_ | refine cD pc ?_ | refine iG ?_ | refine iD ?_); simp (implicitDefEqProofs := false) (maxSteps := 2000000) (disch := omega) only [go_sem, zi, hp, eP]; (repeat' (first | (refine hK _ ?_; clear hK hkp kp K) | (with_reducible refine And.intro ?_ ?_) | omega))) | ((first | refine aG (fun h => ?_) (fun h => ?_) | refine aD (fun h => ?_) (fun h => ?_) | refine aX (fun h => ?_) (fun h => ?_)) <;> simp only [h]) | refine awp_cond_t rfl ?_ | refine awp_cond_f rfl ?_ | ((refine awp_cond rfl (fun h => ?_) (fun h => ?_) <;> try simp only [ifs] at h) <;> (try (exfalso; omega))) | refine awp_ret ?_))
        (refine retA_is (by (simp (implicitDefEqProofs := false) (maxSteps := 2000000) (disch := omega) only [go_sem, Go.Proofs.Try.results11]); rfl) ?_; refine eN hE ?_; simp [oneA, ren, renL])
    · exfalso
      exact hall fun j p hp => hdone j p (by have := (List.getElem?_eq_some_iff.1 hp).1; omega) hp
  refine awp_cut2 (fx := ⟨[(1, .p 0 0 0)], [(0, .box 24 [.ro t 5 (ps.map eP), .r (.int .i64 rt)])], 1⟩) ?_ fun K hcut => ?_
  rotate_left
  · (repeat' (first | refine awp_seq ?_ | refine awp_block ?_ | refine awp_skip ?_ | refine awp_exit ?_ | ((first | refine rR (fun K kp hK hkp => ?_) | refine rD (id := 6) mixed 9 [0,1,2,3,4,5,6,7,8] (fun K kp hK hkp => ?_) | refine rD (id := 22) mixed 9 [0,1,2,3,4,5,6,7,8] (fun K kp hK hkp => ?_) | refine rD (id := 26) mixed 27 [0,1,2,3,4,5,6,7,8,9,10,11,12,13,14,15,16,17,18,19,20,21,22,23,24,25,26] (fun K kp hK hkp => ?_) | refine rD (id := 28) mixed 15 [0,1,2,3,4,5,6,7,8,9,10,11,12,13,14] (fun K kp hK hkp => ?_) | refine cR ic1 ?_ | refine cD ic1 ?_ | refine cR ic2 ?_ | refine cD ic2 ?_ | refine iG ?_ | refine iD ?_); simp (implicitDefEqProofs := false) (maxSteps := 2000000) (disch := omega) only [go_sem, eP]; (repeat' (first | (refine hK _ ?_; clear hK hkp kp K) | (with_reducible refine And.intro ?_ ?_) | omega))) | ((first | refine aG (fun h => ?_) (fun h => ?_) | refine aD (fun h => ?_) (fun h => ?_) | refine aX (fun h => ?_) (fun h => ?_)) <;> simp only [h]) | refine awp_cond_t rfl ?_ | refine awp_cond_f rfl ?_ | ((refine awp_cond rfl (fun h => ?_) (fun h => ?_) <;> try simp only [ifs] at h) <;> (try (exfalso; omega))) | refine awp_ret ?_))
    refine awp_loop (fun i : Nat => ⟨[(3, .r (.int .i64 i)), (1, .p 0 0 0)], [(0, .box 24 [.ro t 5 (ps.map eP), .r (.int .i64 rt)])], 1⟩) (fun i => i ≤ ps.length) (fun i => ps.length - i) 0 ?_ ?_ ?_
    · exact Nat.zero_le _
    · (refine emb [0] ?_ ?_ rfl ?_ ?_ ?_ ?_ <;> simp [okM, okO, lk, ren, renL, renNd, by_, hE] <;> (try omega) <;> (try (intro i hi; first | (rcases i with _ | _ | i; rfl; rfl; (exfalso; omega)) | (rcases i with _ | _ | _ | i; rfl; rfl; rfl; (exfalso; omega)) | (rcases i with _ | _ | _ | _ | i; rfl; rfl; rfl; rfl; (exfalso; omega)) | (rcases i with _ | _ | _ | _ | _ | i; rfl; rfl; rfl; rfl; rfl; (exfalso; omega)) | (rcases i with _ | _ | _ | _ | _ | _ | i; rfl; rfl; rfl; rfl; rfl; rfl; (exfalso; omega)))))
    intro i hi
    by_cases hlt : i < ps.length
    · have zi : ((i : Int) < (ps.length : Int)) = True := eq_true (by omega)
      obtain ⟨p, hp⟩ : ∃ p, ps[i]? = some p := ⟨ps[i], by simp [hlt]⟩
      have pc := fault_con E.G p ps.length (ho p (List.mem_of_getElem? hp)).1 (ho p (List.mem_of_getElem? hp)).2 hn0
      rw [pgB_t (hall i p hp)] at pc
      (repeat' (first | refine awp_seq ?_ | refine awp_block ?_ | refine awp_skip ?_ | refine awp_exit ?_ | ((first | refine rR (fun K kp hK hkp => ?_) | refine rD (id := 6) mixed 9 [0,1,2,3,4,5,6,7,8] (fun K kp hK hkp => ?_) | refine rD (id := 22) mixed 9 [0,1,2,3,4,5,6,7,8] (fun K kp hK hkp => ?_) | refine rD (id := 26) mixed 27 [0,1,2,3,4,5,6,7,8,9,10,11,12,13,14,15,16,17,18,19,20,21,22,23,24,25,26] (fun K kp hK hkp => ?_) | refine rD (id := 28) mixed 15 [0,1,2,3,4,5,6,7,8,9,10,11,12,13,14] (fun K kp hK hkp => ?_) | refine cR pc ?_ | refine cD pc ?_ | refine iG ?_ | refine iD ?_); simp (implicitDefEqProofs := false) (maxSteps := 2000000) (disch := omega) only [go_sem, zi, hp, eP]; (repeat' (first | (refine hK _ ?_; clear hK hkp kp K) | (with_reducible refine And.intro ?_ ?_) | omega))) | ((first | refine aG (fun h => ?_) (fun h => ?_) | refine aD (fun h => ?_) (fun h => ?_) | refine aX (fun h => ?_) (fun h => ?_)) <;> simp only [h]) | refine awp_cond_t rfl ?_ | refine awp_cond_f rfl ?_ | ((refine awp_cond rfl (fun h => ?_) (fun h => ?_) <;> try simp only [ifs] at h) <;> (try (exfalso; omega))) | refine awp_ret ?_))
      ((first | (refine nextB (i + 1) ?_ ?_ ?_) | (refine nextA (i + 1) ?_ ?_ ?_) | (refine nextE (i + 1) ?_ ?_ ?_)); rotate_left; (· (try dsimp only); (first | omega | (simp only [List.length_drop, List.length_cons, List.length_append]; omega) | (simp; done) | (simp; omega))); (· (refine emb [0] ?_ ?_ rfl ?_ ?_ ?_ ?_ <;> simp [okM, okO, lk, ren, renL, renNd, by_, hE] <;> (try omega) <;> (try (intro i hi; first | (rcases i with _ | _ | i; rfl; rfl; (exfalso; omega)) | (rcases i with _ | _ | _ | i; rfl; rfl; rfl; (exfalso; omega)) | (rcases i with _ | _ | _ | _ | i; rfl; rfl; rfl; rfl; (exfalso; omega)) | (rcases i with _ | _ | _ | _ | _ | i; rfl; rfl; rfl; rfl; rfl; (exfalso; omega)) | (rcases i with _ | _ | _ | _ | _ | _ | i; rfl; rfl; rfl; rfl; rfl; rfl; (exfalso; omega)))))))
      omega
    · obtain rfl : i = ps.length := by omega
      (repeat' (first | refine awp_seq ?_ | refine awp_block ?_ | refine awp_skip ?_ | refine awp_exit ?_ | ((first | refine rR (fun K kp hK hkp => ?_) | refine rD (id := 6) mixed 9 [0,1,2,3,4,5,6,7,8] (fun K kp hK hkp => ?_) | refine rD (id := 22) mixed 9 [0,1,2,3,4,5,6,7,8] (fun K kp hK hkp => ?_) | refine rD (id := 26) mixed 27 [0,1,2,3,4,5,6,7,8,9,10,11,12,13,14,15,16,17,18,19,20,21,22,23,24,25,26] (fun K kp hK hkp => ?_) | refine rD (id := 28) mixed 15 [0,1,2,3,4,5,6,7,8,9,10,11,12,13,14] (fun K kp hK hkp => ?_) | refine iG ?_ | refine iD ?_); simp (implicitDefEqProofs := false) (maxSteps := 2000000) (disch := omega) only [go_sem]; (repeat' (first | (refine hK _ ?_; clear hK hkp kp K) | (with_reducible refine And.intro ?_ ?_) | omega))) | ((first | refine aG (fun h => ?_) (fun h => ?_) | refine aD (fun h => ?_) (fun h => ?_) | refine aX (fun h => ?_) (fun h => ?_)) <;> simp only [h]) | refine awp_cond_t rfl ?_ | refine awp_cond_f rfl ?_ | ((refine awp_cond rfl (fun h => ?_) (fun h => ?_) <;> try simp only [ifs] at h) <;> (try (exfalso; omega))) | refine awp_ret ?_))
      refine hcut _ ?_
      (refine emb [0] ?_ ?_ rfl ?_ ?_ ?_ ?_ <;> simp [okM, okO, lk, ren, renL, renNd, by_, hE] <;> (try omega) <;> (try (intro i hi; first | (rcases i with _ | _ | i; rfl; rfl; (exfalso; omega)) | (rcases i with _ | _ | _ | i; rfl; rfl; rfl; (exfalso; omega)) | (rcases i with _ | _ | _ | _ | i; rfl; rfl; rfl; rfl; (exfalso; omega)) | (rcases i with _ | _ | _ | _ | _ | i; rfl; rfl; rfl; rfl; rfl; (exfalso; omega)) | (rcases i with _ | _ | _ | _ | _ | _ | i; rfl; rfl; rfl; rfl; rfl; rfl; (exfalso; omega)))))
  clear ic1 ic2
  obtain ⟨B, hB⟩ : ∃ B, bfsF ps ps.length (ps.length + 2) [(rt, [], [])] 0 = B := ⟨_, rfl⟩
  have hgood : B = true → (rt :: refs ps ps.length).Nodup → R = 0 := fun h1 h2 => hgood ⟨b1, b2, b3, b4, hall, by rw [Int.toNat_natCast, hB]; exact h1, by rw [Int.toNat_natCast]; exact h2⟩
  have hbad1 : B = false → R = 11 := fun h => hbad fun Y => by
    have := Y.bf
    rw [Int.toNat_natCast, hB, h] at this; cases this
  have hbad2 : ¬ (rt :: refs ps ps.length).Nodup → R = 11 := fun h => hbad fun Y => h (by have := Y.on; rwa [Int.toNat_natCast] at this)
  clear hbad
  have hin := kids_in hall
  refine awp_seq ?_
  (refine rR (fun K kp hK hkp => ?_); simp (implicitDefEqProofs := false) (maxSteps := 2000000) (disch := omega) only [go_sem, Value.oneCell']; (repeat' (first | (refine hK _ ?_; clear hK hkp kp K) | (with_reducible refine And.intro ?_ ?_) | omega)))
  refine awp_seq ?_
  (refine rR (fun K kp hK hkp => ?_); simp (implicitDefEqProofs := false) (maxSteps := 2000000) (disch := omega) only [go_sem, Value.oneCell']; (repeat' (first | (refine hK _ ?_; clear hK hkp kp K) | (with_reducible refine And.intro ?_ ?_) | omega)))
  refine awp_seq ?_
  (refine rR (fun K kp hK hkp => ?_); simp (implicitDefEqProofs := false) (maxSteps := 2000000) (disch := omega) only [go_sem, Value.oneCell']; (repeat' (first | (refine hK _ ?_; clear hK hkp kp K) | (with_reducible refine And.intro ?_ ?_) | omega)))
  refine awp_seq ?_
  (refine rR (fun K kp hK hkp => ?_); simp (implicitDefEqProofs := false) (maxSteps := 2000000) (disch := omega) only [go_sem]; (repeat' (first | (refine hK _ ?_; clear hK hkp kp K) | (with_reducible refine And.intro ?_ ?_) | omega)))
  refine AWP.emb (emb_nil1 (T := 30) 2 rfl) ?_
  refine AWP.emb (emb_nil1 (T := 30) 3 rfl) ?_
  simp only [setNd]
  refine awp_seq ?_
  refine awp_block ?_
  refine awp_loop (fun d : List Tri × Nat × Nat => ⟨[(7, .r (.int .i64 d.2.1)), (6, .s 3 0 d.1.length), (5, .s 2 0 d.1.length), (4, .s 1 0 d.1.length), (1, .p 0 0 0)], [(0, .box 24 [.ro t 5 (ps.map eP), .r (.int .i64 rt)]), (1, .lst 3 1 ((nums d.1).map eNt)), (2, .lst 30 1 (d.1.map lowE)), (3, .lst 30 1 (d.1.map highE))], 4⟩)
    (fun d => (∀ x ∈ d.1, x.1 < ps.length) ∧ d.2.1 ≤ ps.length ∧ d.1.length ≤ 20000 ∧ ps.length < d.2.1 + d.2.2 ∧ bfsF ps ps.length d.2.2 d.1 d.2.1 = B) (fun d => d.2.2) ([(rt, [], [])], 0, ps.length + 2) ?_ ?_ ?_
  · exact ⟨by simp; omega, by simp, by simp, by simp, hB⟩
  · (refine emb [0, 1, 2, 3] ?_ ?_ rfl ?_ ?_ ?_ ?_ <;> simp [okM, okO, lk, ren, renL, renNd, by_, hE, nums, eNt, lowE, highE, eKy] <;> (try omega) <;> (try (intro i hi; first | (rcases i with _ | _ | i; rfl; rfl; (exfalso; omega)) | (rcases i with _ | _ | _ | i; rfl; rfl; rfl; (exfalso; omega)) | (rcases i with _ | _ | _ | _ | i; rfl; rfl; rfl; rfl; (exfalso; omega)) | (rcases i with _ | _ | _ | _ | _ | i; rfl; rfl; rfl; rfl; rfl; (exfalso; omega)) | (rcases i with _ | _ | _ | _ | _ | _ | i; rfl; rfl; rfl; rfl; rfl; rfl; (exfalso; omega)))))
  rintro ⟨L, met, f⟩ ⟨hL, hmt, hLl, hf, hBf⟩
  dsimp only at hL hmt hLl hf hBf ⊢
  by_cases hL0 : L = []
  · subst hL0
    obtain ⟨f, rfl⟩ : ∃ g, f = g + 1 := ⟨f - 1, by omega⟩
    rw [bfsF, if_pos rfl] at hBf
    by_cases hmn : met = ps.length
    rotate_left
    · obtain rfl := hbad1 (by rw [← hBf]; exact decide_eq_false hmn)
      have q1 : ((met : Int) != (ps.length : Int)) = true := by simp; omega
      (repeat' (first | refine awp_seq ?_ | refine awp_block ?_ | refine awp_skip ?_ | refine awp_exit ?_ | ((first | refine rR (fun K kp hK hkp => ?_) | refine rD (id := 6) mixed 9 [0,1,2,3,4,5,6,7,8] (fun K kp hK hkp => ?_) | refine rD (id := 22) mixed 9 [0,1,2,3,4,5,6,7,8] (fun K kp hK hkp => ?_) | refine rD (id := 26) mixed 27 [0,1,2,3,4,5,6,7,8,9,10,11,12,13,14,15,16,17,18,19,20,21,22,23,24,25,26] (fun K kp hK hkp => ?_) | refine rD (id := 28) mixed 15 [0,1,2,3,4,5,6,7,8,9,10,11,12,13,14] (fun K kp hK hkp => ?_) | refine iG ?_ | refine iD ?_); simp (implicitDefEqProofs := false) (maxSteps := 2000000) (disch := omega) only [go_sem, q1, List.length_nil]; (repeat' (first | (refine hK _ ?_; clear hK hkp kp K) | (with_reducible refine And.intro ?_ ?_) | omega))) | ((first | refine aG (fun h => ?_) (fun h => ?_) | refine aD (fun h => ?_) (fun h => ?_) | refine aX (fun h => ?_) (fun h => ?_)) <;> simp only [h]) | refine awp_cond_t rfl ?_ | refine awp_cond_f rfl ?_ | ((refine awp_cond rfl (fun h => ?_) (fun h => ?_) <;> try simp only [ifs] at h) <;> (try (exfalso; omega))) | refine awp_ret ?_))
      (refine retA_is (by (simp (implicitDefEqProofs := false) (maxSteps := 2000000) (disch := omega) only [go_sem, Go.Proofs.Try.results11]); rfl) ?_; refine eN hE ?_; simp [oneA, ren, renL])
    have hBt : B = true := by rw [← hBf]; exact decide_eq_true hmn
    have q1 : ((met : Int) != (ps.length : Int)) = false := by rw [hmn]; simp
    have q2 := sB_nil ps.length
    have q3 := sB_get [] (show rt < ps.length by omega)
    have zr : ((rt : Int) < (ps.length : Int)) = True := eq_true (by omega)
    have q4 : (sB ps.length []).set rt [.r (.bool true)] = sB ps.length (dnL ps rt 0 0) := sB_set []
    (repeat' (first | refine awp_seq ?_ | refine awp_block ?_ | refine awp_skip ?_ | refine awp_exit ?_ | ((first | refine rR (fun K kp hK hkp => ?_) | refine rD (id := 6) mixed 9 [0,1,2,3,4,5,6,7,8] (fun K kp hK hkp => ?_) | refine rD (id := 22) mixed 9 [0,1,2,3,4,5,6,7,8] (fun K kp hK hkp => ?_) | refine rD (id := 26) mixed 27 [0,1,2,3,4,5,6,7,8,9,10,11,12,13,14,15,16,17,18,19,20,21,22,23,24,25,26] (fun K kp hK hkp => ?_) | refine rD (id := 28) mixed 15 [0,1,2,3,4,5,6,7,8,9,10,11,12,13,14] (fun K kp hK hkp => ?_) | refine iG ?_ | refine iD ?_); simp (implicitDefEqProofs := false) (maxSteps := 2000000) (disch := omega) only [go_sem, q1, List.length_nil, Value.oneCell', ← q2, q3, zr]; (repeat' (first | (refine hK _ ?_; clear hK hkp kp K) | (with_reducible refine And.intro ?_ ?_) | omega))) | ((first | refine aG (fun h => ?_) (fun h => ?_) | refine aD (fun h => ?_) (fun h => ?_) | refine aX (fun h => ?_) (fun h => ?_)) <;> simp only [h]) | refine awp_cond_t rfl ?_ | refine awp_cond_f rfl ?_ | ((refine awp_cond rfl (fun h => ?_) (fun h => ?_) <;> try simp only [ifs] at h) <;> (try (exfalso; omega))) | refine awp_ret ?_))
    rw [q4]
    refine awp_loop (fun i : Nat => ⟨[(18, .r (.int .i64 i)), (17, .s 1 0 ps.length), (1, .p 0 0 0)], [(0, .box 24 [.ro t 5 (ps.map eP), .r (.int .i64 rt)]), (1, .lst 4 1 (sB ps.length (dnL ps rt i 0)))], 2⟩) (fun i => i ≤ ps.length ∧ (dnL ps rt i 0).Nodup) (fun i => ps.length - i) 0 ?_ ?_ ?_
    · exact ⟨Nat.zero_le _, by simp [dnL]⟩
    · (refine emb [0, 4] ?_ ?_ rfl ?_ ?_ ?_ ?_ <;> simp [okM, okO, lk, ren, renL, renNd, by_, hE] <;> (try omega) <;> (try (intro i hi; first | (rcases i with _ | _ | i; rfl; rfl; (exfalso; omega)) | (rcases i with _ | _ | _ | i; rfl; rfl; rfl; (exfalso; omega)) | (rcases i with _ | _ | _ | _ | i; rfl; rfl; rfl; rfl; (exfalso; omega)) | (rcases i with _ | _ | _ | _ | _ | i; rfl; rfl; rfl; rfl; rfl; (exfalso; omega)) | (rcases i with _ | _ | _ | _ | _ | _ | i; rfl; rfl; rfl; rfl; rfl; rfl; (exfalso; omega)))))
    intro i hi
    obtain ⟨hi, hnd0⟩ := hi
    by_cases hlt : i < ps.length
    · have zi : ((i : Int) < (ps.length : Int)) = True := eq_true (by omega)
      obtain ⟨p, hp⟩ : ∃ p, ps[i]? = some p := ⟨ps[i], by simp [hlt]⟩
      have hpg : pg ps i = p := by rw [pg, List.getD_eq_getElem?_getD, hp]; rfl
      have hpo := hall i p hp
      (repeat' (first | refine awp_seq ?_ | refine awp_block ?_ | refine awp_skip ?_ | refine awp_exit ?_ | ((first | refine rR (fun K kp hK hkp => ?_) | refine rD (id := 6) mixed 9 [0,1,2,3,4,5,6,7,8] (fun K kp hK hkp => ?_) | refine rD (id := 22) mixed 9 [0,1,2,3,4,5,6,7,8] (fun K kp hK hkp => ?_) | refine rD (id := 26) mixed 27 [0,1,2,3,4,5,6,7,8,9,10,11,12,13,14,15,16,17,18,19,20,21,22,23,24,25,26] (fun K kp hK hkp => ?_) | refine rD (id := 28) mixed 15 [0,1,2,3,4,5,6,7,8,9,10,11,12,13,14] (fun K kp hK hkp => ?_) | refine iG ?_ | refine iD ?_); simp (implicitDefEqProofs := false) (maxSteps := 2000000) (disch := omega) only [go_sem, zi]; (repeat' (first | (refine hK _ ?_; clear hK hkp kp K) | (with_reducible refine And.intro ?_ ?_) | omega))) | ((first | refine aG (fun h => ?_) (fun h => ?_) | refine aD (fun h => ?_) (fun h => ?_) | refine aX (fun h => ?_) (fun h => ?_)) <;> simp only [h]) | refine awp_cond_t rfl ?_ | refine awp_cond_f rfl ?_ | ((refine awp_cond rfl (fun h => ?_) (fun h => ?_) <;> try simp only [ifs] at h) <;> (try (exfalso; omega))) | refine awp_ret ?_))
      refine awp_loop (fun k : Nat => ⟨[(19, .r (.int .i64 k)), (18, .r (.int .i64 i)), (17, .s 1 0 ps.length), (1, .p 0 0 0)], [(0, .box 24 [.ro t 5 (ps.map eP), .r (.int .i64 rt)]), (1, .lst 4 1 (sB ps.length (dnL ps rt i k)))], 2⟩) (fun k => k ≤ (kidsOf ps i).length ∧ (dnL ps rt i k).Nodup) (fun k => (kidsOf ps i).length - k) 0 ?_ ?_ ?_
      · exact ⟨Nat.zero_le _, hnd0⟩
      · (refine emb [0, 1] ?_ ?_ rfl ?_ ?_ ?_ ?_ <;> simp [okM, okO, lk, ren, renL, renNd, by_, hE] <;> (try omega) <;> (try (intro i hi; first | (rcases i with _ | _ | i; rfl; rfl; (exfalso; omega)) | (rcases i with _ | _ | _ | i; rfl; rfl; rfl; (exfalso; omega)) | (rcases i with _ | _ | _ | _ | i; rfl; rfl; rfl; rfl; (exfalso; omega)) | (rcases i with _ | _ | _ | _ | _ | i; rfl; rfl; rfl; rfl; rfl; (exfalso; omega)) | (rcases i with _ | _ | _ | _ | _ | _ | i; rfl; rfl; rfl; rfl; rfl; rfl; (exfalso; omega)))))
      intro k hk
      obtain ⟨hk, hndk⟩ := hk
      by_cases hl : p.leaf = true
      · have hk0 : kidsOf ps i = [] := leaf_kids (by rw [hpg]; exact hl)
        have hnx := dnL_next ps rt i (k := k) (by rw [hk0]; exact Nat.zero_le _)
        (repeat' (first | refine awp_seq ?_ | refine awp_block ?_ | refine awp_skip ?_ | refine awp_exit ?_ | ((first | refine rR (fun K kp hK hkp => ?_) | refine rD (id := 6) mixed 9 [0,1,2,3,4,5,6,7,8] (fun K kp hK hkp => ?_) | refine rD (id := 22) mixed 9 [0,1,2,3,4,5,6,7,8] (fun K kp hK hkp => ?_) | refine rD (id := 26) mixed 27 [0,1,2,3,4,5,6,7,8,9,10,11,12,13,14,15,16,17,18,19,20,21,22,23,24,25,26] (fun K kp hK hkp => ?_) | refine rD (id := 28) mixed 15 [0,1,2,3,4,5,6,7,8,9,10,11,12,13,14] (fun K kp hK hkp => ?_) | refine iG ?_ | refine iD ?_); simp (implicitDefEqProofs := false) (maxSteps := 2000000) (disch := omega) only [go_sem, zi, hp, eP, hl]; (repeat' (first | (refine hK _ ?_; clear hK hkp kp K) | (with_reducible refine And.intro ?_ ?_) | omega))) | ((first | refine aG (fun h => ?_) (fun h => ?_) | refine aD (fun h => ?_) (fun h => ?_) | refine aX (fun h => ?_) (fun h => ?_)) <;> simp only [h]) | refine awp_cond_t rfl ?_ | refine awp_cond_f rfl ?_ | ((refine awp_cond rfl (fun h => ?_) (fun h => ?_) <;> try simp only [ifs] at h) <;> (try (exfalso; omega))) | refine awp_ret ?_))
        all_goals rw [hnx]
        all_goals ((first | (refine nextB (i + 1) ?_ ?_ ?_) | (refine nextA (i + 1) ?_ ?_ ?_) | (refine nextE (i + 1) ?_ ?_ ?_)); rotate_left; (· (try dsimp only); (first | omega | (simp only [List.length_drop, List.length_cons, List.length_append]; omega) | (simp; done) | (simp; omega))); (· (refine emb [0, 1] ?_ ?_ rfl ?_ ?_ ?_ ?_ <;> simp [okM, okO, lk, ren, renL, renNd, by_, hE] <;> (try omega) <;> (try (intro i hi; first | (rcases i with _ | _ | i; rfl; rfl; (exfalso; omega)) | (rcases i with _ | _ | _ | i; rfl; rfl; rfl; (exfalso; omega)) | (rcases i with _ | _ | _ | _ | i; rfl; rfl; rfl; rfl; (exfalso; omega)) | (rcases i with _ | _ | _ | _ | _ | i; rfl; rfl; rfl; rfl; rfl; (exfalso; omega)) | (rcases i with _ | _ | _ | _ | _ | _ | i; rfl; rfl; rfl; rfl; rfl; rfl; (exfalso; omega)))))))
        all_goals exact ⟨by omega, by rw [← hnx]; exact hndk⟩
      replace hl : p.leaf = false := by simpa using hl
      have hk5 := hpo.ki hl
      have hk4 := hpo.nk
      have hpk : p.kids = castL (kidsOf ps i) := by
        rw [kidsOf, hpg, hl]
        simp only [Bool.false_eq_true, if_false, castL, List.map_map]
        refine (List.map_id _).symm.trans (List.map_congr_left fun x hx => ?_)
        obtain ⟨j, hj⟩ := List.mem_iff_getElem?.1 hx
        have := (hpo.kd j (List.getElem?_eq_some_iff.1 hj).1).1
        rw [List.getD_eq_getElem?_getD, hj] at this
        show x = ((x.toNat : Nat) : Int)
        have h0 : 0 ≤ x := this
        omega
      have hcl : p.kids.length = (kidsOf ps i).length := by rw [hpk, castL, List.length_map]
      by_cases hkl : k < (kidsOf ps i).length
      · have zk : ((k : Int) < (p.kids.length : Int)) = True := eq_true (by omega)
        obtain ⟨x, hx⟩ : ∃ x, (kidsOf ps i)[k]? = some x := ⟨(kidsOf ps i)[k], by simp [hkl]⟩
        have hkd : p.kids[k]? = some (x : Int) := by rw [hpk, castL, List.getElem?_map, hx]; rfl
        have hxn := hin i x (List.mem_of_getElem? hx)
        have zx : ((x : Int) < (ps.length : Int)) = True := eq_true (by omega)
        have hg := sB_get (dnL ps rt i k) hxn
        by_cases hm : x ∈ dnL ps rt i k
        · obtain rfl := hbad2 (dnL_dup hlt hx hm)
          rw [decide_eq_true hm] at hg
          (repeat' (first | refine awp_seq ?_ | refine awp_block ?_ | refine awp_skip ?_ | refine awp_exit ?_ | ((first | refine rR (fun K kp hK hkp => ?_) | refine rD (id := 6) mixed 9 [0,1,2,3,4,5,6,7,8] (fun K kp hK hkp => ?_) | refine rD (id := 22) mixed 9 [0,1,2,3,4,5,6,7,8] (fun K kp hK hkp => ?_) | refine rD (id := 26) mixed 27 [0,1,2,3,4,5,6,7,8,9,10,11,12,13,14,15,16,17,18,19,20,21,22,23,24,25,26] (fun K kp hK hkp => ?_) | refine rD (id := 28) mixed 15 [0,1,2,3,4,5,6,7,8,9,10,11,12,13,14] (fun K kp hK hkp => ?_) | refine iG ?_ | refine iD ?_); simp (implicitDefEqProofs := false) (maxSteps := 2000000) (disch := omega) only [go_sem, zi, hp, eP, hl, zk, hkd, eI, zx, hg, sB_len]; (repeat' (first | (refine hK _ ?_; clear hK hkp kp K) | (with_reducible refine And.intro ?_ ?_) | omega))) | ((first | refine aG (fun h => ?_) (fun h => ?_) | refine aD (fun h => ?_) (fun h => ?_) | refine aX (fun h => ?_) (fun h => ?_)) <;> simp only [h]) | refine awp_cond_t rfl ?_ | refine awp_cond_f rfl ?_ | ((refine awp_cond rfl (fun h => ?_) (fun h => ?_) <;> try simp only [ifs] at h) <;> (try (exfalso; omega))) | refine awp_ret ?_))
          (refine retA_is (by (simp (implicitDefEqProofs := false) (maxSteps := 2000000) (disch := omega) only [go_sem, Go.Proofs.Try.results11]); rfl) ?_; refine eN hE ?_; simp [oneA, ren, renL])
        · rw [decide_eq_false hm] at hg
          have hst : (sB ps.length (dnL ps rt i k)).set x [.r (.bool true)] = sB ps.length (dnL ps rt i (k + 1)) := by rw [sB_set, dnL_step hx]
          (repeat' (first | refine awp_seq ?_ | refine awp_block ?_ | refine awp_skip ?_ | refine awp_exit ?_ | ((first | refine rR (fun K kp hK hkp => ?_) | refine rD (id := 6) mixed 9 [0,1,2,3,4,5,6,7,8] (fun K kp hK hkp => ?_) | refine rD (id := 22) mixed 9 [0,1,2,3,4,5,6,7,8] (fun K kp hK hkp => ?_) | refine rD (id := 26) mixed 27 [0,1,2,3,4,5,6,7,8,9,10,11,12,13,14,15,16,17,18,19,20,21,22,23,24,25,26] (fun K kp hK hkp => ?_) | refine rD (id := 28) mixed 15 [0,1,2,3,4,5,6,7,8,9,10,11,12,13,14] (fun K kp hK hkp => ?_) | refine iG ?_ | refine iD ?_); simp (implicitDefEqProofs := false) (maxSteps := 2000000) (disch := omega) only [go_sem, zi, hp, eP, hl, zk, hkd, eI, zx, hg, sB_len]; (repeat' (first | (refine hK _ ?_; clear hK hkp kp K) | (with_reducible refine And.intro ?_ ?_) | omega))) | ((first | refine aG (fun h => ?_) (fun h => ?_) | refine aD (fun h => ?_) (fun h => ?_) | refine aX (fun h => ?_) (fun h => ?_)) <;> simp only [h]) | refine awp_cond_t rfl ?_ | refine awp_cond_f rfl ?_ | ((refine awp_cond rfl (fun h => ?_) (fun h => ?_) <;> try simp only [ifs] at h) <;> (try (exfalso; omega))) | refine awp_ret ?_))
          rw [hst]
          ((first | (refine nextB (k + 1) ?_ ?_ ?_) | (refine nextA (k + 1) ?_ ?_ ?_) | (refine nextE (k + 1) ?_ ?_ ?_)); rotate_left; (· (try dsimp only); (first | omega | (simp only [List.length_drop, List.length_cons, List.length_append]; omega) | (simp; done) | (simp; omega))); (· (refine emb [0, 1] ?_ ?_ rfl ?_ ?_ ?_ ?_ <;> simp [okM, okO, lk, ren, renL, renNd, by_, hE] <;> (try omega) <;> (try (intro i hi; first | (rcases i with _ | _ | i; rfl; rfl; (exfalso; omega)) | (rcases i with _ | _ | _ | i; rfl; rfl; rfl; (exfalso; omega)) | (rcases i with _ | _ | _ | _ | i; rfl; rfl; rfl; rfl; (exfalso; omega)) | (rcases i with _ | _ | _ | _ | _ | i; rfl; rfl; rfl; rfl; rfl; (exfalso; omega)) | (rcases i with _ | _ | _ | _ | _ | _ | i; rfl; rfl; rfl; rfl; rfl; rfl; (exfalso; omega)))))))
          refine ⟨by omega, ?_⟩
          rw [dnL_step hx]
          exact List.nodup_append.2 ⟨hndk, by simp, fun a ha b hb => by simp at hb; subst hb; rintro rfl; exact hm ha⟩
      · have zk : ((k : Int) < (p.kids.length : Int)) = False := eq_false (by omega)
        have hnx := dnL_next ps rt i (k := k) (by omega)
        (repeat' (first | refine awp_seq ?_ | refine awp_block ?_ | refine awp_skip ?_ | refine awp_exit ?_ | ((first | refine rR (fun K kp hK hkp => ?_) | refine rD (id := 6) mixed 9 [0,1,2,3,4,5,6,7,8] (fun K kp hK hkp => ?_) | refine rD (id := 22) mixed 9 [0,1,2,3,4,5,6,7,8] (fun K kp hK hkp => ?_) | refine rD (id := 26) mixed 27 [0,1,2,3,4,5,6,7,8,9,10,11,12,13,14,15,16,17,18,19,20,21,22,23,24,25,26] (fun K kp hK hkp => ?_) | refine rD (id := 28) mixed 15 [0,1,2,3,4,5,6,7,8,9,10,11,12,13,14] (fun K kp hK hkp => ?_) | refine iG ?_ | refine iD ?_); simp (implicitDefEqProofs := false) (maxSteps := 2000000) (disch := omega) only [go_sem, zi, hp, eP, hl, zk]; (repeat' (first | (refine hK _ ?_; clear hK hkp kp K) | (with_reducible refine And.intro ?_ ?_) | omega))) | ((first | refine aG (fun h => ?_) (fun h => ?_) | refine aD (fun h => ?_) (fun h => ?_) | refine aX (fun h => ?_) (fun h => ?_)) <;> simp only [h]) | refine awp_cond_t rfl ?_ | refine awp_cond_f rfl ?_ | ((refine awp_cond rfl (fun h => ?_) (fun h => ?_) <;> try simp only [ifs] at h) <;> (try (exfalso; omega))) | refine awp_ret ?_))
        rw [hnx]
        ((first | (refine nextB (i + 1) ?_ ?_ ?_) | (refine nextA (i + 1) ?_ ?_ ?_) | (refine nextE (i + 1) ?_ ?_ ?_)); rotate_left; (· (try dsimp only); (first | omega | (simp only [List.length_drop, List.length_cons, List.length_append]; omega) | (simp; done) | (simp; omega))); (· (refine emb [0, 1] ?_ ?_ rfl ?_ ?_ ?_ ?_ <;> simp [okM, okO, lk, ren, renL, renNd, by_, hE] <;> (try omega) <;> (try (intro i hi; first | (rcases i with _ | _ | i; rfl; rfl; (exfalso; omega)) | (rcases i with _ | _ | _ | i; rfl; rfl; rfl; (exfalso; omega)) | (rcases i with _ | _ | _ | _ | i; rfl; rfl; rfl; rfl; (exfalso; omega)) | (rcases i with _ | _ | _ | _ | _ | i; rfl; rfl; rfl; rfl; rfl; (exfalso; omega)) | (rcases i with _ | _ | _ | _ | _ | _ | i; rfl; rfl; rfl; rfl; rfl; rfl; (exfalso; omega)))))))
        exact ⟨by omega, by rw [← hnx]; exact hndk⟩
    · obtain rfl : i = ps.length := by omega
      rw [dnL_end] at hnd0 ⊢
      obtain rfl := hgood hBt hnd0
      (repeat' (first | refine awp_seq ?_ | refine awp_block ?_ | refine awp_skip ?_ | refine awp_exit ?_ | ((first | refine rR (fun K kp hK hkp => ?_) | refine rD (id := 6) mixed 9 [0,1,2,3,4,5,6,7,8] (fun K kp hK hkp => ?_) | refine rD (id := 22) mixed 9 [0,1,2,3,4,5,6,7,8] (fun K kp hK hkp => ?_) | refine rD (id := 26) mixed 27 [0,1,2,3,4,5,6,7,8,9,10,11,12,13,14,15,16,17,18,19,20,21,22,23,24,25,26] (fun K kp hK hkp => ?_) | refine rD (id := 28) mixed 15 [0,1,2,3,4,5,6,7,8,9,10,11,12,13,14] (fun K kp hK hkp => ?_) | refine iG ?_ | refine iD ?_); simp (implicitDefEqProofs := false) (maxSteps := 2000000) (disch := omega) only [go_sem]; (repeat' (first | (refine hK _ ?_; clear hK hkp kp K) | (with_reducible refine And.intro ?_ ?_) | omega))) | ((first | refine aG (fun h => ?_) (fun h => ?_) | refine aD (fun h => ?_) (fun h => ?_) | refine aX (fun h => ?_) (fun h => ?_)) <;> simp only [h]) | refine awp_cond_t rfl ?_ | refine awp_cond_f rfl ?_ | ((refine awp_cond rfl (fun h => ?_) (fun h => ?_) <;> try simp only [ifs] at h) <;> (try (exfalso; omega))) | refine awp_ret ?_))
      (refine retA_is (by (simp (implicitDefEqProofs := false) (maxSteps := 2000000) (disch := omega) only [go_sem, Go.Proofs.Try.results11]); rfl) ?_; refine eN hE ?_; simp [oneA, ren, renL])
  obtain ⟨f, rfl⟩ : ∃ g, f = g + 1 := ⟨f - 1, by omega⟩
  rw [bfsF, if_neg hL0] at hBf
  have hLp : 0 < L.length := List.length_pos_iff.2 hL0
  have q1 : ((L.length : Int) > 0) = True := eq_true (by omega)
  have q0 : (met : Int) + (L.length : Int) = ((met + L.length : Nat) : Int) := by omega
  by_cases c1 : met + L.length > ps.length
  · rw [if_pos c1] at hBf
    obtain rfl := hbad1 hBf.symm
    have q2 : (((met + L.length : Nat) : Int) > (ps.length : Int)) = True := eq_true (by omega)
    (repeat' (first | refine awp_seq ?_ | refine awp_block ?_ | refine awp_skip ?_ | refine awp_exit ?_ | ((first | refine rR (fun K kp hK hkp => ?_) | refine rD (id := 6) mixed 9 [0,1,2,3,4,5,6,7,8] (fun K kp hK hkp => ?_) | refine rD (id := 22) mixed 9 [0,1,2,3,4,5,6,7,8] (fun K kp hK hkp => ?_) | refine rD (id := 26) mixed 27 [0,1,2,3,4,5,6,7,8,9,10,11,12,13,14,15,16,17,18,19,20,21,22,23,24,25,26] (fun K kp hK hkp => ?_) | refine rD (id := 28) mixed 15 [0,1,2,3,4,5,6,7,8,9,10,11,12,13,14] (fun K kp hK hkp => ?_) | refine iG ?_ | refine iD ?_); simp (implicitDefEqProofs := false) (maxSteps := 2000000) (disch := omega) only [go_sem, q1, q0, q2]; (repeat' (first | (refine hK _ ?_; clear hK hkp kp K) | (with_reducible refine And.intro ?_ ?_) | omega))) | ((first | refine aG (fun h => ?_) (fun h => ?_) | refine aD (fun h => ?_) (fun h => ?_) | refine aX (fun h => ?_) (fun h => ?_)) <;> simp only [h]) | refine awp_cond_t rfl ?_ | refine awp_cond_f rfl ?_ | ((refine awp_cond rfl (fun h => ?_) (fun h => ?_) <;> try simp only [ifs] at h) <;> (try (exfalso; omega))) | refine awp_ret ?_))
    (refine retA_is (by (simp (implicitDefEqProofs := false) (maxSteps := 2000000) (disch := omega) only [go_sem, Go.Proofs.Try.results11]); rfl) ?_; refine eN hE ?_; simp [oneA, ren, renL])
  rw [if_neg c1] at hBf
  have q2 : (((met + L.length : Nat) : Int) > (ps.length : Int)) = False := eq_false (by omega)
  (repeat' (first | refine awp_seq ?_ | refine awp_block ?_ | refine awp_skip ?_ | refine awp_exit ?_ | ((first | refine rR (fun K kp hK hkp => ?_) | refine rD (id := 6) mixed 9 [0,1,2,3,4,5,6,7,8] (fun K kp hK hkp => ?_) | refine rD (id := 22) mixed 9 [0,1,2,3,4,5,6,7,8] (fun K kp hK hkp => ?_) | refine rD (id := 26) mixed 27 [0,1,2,3,4,5,6,7,8,9,10,11,12,13,14,15,16,17,18,19,20,21,22,23,24,25,26] (fun K kp hK hkp => ?_) | refine rD (id := 28) mixed 15 [0,1,2,3,4,5,6,7,8,9,10,11,12,13,14] (fun K kp hK hkp => ?_) | refine iG ?_ | refine iD ?_); simp (implicitDefEqProofs := false) (maxSteps := 2000000) (disch := omega) only [go_sem, q1, q0, q2]; (repeat' (first | (refine hK _ ?_; clear hK hkp kp K) | (with_reducible refine And.intro ?_ ?_) | omega))) | ((first | refine aG (fun h => ?_) (fun h => ?_) | refine aD (fun h => ?_) (fun h => ?_) | refine aX (fun h => ?_) (fun h => ?_)) <;> simp only [h]) | refine awp_cond_t rfl ?_ | refine awp_cond_f rfl ?_ | ((refine awp_cond rfl (fun h => ?_) (fun h => ?_) <;> try simp only [ifs] at h) <;> (try (exfalso; omega))) | refine awp_ret ?_))
  (refine AWP.emb (emb_nil 8 3 1 ?_) ?_; (· rfl); dsimp only)
  (refine AWP.emb (emb_nil 9 30 1 ?_) ?_; (· rfl); dsimp only)
  (refine AWP.emb (emb_nil 10 30 1 ?_) ?_; (· rfl); dsimp only)
  refine awp_loop (fun i : Nat => ⟨[(11, .r (.int .i64 i)), (10, .s 6 0 ((L.take i).flatMap (kidsT ps)).length), (9, .s 5 0 ((L.take i).flatMap (kidsT ps)).length), (8, .s 4 0 ((L.take i).flatMap (kidsT ps)).length), (7, .r (.int .i64 ((met + L.length : Nat) : Int))), (6, .s 3 0 L.length), (5, .s 2 0 L.length), (4, .s 1 0 L.length), (1, .p 0 0 0)], [(0, .box 24 [.ro t 5 (ps.map eP), .r (.int .i64 rt)]), (1, .lst 3 1 ((nums L).map eNt)), (2, .lst 30 1 (L.map lowE)), (3, .lst 30 1 (L.map highE)), (4, .lst 3 1 ((nums ((L.take i).flatMap (kidsT ps))).map eNt)), (5, .lst 30 1 (((L.take i).flatMap (kidsT ps)).map lowE)), (6, .lst 30 1 (((L.take i).flatMap (kidsT ps)).map highE))], 7⟩) (fun i => i ≤ L.length ∧ ∀ (j : Nat) x, j < i → L[j]? = some x → rowOK ps L j x) (fun i => L.length - i) 0 ?_ ?_ ?_
  · exact ⟨Nat.zero_le _, fun j x hj => by omega⟩
  · (refine emb [0, 1, 2, 3, 4, 5, 6] ?_ ?_ rfl ?_ ?_ ?_ ?_ <;> simp [okM, okO, lk, ren, renL, renNd, by_, hE, nums] <;> (try omega) <;> (try (intro i hi; first | (rcases i with _ | _ | i; rfl; rfl; (exfalso; omega)) | (rcases i with _ | _ | _ | i; rfl; rfl; rfl; (exfalso; omega)) | (rcases i with _ | _ | _ | _ | i; rfl; rfl; rfl; rfl; (exfalso; omega)) | (rcases i with _ | _ | _ | _ | _ | i; rfl; rfl; rfl; rfl; rfl; (exfalso; omega)) | (rcases i with _ | _ | _ | _ | _ | _ | i; rfl; rfl; rfl; rfl; rfl; rfl; (exfalso; omega)))))
  intro i hi
  obtain ⟨hi, hdone⟩ := hi
  have hNl : ∀ j, ((L.take j).flatMap (kidsT ps)).length ≤ 5 * j := fun j => by
    have h1 := flat_len (kidsOf_len hall) (L.take j)
    have h2 := List.length_take_le j L
    omega
  by_cases hlt : i < L.length
  · obtain ⟨x, hx⟩ : ∃ x, L[i]? = some x := ⟨L[i], by simp [hlt]⟩
    have hxn := hL x (List.mem_of_getElem? hx)
    have hxm : (nums L)[i]? = some x.1 := by rw [nums, List.getElem?_map, hx]; rfl
    have zi : ((i : Int) < (L.length : Int)) = True := eq_true (by omega)
    have zx : ((x.1 : Int) < (ps.length : Int)) = True := eq_true (by omega)
    obtain ⟨p, hp⟩ : ∃ p, ps[x.1]? = some p := ⟨ps[x.1], by simp [hxn]⟩
    have hpg : pg ps x.1 = p := by rw [pg, List.getD_eq_getElem?_getD, hp]; rfl
    have hpo := hall x.1 p hp
    have nl : (nums L).length = L.length := by simp [nums]
    obtain ⟨N, hN⟩ : ∃ N, (L.take i).flatMap (kidsT ps) = N := ⟨_, rfl⟩
    have hNi := hNl i
    have i1 : (i : Int) + 1 = ((i + 1 : Nat) : Int) := by omega
    rw [hN] at hNi ⊢
    obtain ⟨rv, hrv⟩ : ∃ rv, rightOf (nums L) i = rv := ⟨_, rfl⟩
    refine awp_seq ?_
    refine awp_seq ?_
    (refine rR (fun K kp hK hkp => ?_); simp (implicitDefEqProofs := false) (maxSteps := 2000000) (disch := omega) only [go_sem, zi, nl]; (repeat' (first | (refine hK _ ?_; clear hK hkp kp K) | (with_reducible refine And.intro ?_ ?_) | omega)))
    refine awp_cond_t rfl ?_
    refine awp_skip ?_
    refine awp_seq ?_
    refine awp_block ?_
    refine awp_cut3 (fx := ⟨[(13, .r (.int .i64 rv)), (12, .p 7 0 0), (11, .r (.int .i64 i)), (10, .s 6 0 (N).length), (9, .s 5 0 (N).length), (8, .s 4 0 (N).length), (7, .r (.int .i64 ((met + L.length : Nat) : Int))), (6, .s 3 0 L.length), (5, .s 2 0 L.length), (4, .s 1 0 L.length), (1, .p 0 0 0)], [(0, .box 24 [.ro t 5 (ps.map eP), .r (.int .i64 rt)]), (1, .lst 3 1 ((nums L).map eNt)), (2, .lst 30 1 (L.map lowE)), (3, .lst 30 1 (L.map highE)), (4, .lst 3 1 ((nums (N)).map eNt)), (5, .lst 30 1 ((N).map lowE)), (6, .lst 30 1 ((N).map highE)), (7, .box 52 [.r (.bool p.leaf), .ro true 1 (p.keys.map eKy), .ro true 1 (p.kids.map eI), .ro true 1 (p.high.map eByte), .r (.int .i64 p.next)])], 8⟩) ?_ fun K hcut => ?_
    rotate_left
    · by_cases hi1 : i + 1 < L.length
      · obtain ⟨y, hy⟩ : ∃ y, L[i + 1]? = some y := ⟨L[i + 1], by simp [hi1]⟩
        have hym : (nums L)[i + 1]? = some y.1 := by rw [nums, List.getElem?_map, hy]; rfl
        obtain rfl : rv = (y.1 : Int) := by rw [← hrv, rightOf, hym]
        have q3 : (((i + 1 : Nat) : Int) < (L.length : Int)) = True := eq_true (by omega)
        (repeat' (first | refine awp_seq ?_ | refine awp_block ?_ | refine awp_skip ?_ | refine awp_exit ?_ | ((first | refine rR (fun K kp hK hkp => ?_) | refine rD (id := 6) mixed 9 [0,1,2,3,4,5,6,7,8] (fun K kp hK hkp => ?_) | refine rD (id := 22) mixed 9 [0,1,2,3,4,5,6,7,8] (fun K kp hK hkp => ?_) | refine rD (id := 26) mixed 27 [0,1,2,3,4,5,6,7,8,9,10,11,12,13,14,15,16,17,18,19,20,21,22,23,24,25,26] (fun K kp hK hkp => ?_) | refine rD (id := 28) mixed 15 [0,1,2,3,4,5,6,7,8,9,10,11,12,13,14] (fun K kp hK hkp => ?_) | refine iG ?_ | refine iD ?_); simp (implicitDefEqProofs := false) (maxSteps := 2000000) (disch := omega) only [go_sem, zi, nl, hxm, zx, hp, eP, eNt, i1, q3, hym]; (repeat' (first | (refine hK _ ?_; clear hK hkp kp K) | (with_reducible refine And.intro ?_ ?_) | omega))) | ((first | refine aG (fun h => ?_) (fun h => ?_) | refine aD (fun h => ?_) (fun h => ?_) | refine aX (fun h => ?_) (fun h => ?_)) <;> simp only [h]) | refine awp_cond_t rfl ?_ | refine awp_cond_f rfl ?_ | ((refine awp_cond rfl (fun h => ?_) (fun h => ?_) <;> try simp only [ifs] at h) <;> (try (exfalso; omega))) | refine awp_ret ?_))
        refine hcut _ ?_
        (refine emb [0, 1, 2, 3, 4, 5, 6, 7] ?_ ?_ rfl ?_ ?_ ?_ ?_ <;> simp [okM, okO, lk, ren, renL, renNd, by_, hE] <;> (try omega) <;> (try (intro i hi; first | (rcases i with _ | _ | i; rfl; rfl; (exfalso; omega)) | (rcases i with _ | _ | _ | i; rfl; rfl; rfl; (exfalso; omega)) | (rcases i with _ | _ | _ | _ | i; rfl; rfl; rfl; rfl; (exfalso; omega)) | (rcases i with _ | _ | _ | _ | _ | i; rfl; rfl; rfl; rfl; rfl; (exfalso; omega)) | (rcases i with _ | _ | _ | _ | _ | _ | i; rfl; rfl; rfl; rfl; rfl; rfl; (exfalso; omega)))))
      · have hym : (nums L)[i + 1]? = none := List.getElem?_eq_none (by omega)
        obtain rfl : rv = -1 := by rw [← hrv, rightOf, hym]
        have q3 : (((i + 1 : Nat) : Int) < (L.length : Int)) = False := eq_false (by omega)
        (repeat' (first | refine awp_seq ?_ | refine awp_block ?_ | refine awp_skip ?_ | refine awp_exit ?_ | ((first | refine rR (fun K kp hK hkp => ?_) | refine rD (id := 6) mixed 9 [0,1,2,3,4,5,6,7,8] (fun K kp hK hkp => ?_) | refine rD (id := 22) mixed 9 [0,1,2,3,4,5,6,7,8] (fun K kp hK hkp => ?_) | refine rD (id := 26) mixed 27 [0,1,2,3,4,5,6,7,8,9,10,11,12,13,14,15,16,17,18,19,20,21,22,23,24,25,26] (fun K kp hK hkp => ?_) | refine rD (id := 28) mixed 15 [0,1,2,3,4,5,6,7,8,9,10,11,12,13,14] (fun K kp hK hkp => ?_) | refine iG ?_ | refine iD ?_); simp (implicitDefEqProofs := false) (maxSteps := 2000000) (disch := omega) only [go_sem, zi, nl, hxm, zx, hp, eP, eNt, i1, q3]; (repeat' (first | (refine hK _ ?_; clear hK hkp kp K) | (with_reducible refine And.intro ?_ ?_) | omega))) | ((first | refine aG (fun h => ?_) (fun h => ?_) | refine aD (fun h => ?_) (fun h => ?_) | refine aX (fun h => ?_) (fun h => ?_)) <;> simp only [h]) | refine awp_cond_t rfl ?_ | refine awp_cond_f rfl ?_ | ((refine awp_cond rfl (fun h => ?_) (fun h => ?_) <;> try simp only [ifs] at h) <;> (try (exfalso; omega))) | refine awp_ret ?_))
        refine hcut _ ?_
        (refine emb [0, 1, 2, 3, 4, 5, 6, 7] ?_ ?_ rfl ?_ ?_ ?_ ?_ <;> simp [okM, okO, lk, ren, renL, renNd, by_, hE] <;> (try omega) <;> (try (intro i hi; first | (rcases i with _ | _ | i; rfl; rfl; (exfalso; omega)) | (rcases i with _ | _ | _ | i; rfl; rfl; rfl; (exfalso; omega)) | (rcases i with _ | _ | _ | _ | i; rfl; rfl; rfl; rfl; (exfalso; omega)) | (rcases i with _ | _ | _ | _ | _ | i; rfl; rfl; rfl; rfl; rfl; (exfalso; omega)) | (rcases i with _ | _ | _ | _ | _ | _ | i; rfl; rfl; rfl; rfl; rfl; rfl; (exfalso; omega)))))
    have hno : ¬ rowOK ps L i x → R = 11 := fun h => hbad1 (by rw [← hBf, if_neg (fun ha => h (ha i x hx))])
    obtain ⟨w, hw⟩ : ∃ w, L[0]? = some w := ⟨L[0], by simp [hLp]⟩
    have hwm : (nums L)[0]? = some w.1 := by rw [nums, List.getElem?_map, hw]; rfl
    have hwD : (nums L).getD 0 0 = w.1 := by rw [List.getD_eq_getElem?_getD, hwm]; rfl
    have hwn := hL w (List.mem_of_getElem? hw)
    obtain ⟨p0, hp0⟩ : ∃ p0, ps[w.1]? = some p0 := ⟨ps[w.1], by simp [hwn]⟩
    have hpg0 : pg ps w.1 = p0 := by rw [pg, List.getD_eq_getElem?_getD, hp0]; rfl
    have zl0 : ((0 : Int) < (L.length : Int)) = True := eq_true (by omega)
    have zw : ((w.1 : Int) < (ps.length : Int)) = True := eq_true (by omega)
    by_cases e1 : p.next = rv
    rotate_left
    · obtain rfl := hno fun h => e1 (by have := h.1; rw [hpg, hrv] at this; exact this)
      have d1 : (p.next != rv) = true := by simpa using e1
      (repeat' (first | refine awp_seq ?_ | refine awp_block ?_ | refine awp_skip ?_ | refine awp_exit ?_ | ((first | refine rR (fun K kp hK hkp => ?_) | refine rD (id := 6) mixed 9 [0,1,2,3,4,5,6,7,8] (fun K kp hK hkp => ?_) | refine rD (id := 22) mixed 9 [0,1,2,3,4,5,6,7,8] (fun K kp hK hkp => ?_) | refine rD (id := 26) mixed 27 [0,1,2,3,4,5,6,7,8,9,10,11,12,13,14,15,16,17,18,19,20,21,22,23,24,25,26] (fun K kp hK hkp => ?_) | refine rD (id := 28) mixed 15 [0,1,2,3,4,5,6,7,8,9,10,11,12,13,14] (fun K kp hK hkp => ?_) | refine cR (sKy_con _ _ _ _ _) ?_ | refine cD (sKy_con _ _ _ _ _) ?_ | refine cR (keyBefore_con _ _ _ _ _) ?_ | refine cD (keyBefore_con _ _ _ _ _) ?_ | refine iG ?_ | refine iD ?_); simp (implicitDefEqProofs := false) (maxSteps := 2000000) (disch := omega) only [go_sem, zi, nl, hx, zx, hp, eP, eNt, highE, lowE, eKy, d1]; (repeat' (first | (refine hK _ ?_; clear hK hkp kp K) | (with_reducible refine And.intro ?_ ?_) | omega))) | ((first | refine aG (fun h => ?_) (fun h => ?_) | refine aD (fun h => ?_) (fun h => ?_) | refine aX (fun h => ?_) (fun h => ?_)) <;> simp only [h]) | refine awp_cond_t rfl ?_ | refine awp_cond_f rfl ?_ | ((refine awp_cond rfl (fun h => ?_) (fun h => ?_) <;> try simp only [ifs] at h) <;> (try (exfalso; omega))) | refine awp_ret ?_))
      (refine retA_is (by (simp (implicitDefEqProofs := false) (maxSteps := 2000000) (disch := omega) only [go_sem, Go.Proofs.Try.results11]); rfl) ?_; refine eN hE ?_; simp [oneA, ren, renL])
    have d1 : (p.next != rv) = false := by rw [e1]; simp
    by_cases e2 : p.high = x.2.2
    rotate_left
    · obtain rfl := hno fun h => e2 (by have := h.2.1; rw [hpg] at this; exact this)
      have d2 : (p.high == x.2.2) = false := by simpa using e2
      (repeat' (first | refine awp_seq ?_ | refine awp_block ?_ | refine awp_skip ?_ | refine awp_exit ?_ | ((first | refine rR (fun K kp hK hkp => ?_) | refine rD (id := 6) mixed 9 [0,1,2,3,4,5,6,7,8] (fun K kp hK hkp => ?_) | refine rD (id := 22) mixed 9 [0,1,2,3,4,5,6,7,8] (fun K kp hK hkp => ?_) | refine rD (id := 26) mixed 27 [0,1,2,3,4,5,6,7,8,9,10,11,12,13,14,15,16,17,18,19,20,21,22,23,24,25,26] (fun K kp hK hkp => ?_) | refine rD (id := 28) mixed 15 [0,1,2,3,4,5,6,7,8,9,10,11,12,13,14] (fun K kp hK hkp => ?_) | refine cR (sKy_con _ _ _ _ _) ?_ | refine cD (sKy_con _ _ _ _ _) ?_ | refine cR (keyBefore_con _ _ _ _ _) ?_ | refine cD (keyBefore_con _ _ _ _ _) ?_ | refine iG ?_ | refine iD ?_); simp (implicitDefEqProofs := false) (maxSteps := 2000000) (disch := omega) only [go_sem, zi, nl, hx, zx, hp, eP, eNt, highE, lowE, eKy, d1, d2]; (repeat' (first | (refine hK _ ?_; clear hK hkp kp K) | (with_reducible refine And.intro ?_ ?_) | omega))) | ((first | refine aG (fun h => ?_) (fun h => ?_) | refine aD (fun h => ?_) (fun h => ?_) | refine aX (fun h => ?_) (fun h => ?_)) <;> simp only [h]) | refine awp_cond_t rfl ?_ | refine awp_cond_f rfl ?_ | ((refine awp_cond rfl (fun h => ?_) (fun h => ?_) <;> try simp only [ifs] at h) <;> (try (exfalso; omega))) | refine awp_ret ?_))
      (refine retA_is (by (simp (implicitDefEqProofs := false) (maxSteps := 2000000) (disch := omega) only [go_sem, Go.Proofs.Try.results11]); rfl) ?_; refine eN hE ?_; simp [oneA, ren, renL])
    have d2 : (p.high == x.2.2) = true := by rw [e2]; exact beq_self_eq_true _
    by_cases e3 : p.leaf = p0.leaf
    rotate_left
    · obtain rfl := hno fun h => e3 (by have := h.2.2.1; rw [hpg, hwD, hpg0] at this; exact this)
      have d3 : (p.leaf == p0.leaf) = false := by simpa using e3
      (repeat' (first | refine awp_seq ?_ | refine awp_block ?_ | refine awp_skip ?_ | refine awp_exit ?_ | ((first | refine rR (fun K kp hK hkp => ?_) | refine rD (id := 6) mixed 9 [0,1,2,3,4,5,6,7,8] (fun K kp hK hkp => ?_) | refine rD (id := 22) mixed 9 [0,1,2,3,4,5,6,7,8] (fun K kp hK hkp => ?_) | refine rD (id := 26) mixed 27 [0,1,2,3,4,5,6,7,8,9,10,11,12,13,14,15,16,17,18,19,20,21,22,23,24,25,26] (fun K kp hK hkp => ?_) | refine rD (id := 28) mixed 15 [0,1,2,3,4,5,6,7,8,9,10,11,12,13,14] (fun K kp hK hkp => ?_) | refine cR (sKy_con _ _ _ _ _) ?_ | refine cD (sKy_con _ _ _ _ _) ?_ | refine cR (keyBefore_con _ _ _ _ _) ?_ | refine cD (keyBefore_con _ _ _ _ _) ?_ | refine iG ?_ | refine iD ?_); simp (implicitDefEqProofs := false) (maxSteps := 2000000) (disch := omega) only [go_sem, zi, nl, hx, zx, hp, eP, eNt, highE, lowE, eKy, d1, d2, d3, hwm, hp0, zl0, zw]; (repeat' (first | (refine hK _ ?_; clear hK hkp kp K) | (with_reducible refine And.intro ?_ ?_) | omega))) | ((first | refine aG (fun h => ?_) (fun h => ?_) | refine aD (fun h => ?_) (fun h => ?_) | refine aX (fun h => ?_) (fun h => ?_)) <;> simp only [h]) | refine awp_cond_t rfl ?_ | refine awp_cond_f rfl ?_ | ((refine awp_cond rfl (fun h => ?_) (fun h => ?_) <;> try simp only [ifs] at h) <;> (try (exfalso; omega))) | refine awp_ret ?_))
      (refine retA_is (by (simp (implicitDefEqProofs := false) (maxSteps := 2000000) (disch := omega) only [go_sem, Go.Proofs.Try.results11]); rfl) ?_; refine eN hE ?_; simp [oneA, ren, renL])
    have d3 : (p.leaf == p0.leaf) = true := by rw [e3]; exact beq_self_eq_true _
    cases e4 : firstLow p x.2.1
    · obtain rfl := hno fun h => by
        have := h.2.2.2
        rw [hpg, e4] at this; cases this
      have hk0 : ¬ p.keys.length = 0 := fun h => by rw [firstLow_nil h] at e4; cases e4
      have hk1 : ((p.keys.length : Int) > 0) = True := eq_true (by omega)
      obtain ⟨k, hk⟩ : ∃ k, p.keys[0]? = some k := ⟨p.keys[0]'(by omega), by simp⟩
      have d4 : Op.bytesLess k x.2.1 = true := by
        have e5 : ltK k x.2.1 = true := by rw [firstLow_cons hk] at e4; simpa using e4
        exact e5
      (repeat' (first | refine awp_seq ?_ | refine awp_block ?_ | refine awp_skip ?_ | refine awp_exit ?_ | ((first | refine rR (fun K kp hK hkp => ?_) | refine rD (id := 6) mixed 9 [0,1,2,3,4,5,6,7,8] (fun K kp hK hkp => ?_) | refine rD (id := 22) mixed 9 [0,1,2,3,4,5,6,7,8] (fun K kp hK hkp => ?_) | refine rD (id := 26) mixed 27 [0,1,2,3,4,5,6,7,8,9,10,11,12,13,14,15,16,17,18,19,20,21,22,23,24,25,26] (fun K kp hK hkp => ?_) | refine rD (id := 28) mixed 15 [0,1,2,3,4,5,6,7,8,9,10,11,12,13,14] (fun K kp hK hkp => ?_) | refine cR (sKy_con _ _ _ _ _) ?_ | refine cD (sKy_con _ _ _ _ _) ?_ | refine cR (keyBefore_con _ _ _ _ _) ?_ | refine cD (keyBefore_con _ _ _ _ _) ?_ | refine iG ?_ | refine iD ?_); simp (implicitDefEqProofs := false) (maxSteps := 2000000) (disch := omega) only [go_sem, zi, nl, hx, zx, hp, eP, eNt, highE, lowE, eKy, d1, d2, d3, hwm, hp0, zl0, zw, hk1, hk, d4]; (repeat' (first | (refine hK _ ?_; clear hK hkp kp K) | (with_reducible refine And.intro ?_ ?_) | omega))) | ((first | refine aG (fun h => ?_) (fun h => ?_) | refine aD (fun h => ?_) (fun h => ?_) | refine aX (fun h => ?_) (fun h => ?_)) <;> simp only [h]) | refine awp_cond_t rfl ?_ | refine awp_cond_f rfl ?_ | ((refine awp_cond rfl (fun h => ?_) (fun h => ?_) <;> try simp only [ifs] at h) <;> (try (exfalso; omega))) | refine awp_ret ?_))
      (refine retA_is (by (simp (implicitDefEqProofs := false) (maxSteps := 2000000) (disch := omega) only [go_sem, Go.Proofs.Try.results11]); rfl) ?_; refine eN hE ?_; simp [oneA, ren, renL])
    have hrow : rowOK ps L i x := ⟨by rw [hpg, hrv]; exact e1, by rw [hpg]; exact e2, by rw [hpg, hwD, hpg0]; exact e3, by rw [hpg]; exact e4⟩
    have hkT : (kidsT ps x).length = (kidsOf ps x.1).length := by rw [kidsT, List.length_mapIdx]
    have hk5 := kidsOf_len hall x.1
    have hNx : (L.take (i + 1)).flatMap (kidsT ps) = N ++ kidsT ps x := by
      rw [List.take_add_one, hx]; simp [← hN]
    refine awp_cut2 (fx := ⟨[(12, .p 7 0 0), (11, .r (.int .i64 i)), (10, .s 6 0 (N).length), (9, .s 5 0 (N).length), (8, .s 4 0 (N).length), (7, .r (.int .i64 ((met + L.length : Nat) : Int))), (6, .s 3 0 L.length), (5, .s 2 0 L.length), (4, .s 1 0 L.length), (1, .p 0 0 0)], [(0, .box 24 [.ro t 5 (ps.map eP), .r (.int .i64 rt)]), (1, .lst 3 1 ((nums L).map eNt)), (2, .lst 30 1 (L.map lowE)), (3, .lst 30 1 (L.map highE)), (4, .lst 3 1 ((nums (N)).map eNt)), (5, .lst 30 1 ((N).map lowE)), (6, .lst 30 1 ((N).map highE)), (7, .box 52 [.r (.bool p.leaf), .ro true 1 (p.keys.map eKy), .ro true 1 (p.kids.map eI), .ro true 1 (p.high.map eByte), .r (.int .i64 p.next)])], 8⟩) ?_ fun K hcut => ?_
    rotate_left
    · by_cases hk0 : p.keys.length = 0
      · have hk1 : ((p.keys.length : Int) > 0) = False := eq_false (by omega)
        (repeat' (first | refine awp_seq ?_ | refine awp_block ?_ | refine awp_skip ?_ | refine awp_exit ?_ | ((first | refine rR (fun K kp hK hkp => ?_) | refine rD (id := 6) mixed 9 [0,1,2,3,4,5,6,7,8] (fun K kp hK hkp => ?_) | refine rD (id := 22) mixed 9 [0,1,2,3,4,5,6,7,8] (fun K kp hK hkp => ?_) | refine rD (id := 26) mixed 27 [0,1,2,3,4,5,6,7,8,9,10,11,12,13,14,15,16,17,18,19,20,21,22,23,24,25,26] (fun K kp hK hkp => ?_) | refine rD (id := 28) mixed 15 [0,1,2,3,4,5,6,7,8,9,10,11,12,13,14] (fun K kp hK hkp => ?_) | refine cR (sKy_con _ _ _ _ _) ?_ | refine cD (sKy_con _ _ _ _ _) ?_ | refine cR (keyBefore_con _ _ _ _ _) ?_ | refine cD (keyBefore_con _ _ _ _ _) ?_ | refine iG ?_ | refine iD ?_); simp (implicitDefEqProofs := false) (maxSteps := 2000000) (disch := omega) only [go_sem, zi, nl, hx, zx, hp, eP, eNt, highE, lowE, eKy, d1, d2, d3, hwm, hp0, zl0, zw, hk1]; (repeat' (first | (refine hK _ ?_; clear hK hkp kp K) | (with_reducible refine And.intro ?_ ?_) | omega))) | ((first | refine aG (fun h => ?_) (fun h => ?_) | refine aD (fun h => ?_) (fun h => ?_) | refine aX (fun h => ?_) (fun h => ?_)) <;> simp only [h]) | refine awp_cond_t rfl ?_ | refine awp_cond_f rfl ?_ | ((refine awp_cond rfl (fun h => ?_) (fun h => ?_) <;> try simp only [ifs] at h) <;> (try (exfalso; omega))) | refine awp_ret ?_))
        refine hcut _ ?_
        (refine emb [0, 1, 2, 3, 4, 5, 6, 7] ?_ ?_ rfl ?_ ?_ ?_ ?_ <;> simp [okM, okO, lk, ren, renL, renNd, by_, hE] <;> (try omega) <;> (try (intro i hi; first | (rcases i with _ | _ | i; rfl; rfl; (exfalso; omega)) | (rcases i with _ | _ | _ | i; rfl; rfl; rfl; (exfalso; omega)) | (rcases i with _ | _ | _ | _ | i; rfl; rfl; rfl; rfl; (exfalso; omega)) | (rcases i with _ | _ | _ | _ | _ | i; rfl; rfl; rfl; rfl; rfl; (exfalso; omega)) | (rcases i with _ | _ | _ | _ | _ | _ | i; rfl; rfl; rfl; rfl; rfl; rfl; (exfalso; omega)))))
      · have hk1 : ((p.keys.length : Int) > 0) = True := eq_true (by omega)
        obtain ⟨k, hk⟩ : ∃ k, p.keys[0]? = some k := ⟨p.keys[0]'(by omega), by simp⟩
        have d4 : Op.bytesLess k x.2.1 = false := by
          have e5 : ltK k x.2.1 = false := by rw [firstLow_cons hk] at e4; simpa using e4
          exact e5
        (repeat' (first | refine awp_seq ?_ | refine awp_block ?_ | refine awp_skip ?_ | refine awp_exit ?_ | ((first | refine rR (fun K kp hK hkp => ?_) | refine rD (id := 6) mixed 9 [0,1,2,3,4,5,6,7,8] (fun K kp hK hkp => ?_) | refine rD (id := 22) mixed 9 [0,1,2,3,4,5,6,7,8] (fun K kp hK hkp => ?_) | refine rD (id := 26) mixed 27 [0,1,2,3,4,5,6,7,8,9,10,11,12,13,14,15,16,17,18,19,20,21,22,23,24,25,26] (fun K kp hK hkp => ?_) | refine rD (id := 28) mixed 15 [0,1,2,3,4,5,6,7,8,9,10,11,12,13,14] (fun K kp hK hkp => ?_) | refine cR (sKy_con _ _ _ _ _) ?_ | refine cD (sKy_con _ _ _ _ _) ?_ | refine cR (keyBefore_con _ _ _ _ _) ?_ | refine cD (keyBefore_con _ _ _ _ _) ?_ | refine iG ?_ | refine iD ?_); simp (implicitDefEqProofs := false) (maxSteps := 2000000) (disch := omega) only [go_sem, zi, nl, hx, zx, hp, eP, eNt, highE, lowE, eKy, d1, d2, d3, hwm, hp0, zl0, zw, hk1, hk, d4]; (repeat' (first | (refine hK _ ?_; clear hK hkp kp K) | (with_reducible refine And.intro ?_ ?_) | omega))) | ((first | refine aG (fun h => ?_) (fun h => ?_) | refine aD (fun h => ?_) (fun h => ?_) | refine aX (fun h => ?_) (fun h => ?_)) <;> simp only [h]) | refine awp_cond_t rfl ?_ | refine awp_cond_f rfl ?_ | ((refine awp_cond rfl (fun h => ?_) (fun h => ?_) <;> try simp only [ifs] at h) <;> (try (exfalso; omega))) | refine awp_ret ?_))
        refine hcut _ ?_
        (refine emb [0, 1, 2, 3, 4, 5, 6, 7] ?_ ?_ rfl ?_ ?_ ?_ ?_ <;> simp [okM, okO, lk, ren, renL, renNd, by_, hE] <;> (try omega) <;> (try (intro i hi; first | (rcases i with _ | _ | i; rfl; rfl; (exfalso; omega)) | (rcases i with _ | _ | _ | i; rfl; rfl; rfl; (exfalso; omega)) | (rcases i with _ | _ | _ | _ | i; rfl; rfl; rfl; rfl; (exfalso; omega)) | (rcases i with _ | _ | _ | _ | _ | i; rfl; rfl; rfl; rfl; rfl; (exfalso; omega)) | (rcases i with _ | _ | _ | _ | _ | _ | i; rfl; rfl; rfl; rfl; rfl; rfl; (exfalso; omega)))))
    (repeat' (first | refine awp_seq ?_ | refine awp_block ?_ | refine awp_skip ?_ | refine awp_exit ?_ | ((first | refine rR (fun K kp hK hkp => ?_) | refine rD (id := 6) mixed 9 [0,1,2,3,4,5,6,7,8] (fun K kp hK hkp => ?_) | refine rD (id := 22) mixed 9 [0,1,2,3,4,5,6,7,8] (fun K kp hK hkp => ?_) | refine rD (id := 26) mixed 27 [0,1,2,3,4,5,6,7,8,9,10,11,12,13,14,15,16,17,18,19,20,21,22,23,24,25,26] (fun K kp hK hkp => ?_) | refine rD (id := 28) mixed 15 [0,1,2,3,4,5,6,7,8,9,10,11,12,13,14] (fun K kp hK hkp => ?_) | refine iG ?_ | refine iD ?_); simp (implicitDefEqProofs := false) (maxSteps := 2000000) (disch := omega) only [go_sem, zi, nl, hx, lowE, eKy]; (repeat' (first | (refine hK _ ?_; clear hK hkp kp K) | (with_reducible refine And.intro ?_ ?_) | omega))) | ((first | refine aG (fun h => ?_) (fun h => ?_) | refine aD (fun h => ?_) (fun h => ?_) | refine aX (fun h => ?_) (fun h => ?_)) <;> simp only [h]) | refine awp_cond_t rfl ?_ | refine awp_cond_f rfl ?_ | ((refine awp_cond rfl (fun h => ?_) (fun h => ?_) <;> try simp only [ifs] at h) <;> (try (exfalso; omega))) | refine awp_ret ?_))
    refine awp_loop (fun k : Nat => ⟨[(15, .r (.int .i64 k)), (14, .ro true 1 ((if k ≤ p.keys.length then loP p k x.2.1 else x.2.2).map eByte)), (12, .p 7 0 0), (11, .r (.int .i64 i)), (10, .s 6 0 (N ++ (kidsT ps x).take k).length), (9, .s 5 0 (N ++ (kidsT ps x).take k).length), (8, .s 4 0 (N ++ (kidsT ps x).take k).length), (7, .r (.int .i64 ((met + L.length : Nat) : Int))), (6, .s 3 0 L.length), (5, .s 2 0 L.length), (4, .s 1 0 L.length), (1, .p 0 0 0)], [(0, .box 24 [.ro t 5 (ps.map eP), .r (.int .i64 rt)]), (1, .lst 3 1 ((nums L).map eNt)), (2, .lst 30 1 (L.map lowE)), (3, .lst 30 1 (L.map highE)), (4, .lst 3 1 ((nums (N ++ (kidsT ps x).take k)).map eNt)), (5, .lst 30 1 ((N ++ (kidsT ps x).take k).map lowE)), (6, .lst 30 1 ((N ++ (kidsT ps x).take k).map highE)), (7, .box 52 [.r (.bool p.leaf), .ro true 1 (p.keys.map eKy), .ro true 1 (p.kids.map eI), .ro true 1 (p.high.map eByte), .r (.int .i64 p.next)])], 8⟩) (fun k => k ≤ (kidsOf ps x.1).length) (fun k => (kidsOf ps x.1).length - k) 0 ?_ ?_ ?_
    · exact Nat.zero_le _
    · (refine emb [0, 1, 2, 3, 4, 5, 6, 7] ?_ ?_ rfl ?_ ?_ ?_ ?_ <;> simp [okM, okO, lk, ren, renL, renNd, by_, hE, loP] <;> (try omega) <;> (try (intro i hi; first | (rcases i with _ | _ | i; rfl; rfl; (exfalso; omega)) | (rcases i with _ | _ | _ | i; rfl; rfl; rfl; (exfalso; omega)) | (rcases i with _ | _ | _ | _ | i; rfl; rfl; rfl; rfl; (exfalso; omega)) | (rcases i with _ | _ | _ | _ | _ | i; rfl; rfl; rfl; rfl; rfl; (exfalso; omega)) | (rcases i with _ | _ | _ | _ | _ | _ | i; rfl; rfl; rfl; rfl; rfl; rfl; (exfalso; omega)))))
    intro k hk
    have hdn1 : ∀ (j : Nat) y, j < i + 1 → L[j]? = some y → rowOK ps L j y := fun j y hj hy => by
      by_cases he : j = i
      · subst he; rw [hx] at hy; cases hy; exact hrow
      · exact hdone j y (by omega) hy
    by_cases hl : p.leaf = true
    · have hk0 : kidsOf ps x.1 = [] := leaf_kids (by rw [hpg]; exact hl)
      have hall3 : N ++ (kidsT ps x).take k = N ++ kidsT ps x := by rw [List.take_of_length_le (by rw [hkT, hk0]; exact Nat.zero_le _)]
      rw [hall3]
      (repeat' (first | refine awp_seq ?_ | refine awp_block ?_ | refine awp_skip ?_ | refine awp_exit ?_ | ((first | refine rR (fun K kp hK hkp => ?_) | refine rD (id := 6) mixed 9 [0,1,2,3,4,5,6,7,8] (fun K kp hK hkp => ?_) | refine rD (id := 22) mixed 9 [0,1,2,3,4,5,6,7,8] (fun K kp hK hkp => ?_) | refine rD (id := 26) mixed 27 [0,1,2,3,4,5,6,7,8,9,10,11,12,13,14,15,16,17,18,19,20,21,22,23,24,25,26] (fun K kp hK hkp => ?_) | refine rD (id := 28) mixed 15 [0,1,2,3,4,5,6,7,8,9,10,11,12,13,14] (fun K kp hK hkp => ?_) | refine iG ?_ | refine iD ?_); simp (implicitDefEqProofs := false) (maxSteps := 2000000) (disch := omega) only [go_sem, hl, eP]; (repeat' (first | (refine hK _ ?_; clear hK hkp kp K) | (with_reducible refine And.intro ?_ ?_) | omega))) | ((first | refine aG (fun h => ?_) (fun h => ?_) | refine aD (fun h => ?_) (fun h => ?_) | refine aX (fun h => ?_) (fun h => ?_)) <;> simp only [h]) | refine awp_cond_t rfl ?_ | refine awp_cond_f rfl ?_ | ((refine awp_cond rfl (fun h => ?_) (fun h => ?_) <;> try simp only [ifs] at h) <;> (try (exfalso; omega))) | refine awp_ret ?_))
      all_goals ((first | (refine nextB (i + 1) ?_ ?_ ?_) | (refine nextA (i + 1) ?_ ?_ ?_) | (refine nextE (i + 1) ?_ ?_ ?_)); rotate_left; (· (try dsimp only); (first | omega | (simp only [List.length_drop, List.length_cons, List.length_append]; omega) | (simp; done) | (simp; omega))); (· (refine emb [0, 1, 2, 3, 4, 5, 6] ?_ ?_ rfl ?_ ?_ ?_ ?_ <;> simp [okM, okO, lk, ren, renL, renNd, by_, hE, hNx] <;> (try omega) <;> (try (intro i hi; first | (rcases i with _ | _ | i; rfl; rfl; (exfalso; omega)) | (rcases i with _ | _ | _ | i; rfl; rfl; rfl; (exfalso; omega)) | (rcases i with _ | _ | _ | _ | i; rfl; rfl; rfl; rfl; (exfalso; omega)) | (rcases i with _ | _ | _ | _ | _ | i; rfl; rfl; rfl; rfl; rfl; (exfalso; omega)) | (rcases i with _ | _ | _ | _ | _ | _ | i; rfl; rfl; rfl; rfl; rfl; rfl; (exfalso; omega)))))))
      all_goals exact ⟨by omega, hdn1⟩
    replace hl : p.leaf = false := by simpa using hl
    have hpk : p.kids = castL (kidsOf ps x.1) := by
      rw [kidsOf, hpg, hl]
      simp only [Bool.false_eq_true, if_false, castL, List.map_map]
      refine (List.map_id _).symm.trans (List.map_congr_left fun y hy => ?_)
      obtain ⟨j, hj⟩ := List.mem_iff_getElem?.1 hy
      have := (hpo.kd j (List.getElem?_eq_some_iff.1 hj).1).1
      rw [List.getD_eq_getElem?_getD, hj] at this
      show y = ((y.toNat : Nat) : Int)
      have h0 : 0 ≤ y := this
      omega
    have hcl : p.kids.length = (kidsOf ps x.1).length := by rw [hpk, castL, List.length_map]
    have hki := hpo.ki hl
    by_cases hkl : k < (kidsOf ps x.1).length
    · have zk : ((k : Int) < (p.kids.length : Int)) = True := eq_true (by omega)
      obtain ⟨kid, hkid⟩ : ∃ y, (kidsOf ps x.1)[k]? = some y := ⟨(kidsOf ps x.1)[k], by simp [hkl]⟩
      have hkd : p.kids[k]? = some (kid : Int) := by rw [hpk, castL, List.getElem?_map, hkid]; rfl
      have hkle : k ≤ p.keys.length := by omega
      have hTk : (kidsT ps x)[k]? = some (kid, loP p k x.2.1, hiP p k x.2.2) := by rw [kidsT, List.getElem?_mapIdx, hkid, hpg]; rfl
      have hNk : N ++ (kidsT ps x).take (k + 1) = (N ++ (kidsT ps x).take k) ++ [(kid, loP p k x.2.1, hiP p k x.2.2)] := by rw [List.take_add_one, hTk]; simp
      obtain ⟨M, hM⟩ : ∃ M, N ++ (kidsT ps x).take k = M := ⟨_, rfl⟩
      have hMl : M.length ≤ 5 * 20000 + 5 := by rw [← hM, List.length_append, List.length_take]; omega
      have hMn : (nums M).length = M.length := by simp [nums]
      rw [hM] at hNk ⊢
      rw [if_pos hkle]
      by_cases hkk : k < p.keys.length
      · have zkk : ((k : Int) < (p.keys.length : Int)) = True := eq_true (by omega)
        obtain ⟨y, hy⟩ : ∃ y, p.keys[k]? = some y := ⟨p.keys[k], by simp [hkk]⟩
        have hhi : hiP p k x.2.2 = y := by rw [hiP, if_pos hkk, List.getD_eq_getElem?_getD, hy]; rfl
        have hlo : (if k + 1 ≤ p.keys.length then loP p (k + 1) x.2.1 else x.2.2) = y := by
          rw [if_pos (by omega), loP, if_neg (by omega), Nat.add_sub_cancel, List.getD_eq_getElem?_getD, hy]; rfl
        rw [hhi] at hNk
        (repeat' (first | refine awp_seq ?_ | refine awp_block ?_ | refine awp_skip ?_ | refine awp_exit ?_ | ((first | refine rR (fun K kp hK hkp => ?_) | refine rD (id := 6) mixed 9 [0,1,2,3,4,5,6,7,8] (fun K kp hK hkp => ?_) | refine rD (id := 22) mixed 9 [0,1,2,3,4,5,6,7,8] (fun K kp hK hkp => ?_) | refine rD (id := 26) mixed 27 [0,1,2,3,4,5,6,7,8,9,10,11,12,13,14,15,16,17,18,19,20,21,22,23,24,25,26] (fun K kp hK hkp => ?_) | refine rD (id := 28) mixed 15 [0,1,2,3,4,5,6,7,8,9,10,11,12,13,14] (fun K kp hK hkp => ?_) | refine iG ?_ | refine iD ?_); simp (implicitDefEqProofs := false) (maxSteps := 2000000) (disch := omega) only [go_sem, zk, hl, eP, hkd, zkk, hy, hx, highE, eKy, eI, zi, hMn, Value.oneCell']; (repeat' (first | (refine hK _ ?_; clear hK hkp kp K) | (with_reducible refine And.intro ?_ ?_) | omega))) | ((first | refine aG (fun h => ?_) (fun h => ?_) | refine aD (fun h => ?_) (fun h => ?_) | refine aX (fun h => ?_) (fun h => ?_)) <;> simp only [h]) | refine awp_cond_t rfl ?_ | refine awp_cond_f rfl ?_ | ((refine awp_cond rfl (fun h => ?_) (fun h => ?_) <;> try simp only [ifs] at h) <;> (try (exfalso; omega))) | refine awp_ret ?_))
        ((first | (refine nextB (k + 1) ?_ ?_ ?_) | (refine nextA (k + 1) ?_ ?_ ?_) | (refine nextE (k + 1) ?_ ?_ ?_)); rotate_left; (· (try dsimp only); (first | omega | (simp only [List.length_drop, List.length_cons, List.length_append]; omega) | (simp; done) | (simp; omega))); (· (refine emb [0, 1, 2, 3, 9, 11, 13, 7] ?_ ?_ rfl ?_ ?_ ?_ ?_ <;> simp [okM, okO, lk, ren, renL, renNd, by_, hE, hNk, hlo, hl, nums, eNt, lowE, highE, eKy, List.map_append, List.take_of_length_le] <;> (try omega) <;> (try (intro i hi; first | (rcases i with _ | _ | i; rfl; rfl; (exfalso; omega)) | (rcases i with _ | _ | _ | i; rfl; rfl; rfl; (exfalso; omega)) | (rcases i with _ | _ | _ | _ | i; rfl; rfl; rfl; rfl; (exfalso; omega)) | (rcases i with _ | _ | _ | _ | _ | i; rfl; rfl; rfl; rfl; rfl; (exfalso; omega)) | (rcases i with _ | _ | _ | _ | _ | _ | i; rfl; rfl; rfl; rfl; rfl; rfl; (exfalso; omega)))))))
        omega
      · have zkk : ((k : Int) < (p.keys.length : Int)) = False := eq_false (by omega)
        have hhi : hiP p k x.2.2 = x.2.2 := by rw [hiP, if_neg hkk]
        have hlo : (if k + 1 ≤ p.keys.length then loP p (k + 1) x.2.1 else x.2.2) = x.2.2 := by rw [if_neg (by omega)]
        rw [hhi] at hNk
        (repeat' (first | refine awp_seq ?_ | refine awp_block ?_ | refine awp_skip ?_ | refine awp_exit ?_ | ((first | refine rR (fun K kp hK hkp => ?_) | refine rD (id := 6) mixed 9 [0,1,2,3,4,5,6,7,8] (fun K kp hK hkp => ?_) | refine rD (id := 22) mixed 9 [0,1,2,3,4,5,6,7,8] (fun K kp hK hkp => ?_) | refine rD (id := 26) mixed 27 [0,1,2,3,4,5,6,7,8,9,10,11,12,13,14,15,16,17,18,19,20,21,22,23,24,25,26] (fun K kp hK hkp => ?_) | refine rD (id := 28) mixed 15 [0,1,2,3,4,5,6,7,8,9,10,11,12,13,14] (fun K kp hK hkp => ?_) | refine iG ?_ | refine iD ?_); simp (implicitDefEqProofs := false) (maxSteps := 2000000) (disch := omega) only [go_sem, zk, hl, eP, hkd, zkk, hx, highE, eKy, eI, zi, hMn, Value.oneCell']; (repeat' (first | (refine hK _ ?_; clear hK hkp kp K) | (with_reducible refine And.intro ?_ ?_) | omega))) | ((first | refine aG (fun h => ?_) (fun h => ?_) | refine aD (fun h => ?_) (fun h => ?_) | refine aX (fun h => ?_) (fun h => ?_)) <;> simp only [h]) | refine awp_cond_t rfl ?_ | refine awp_cond_f rfl ?_ | ((refine awp_cond rfl (fun h => ?_) (fun h => ?_) <;> try simp only [ifs] at h) <;> (try (exfalso; omega))) | refine awp_ret ?_))
        ((first | (refine nextB (k + 1) ?_ ?_ ?_) | (refine nextA (k + 1) ?_ ?_ ?_) | (refine nextE (k + 1) ?_ ?_ ?_)); rotate_left; (· (try dsimp only); (first | omega | (simp only [List.length_drop, List.length_cons, List.length_append]; omega) | (simp; done) | (simp; omega))); (· (refine emb [0, 1, 2, 3, 9, 11, 13, 7] ?_ ?_ rfl ?_ ?_ ?_ ?_ <;> simp [okM, okO, lk, ren, renL, renNd, by_, hE, hNk, hlo, hl, nums, eNt, lowE, highE, eKy, List.map_append, List.take_of_length_le] <;> (try omega) <;> (try (intro i hi; first | (rcases i with _ | _ | i; rfl; rfl; (exfalso; omega)) | (rcases i with _ | _ | _ | i; rfl; rfl; rfl; (exfalso; omega)) | (rcases i with _ | _ | _ | _ | i; rfl; rfl; rfl; rfl; (exfalso; omega)) | (rcases i with _ | _ | _ | _ | _ | i; rfl; rfl; rfl; rfl; rfl; (exfalso; omega)) | (rcases i with _ | _ | _ | _ | _ | _ | i; rfl; rfl; rfl; rfl; rfl; rfl; (exfalso; omega)))))))
        omega
    · have zk : ((k : Int) < (p.kids.length : Int)) = False := eq_false (by omega)
      have hall3 : N ++ (kidsT ps x).take k = N ++ kidsT ps x := by rw [List.take_of_length_le (by omega)]
      rw [hall3]
      (repeat' (first | refine awp_seq ?_ | refine awp_block ?_ | refine awp_skip ?_ | refine awp_exit ?_ | ((first | refine rR (fun K kp hK hkp => ?_) | refine rD (id := 6) mixed 9 [0,1,2,3,4,5,6,7,8] (fun K kp hK hkp => ?_) | refine rD (id := 22) mixed 9 [0,1,2,3,4,5,6,7,8] (fun K kp hK hkp => ?_) | refine rD (id := 26) mixed 27 [0,1,2,3,4,5,6,7,8,9,10,11,12,13,14,15,16,17,18,19,20,21,22,23,24,25,26] (fun K kp hK hkp => ?_) | refine rD (id := 28) mixed 15 [0,1,2,3,4,5,6,7,8,9,10,11,12,13,14] (fun K kp hK hkp => ?_) | refine iG ?_ | refine iD ?_); simp (implicitDefEqProofs := false) (maxSteps := 2000000) (disch := omega) only [go_sem, zk, hl, eP]; (repeat' (first | (refine hK _ ?_; clear hK hkp kp K) | (with_reducible refine And.intro ?_ ?_) | omega))) | ((first | refine aG (fun h => ?_) (fun h => ?_) | refine aD (fun h => ?_) (fun h => ?_) | refine aX (fun h => ?_) (fun h => ?_)) <;> simp only [h]) | refine awp_cond_t rfl ?_ | refine awp_cond_f rfl ?_ | ((refine awp_cond rfl (fun h => ?_) (fun h => ?_) <;> try simp only [ifs] at h) <;> (try (exfalso; omega))) | refine awp_ret ?_))
      all_goals ((first | (refine nextB (i + 1) ?_ ?_ ?_) | (refine nextA (i + 1) ?_ ?_ ?_) | (refine nextE (i + 1) ?_ ?_ ?_)); rotate_left; (· (try dsimp only); (first | omega | (simp only [List.length_drop, List.length_cons, List.length_append]; omega) | (simp; done) | (simp; omega))); (· (refine emb [0, 1, 2, 3, 4, 5, 6] ?_ ?_ rfl ?_ ?_ ?_ ?_ <;> simp [okM, okO, lk, ren, renL, renNd, by_, hE, hNx] <;> (try omega) <;> (try (intro i hi; first | (rcases i with _ | _ | i; rfl; rfl; (exfalso; omega)) | (rcases i with _ | _ | _ | i; rfl; rfl; rfl; (exfalso; omega)) | (rcases i with _ | _ | _ | _ | i; rfl; rfl; rfl; rfl; (exfalso; omega)) | (rcases i with _ | _ | _ | _ | _ | i; rfl; rfl; rfl; rfl; rfl; (exfalso; omega)) | (rcases i with _ | _ | _ | _ | _ | _ | i; rfl; rfl; rfl; rfl; rfl; rfl; (exfalso; omega)))))))
      all_goals exact ⟨by omega, hdn1⟩
  · obtain rfl : i = L.length := by omega
    have hall2 : allOK ps L := fun j x hx => hdone j x (List.getElem?_eq_some_iff.1 hx).1 hx
    rw [if_pos hall2] at hBf
    rw [List.take_length]
    have hNl2 := hNl L.length
    rw [List.take_length] at hNl2
    (repeat' (first | refine awp_seq ?_ | refine awp_block ?_ | refine awp_skip ?_ | refine awp_exit ?_ | ((first | refine rR (fun K kp hK hkp => ?_) | refine rD (id := 6) mixed 9 [0,1,2,3,4,5,6,7,8] (fun K kp hK hkp => ?_) | refine rD (id := 22) mixed 9 [0,1,2,3,4,5,6,7,8] (fun K kp hK hkp => ?_) | refine rD (id := 26) mixed 27 [0,1,2,3,4,5,6,7,8,9,10,11,12,13,14,15,16,17,18,19,20,21,22,23,24,25,26] (fun K kp hK hkp => ?_) | refine rD (id := 28) mixed 15 [0,1,2,3,4,5,6,7,8,9,10,11,12,13,14] (fun K kp hK hkp => ?_) | refine iG ?_ | refine iD ?_); simp (implicitDefEqProofs := false) (maxSteps := 2000000) (disch := omega) only [go_sem]; (repeat' (first | (refine hK _ ?_; clear hK hkp kp K) | (with_reducible refine And.intro ?_ ?_) | omega))) | ((first | refine aG (fun h => ?_) (fun h => ?_) | refine aD (fun h => ?_) (fun h => ?_) | refine aX (fun h => ?_) (fun h => ?_)) <;> simp only [h]) | refine awp_cond_t rfl ?_ | refine awp_cond_f rfl ?_ | ((refine awp_cond rfl (fun h => ?_) (fun h => ?_) <;> try simp only [ifs] at h) <;> (try (exfalso; omega))) | refine awp_ret ?_))
    ((first | (refine nextB ((L.flatMap (kidsT ps), met + L.length, f)) ?_ ?_ ?_) | (refine nextA ((L.flatMap (kidsT ps), met + L.length, f)) ?_ ?_ ?_) | (refine nextE ((L.flatMap (kidsT ps), met + L.length, f)) ?_ ?_ ?_)); rotate_left; (· (try dsimp only); (first | omega | (simp only [List.length_drop, List.length_cons, List.length_append]; omega) | (simp; done) | (simp; omega))); (· (refine emb [0, 4, 5, 6] ?_ ?_ rfl ?_ ?_ ?_ ?_ <;> simp [okM, okO, lk, ren, renL, renNd, by_, hE] <;> (try omega) <;> (try (intro i hi; first | (rcases i with _ | _ | i; rfl; rfl; (exfalso; omega)) | (rcases i with _ | _ | _ | i; rfl; rfl; rfl; (exfalso; omega)) | (rcases i with _ | _ | _ | _ | i; rfl; rfl; rfl; rfl; (exfalso; omega)) | (rcases i with _ | _ | _ | _ | _ | i; rfl; rfl; rfl; rfl; rfl; (exfalso; omega)) | (rcases i with _ | _ | _ | _ | _ | _ | i; rfl; rfl; rfl; rfl; rfl; rfl; (exfalso; omega)))))))
    dsimp only
    refine ⟨fun x hx => ?_, by omega, by omega, by omega, hBf⟩
    obtain ⟨y, hy, hx⟩ := List.mem_flatMap.1 hx
    obtain ⟨j, hj⟩ := List.mem_iff_getElem?.1 hx
    rw [kidsT, List.getElem?_mapIdx, Option.map_eq_some_iff] at hj
    obtain ⟨kid, hkid, rfl⟩ := hj
    exact hin y.1 kid (List.mem_of_getElem? hkid)
end Go.AM
/- Trees: both sides ask the same. -/
namespace Go.AM
open Go Go.RowKit
theorem one_pre (ps : List PG) (d i : Nat) : (pre ps d i).Perm (cat ps d [i]) := by
  have := cat_pre ps d [i]
  simpa using this
theorem rows_lvl {ps : List PG} {d i : Nat} {low high : Ky} {r : Int × WS} (W : WalkOK ps d i 0 low high ⟨[], []⟩ r) {m : Nat} {l : List Nat} (h : r.2.rows[m]? = some l) : l = lvl ps m [i] := by
  have h1 := W.rows m
  rw [List.getD_eq_getElem?_getD, h] at h1
  simpa using h1
theorem chk_of_tree {ps : List PG} {root : Int} {d : Nat} (n1 : 1 ≤ ps.length) (n2 : ps.length ≤ 4000) (r0 : 0 ≤ root) (r1 : root < ps.length) (hp : ∀ (i : Nat) (p : PG), ps[i]? = some p → PageOK p ps.length) (T : TreeOK ps root.toNat d) : ChkOK ps root := by
  have hpm := one_pre ps d root.toNat
  have hd := pre_deep (kids_ne hp) d root.toNat [] [] T.good
  rw [hpm.length_eq, T.all] at hd
  have h0 := walk_full (kids_ne hp) (ps.length + 1) d root.toNat [] [] 0 ⟨[], []⟩ (Nat.le_refl _) (by omega) T.good (by simpa using hpm.symm.nodup T.once)
  obtain ⟨d', W⟩ := walk_sound (kids_ne hp) (ps.length + 1) root.toNat [] [] 0 ⟨[], []⟩ (Nat.le_refl _) List.nodup_nil h0
  obtain rfl := good_deep (kids_ne hp) d root.toNat _ _ _ _ d' T.good W.good
  refine ⟨n1, n2, r0, r1, hp, h0, ?_, fun l hl => ?_⟩
  · rw [W.met, List.nil_append, hpm.length_eq, T.all]
  · obtain ⟨m, hm⟩ := List.mem_iff_getElem?.1 hl
    have hlt := (List.getElem?_eq_some_iff.1 hm).1
    rw [W.len] at hlt
    rw [rows_lvl W hm]
    exact T.chains m (by simp at hlt; omega)
theorem tree_of_chk {ps : List PG} {root : Int} (h : ChkOK ps root) : ∃ d, TreeOK ps root.toNat d := by
  obtain ⟨d, W⟩ := walk_sound (kids_ne h.pg) (ps.length + 1) root.toNat [] [] 0 ⟨[], []⟩ (Nat.le_refl _) List.nodup_nil h.wk
  have hpm := one_pre ps d root.toNat
  refine ⟨d, W.good, fun j hj => ?_, hpm.nodup (by simpa using W.nodup), ?_⟩
  · have hl : j < (walkF ps (ps.length + 1) root.toNat [] [] 0 ⟨[], []⟩).2.rows.length := by rw [W.len]; simp; omega
    have hm := List.getElem?_eq_getElem hl
    have := h.ch _ (List.mem_of_getElem? hm)
    rw [rows_lvl W hm] at this
    exact this
  · rw [← hpm.length_eq, ← h.mt, W.met, List.nil_append]
theorem flt_of_tree {ps : List PG} {root : Int} {d : Nat} (n1 : 1 ≤ ps.length) (n2 : ps.length ≤ 4000) (r0 : 0 ≤ root) (r1 : root < ps.length) (hp : ∀ (i : Nat) (p : PG), ps[i]? = some p → PageOK p ps.length) (T : TreeOK ps root.toNat d) : FltOK ps root := by
  have hpm := one_pre ps d root.toNat
  have hd := pre_deep (kids_ne hp) d root.toNat [] [] T.good
  rw [hpm.length_eq, T.all] at hd
  refine ⟨n1, n2, r0, r1, hp, ?_, ?_⟩
  · refine bfs_full (kids_ne hp) (ps.length + 2) d _ 0 (by simp) (by omega) (fun x hx => ?_) T.chains (by show 0 + (cat ps d [root.toNat]).length = _; rw [T.all]; omega)
    obtain rfl := List.mem_singleton.1 hx
    exact T.good
  · exact refs_of_once (kids_in hp) (by omega) (good_over T.good (d + 1) (by omega)) T.once T.all
theorem tree_of_flt {ps : List PG} {root : Int} (h : FltOK ps root) : ∃ d, TreeOK ps root.toNat d := by
  obtain ⟨d, g, c, s⟩ := bfs_sound (kids_ne h.pg) (ps.length + 2) [(root.toNat, [], [])] 0 (by simp) h.bf
  have hr : root.toNat < ps.length := by have := h.r0; have := h.r1; omega
  exact ⟨d, g _ (List.mem_singleton.2 rfl), c, once_of_refs (kids_in h.pg) hr h.on d, by have s' : 0 + (cat ps d [root.toNat]).length = ps.length := s; omega⟩
theorem chk_flt (ps : List PG) (root : Int) : chkR ps root = fltR ps root := by
  by_cases h : ChkOK ps root
  · obtain ⟨d, T⟩ := tree_of_chk h
    rw [chkR_t h, fltR_t (flt_of_tree h.n1 h.n2 h.r0 h.r1 h.pg T)]
  · have h2 : ¬ FltOK ps root := fun h' => by
      obtain ⟨d, T⟩ := tree_of_flt h'
      exact h (chk_of_tree h'.n1 h'.n2 h'.r0 h'.r1 h'.pg T)
    rw [chkR_f h, fltR_f h2]
end Go.AM
/- Trees: plain law: where a key stands. -/
namespace Go.AM
/-- How many keys at the beginning stand below one. -/
def lowB (k : Ky) : List Ky → Nat
  | [] => 0
  | x :: r => if ltK x k = true then lowB k r + 1 else 0
theorem lowB_le (k : Ky) : ∀ l, lowB k l ≤ l.length
  | [] => Nat.le_refl _
  | x :: r => by
    have := lowB_le k r
    rw [lowB]; split <;> simp <;> omega
theorem lowB_lt (k : Ky) : ∀ (l : List Ky) (m : Nat) (x : Ky), m < lowB k l → l[m]? = some x → ltK x k = true
  | [], m, x, h, hx => by simp at hx
  | y :: r, 0, x, h, hx => by
    rw [lowB] at h
    split at h
    · rename_i hy; cases hx; exact hy
    · omega
  | y :: r, m + 1, x, h, hx => by
    rw [lowB] at h
    split at h
    · exact lowB_lt k r m x (by omega) hx
    · omega
theorem lowB_at (k : Ky) : ∀ (l : List Ky) (x : Ky), l[lowB k l]? = some x → ltK x k = false
  | [], x, hx => by simp at hx
  | y :: r, x, hx => by
    rw [lowB] at hx
    split at hx
    · exact lowB_at k r x (by simpa using hx)
    · rename_i hy; simp at hx; subst hx; simpa using hy
theorem lowB_eq (k : Ky) {l : List Ky} {i : Nat} (hi : i ≤ l.length) (h1 : ∀ (m : Nat) (x : Ky), m < i → l[m]? = some x → ltK x k = true) (h2 : ∀ x, l[i]? = some x → ltK x k = false) : i = lowB k l := by
  have hle := lowB_le k l
  rcases Nat.lt_trichotomy i (lowB k l) with h | h | h
  · have hx := List.getElem?_eq_getElem (l := l) (i := i) (by omega)
    have := lowB_lt k l i _ h hx
    rw [h2 _ hx] at this; cases this
  · exact h
  · have hx := List.getElem?_eq_getElem (l := l) (i := lowB k l) (by omega)
    have := lowB_at k l _ hx
    rw [h1 _ _ h hx] at this; cases this
/-- Keys in order. -/
def SrtK (l : List Ky) : Prop := ∀ (i j : Nat) (x y : Ky), i < j → l[i]? = some x → l[j]? = some y → ltK x y = true
theorem srt_of_next {l : List Ky} (h : ∀ (i : Nat) (x y : Ky), l[i]? = some x → l[i + 1]? = some y → ltK x y = true) : SrtK l := by
  intro i j x y hij hx hy
  induction j generalizing y with
  | zero => omega
  | succ j ih =>
    have hj : j < l.length := by have := (List.getElem?_eq_some_iff.1 hy).1; omega
    have hz := List.getElem?_eq_getElem hj
    have h1 := h j _ y hz hy
    by_cases he : i = j
    · subst he; rw [hx] at hz; cases hz; exact h1
    · exact ltK_trans (ih _ (by omega) hz) h1
theorem srt_page {p : PG} {n : Nat} (h : PageOK p n) : SrtK p.keys := srt_of_next fun i x y hx hy => by
  have hl := (List.getElem?_eq_some_iff.1 hy).1
  have := (h.ks (i + 1) hl).2.1 (by omega)
  rw [Nat.add_sub_cancel, List.getD_eq_getElem?_getD, List.getD_eq_getElem?_getD, hx, hy] at this
  exact this
theorem high_page {p : PG} {n : Nat} (h : PageOK p n) {x : Ky} (hx : x ∈ p.keys) (hh : p.high ≠ []) : ltK x p.high = true := by
  obtain ⟨i, hi⟩ := List.mem_iff_getElem?.1 hx
  have := (h.ks i (List.getElem?_eq_some_iff.1 hi).1).2.2 (List.length_pos_iff.2 hh)
  rwa [List.getD_eq_getElem?_getD, hi] at this
theorem key_page {p : PG} {n : Nat} (h : PageOK p n) {x : Ky} (hx : x ∈ p.keys) : x ≠ [] := by
  obtain ⟨i, hi⟩ := List.mem_iff_getElem?.1 hx
  have := (h.ks i (List.getElem?_eq_some_iff.1 hi).1).1
  rw [List.getD_eq_getElem?_getD, hi] at this
  rintro rfl
  simp [keyB] at this
theorem low_nil (x : Ky) : ltK x [] = false := by cases x <;> rfl
/-- The place of a key in a page. -/
def placeM (p : PG) (k : Ky) : Nat := if p.leaf = false ∧ p.keys[lowB k p.keys]? = some k then lowB k p.keys + 1 else lowB k p.keys
def kidM (ps : List PG) (k : Ky) (i : Nat) : Nat := ((pg ps i).kids.getD (placeM (pg ps i) k) 0).toNat
def leafF (ps : List PG) (k : Ky) : Nat → Nat → Nat
  | 0, i => i
  | d + 1, i => leafF ps k d (kidM ps k i)
def pathF (ps : List PG) (k : Ky) : Nat → Nat → List Nat
  | 0, i => [i]
  | d + 1, i => i :: pathF ps k d (kidM ps k i)
theorem place_le (p : PG) (k : Ky) : placeM p k ≤ p.keys.length := by
  have := lowB_le k p.keys
  unfold placeM
  split
  · rename_i h
    have := (List.getElem?_eq_some_iff.1 h.2).1
    omega
  · exact this
/-- Keys ahead of an inner place are not above. -/
theorem place_lo {p : PG} {n : Nat} (h : PageOK p n) (hl : p.leaf = false) (k : Ky) {m : Nat} {x : Ky} (hm : m < placeM p k) (hx : p.keys[m]? = some x) : ltK k x = false := by
  unfold placeM at hm
  split at hm
  · rename_i hc
    by_cases he : m = lowB k p.keys
    · subst he; rw [hx] at hc; cases hc.2; exact ltK_irrefl _
    · exact ltK_asymm (lowB_lt k _ m x (by omega) hx)
  · exact ltK_asymm (lowB_lt k _ m x hm hx)
/-- Keys from an inner place on are above. -/
theorem place_hi {p : PG} {n : Nat} (h : PageOK p n) (hl : p.leaf = false) (k : Ky) {m : Nat} {x : Ky} (hm : placeM p k ≤ m) (hx : p.keys[m]? = some x) : ltK k x = true := by
  have hs := srt_page h
  have hlt := (List.getElem?_eq_some_iff.1 hx).1
  unfold placeM at hm
  split at hm
  · rename_i hc
    exact hs _ m k x (by omega) hc.2 hx
  · rename_i hc
    obtain ⟨y, hy⟩ : ∃ y, p.keys[lowB k p.keys]? = some y := ⟨_, List.getElem?_eq_getElem (by omega)⟩
    have h1 := lowB_at k _ _ hy
    have h2 : ltK k y = true := by
      cases h3 : ltK k y
      · exact absurd ⟨hl, by rw [hy, ltK_total h3 h1]⟩ hc
      · rfl
    by_cases he : m = lowB k p.keys
    · subst he; rw [hx] at hy; cases hy; exact h2
    · exact ltK_trans h2 (hs _ m _ x (by omega) hy hx)
section
variable {ps : List PG}
abbrev AllOK (ps : List PG) : Prop := ∀ (i : Nat) (p : PG), ps[i]? = some p → PageOK p ps.length
theorem pg_some {i : Nat} {p : PG} (h : ps[i]? = some p) : pg ps i = p := by rw [pg, List.getD_eq_getElem?_getD, h]; rfl
theorem pg_in {i : Nat} (hl : i < ps.length) : ps[i]? = some (pg ps i) := by rw [pg, List.getD_eq_getElem?_getD, List.getElem?_eq_getElem hl]; rfl
theorem ok_in (hp : AllOK ps) {i : Nat} (h : i < ps.length) : PageOK (pg ps i) ps.length := hp i _ (pg_in h)
theorem ok_inner (hp : AllOK ps) {i : Nat} (h : (pg ps i).leaf = false) : PageOK (pg ps i) ps.length := by
  cases hi : ps[i]? with
  | none =>
    have : pg ps i = default := by rw [pg, List.getD_eq_getElem?_getD, hi]; rfl
    rw [this] at h; cases h
  | some p => rw [pg_some hi]; exact hp i p hi
theorem kids_len (hp : AllOK ps) {i : Nat} (h : (pg ps i).leaf = false) : (kidsOf ps i).length = (pg ps i).keys.length + 1 := by
  rw [kidsOf, if_neg (by simp [h]), List.length_map, (ok_inner hp h).ki h]
theorem kid_at (hp : AllOK ps) {i : Nat} (h : (pg ps i).leaf = false) (k : Ky) : (kidsOf ps i)[placeM (pg ps i) k]? = some (kidM ps k i) := by
  have h1 := (ok_inner hp h).ki h
  have h2 := place_le (pg ps i) k
  rw [kidsOf, if_neg (by simp [h]), List.getElem?_map, List.getElem?_eq_getElem (by omega), kidM, List.getD_eq_getElem?_getD, List.getElem?_eq_getElem (by omega)]; rfl
/-- What stands in leaves below a page, by its bounds. -/
theorem leaves_bound (hp : AllOK ps) : ∀ (d i : Nat) (low high : Ky), Good ps d i low high → ∀ x ∈ lvl ps d [i], ∀ e ∈ (pg ps x).keys, ltK e low = false ∧ (high = [] ∨ ltK e high = true)
  | 0, i, low, high, h, x, hx, e, he => by
    simp only [lvl, List.mem_singleton] at hx
    subst hx
    by_cases hin : x < ps.length
    · have hk := ok_in hp hin
      refine ⟨?_, ?_⟩
      · have h1 := h.2.2
        obtain ⟨j, hj⟩ := List.mem_iff_getElem?.1 he
        have hs := srt_page hk
        cases hks : (pg ps x).keys with
        | nil => rw [hks] at he; cases he
        | cons y r =>
          rw [firstLow, hks] at h1
          have h1 : ltK y low = false := by simpa using h1
          by_cases hj0 : j = 0
          · subst hj0; rw [hks] at hj; cases hj; exact h1
          · have h2 := hs 0 j y e (by omega) (by rw [hks]; rfl) hj
            cases h3 : ltK e low
            · rfl
            · rw [ltK_trans h2 h3] at h1; cases h1
      · by_cases hh : high = []
        · exact .inl hh
        · right
          have := high_page hk he (by rw [h.2.1]; exact hh)
          rwa [h.2.1] at this
    · have : pg ps x = default := by rw [pg, List.getD_eq_getElem?_getD, List.getElem?_eq_none (by omega)]; rfl
      rw [this] at he; cases he
  | d + 1, i, low, high, h, x, hx, e, he => by
    obtain ⟨h1, h2, h3, h4⟩ := h
    have hk := ok_inner hp h1
    have hs := srt_page hk
    have hx' : ∃ kid ∈ kidsOf ps i, x ∈ lvl ps d [kid] := by
      rw [lvl_one] at hx
      clear h4
      generalize kidsOf ps i = l at hx
      induction l with
      | nil => rw [lvl_nil] at hx; cases hx
      | cons y r ih =>
        rw [show y :: r = [y] ++ r from rfl, lvl_append] at hx
        rcases List.mem_append.1 hx with hx | hx
        · exact ⟨y, by simp, hx⟩
        · obtain ⟨kid, hk, hx⟩ := ih hx
          exact ⟨kid, by simp [hk], hx⟩
    obtain ⟨kid, hkid, hx⟩ := hx'
    obtain ⟨m, hm⟩ := List.mem_iff_getElem?.1 hkid
    have hml := (List.getElem?_eq_some_iff.1 hm).1
    rw [kids_len hp h1] at hml
    obtain ⟨b1, b2⟩ := leaves_bound hp d kid _ _ (h4 m kid hm) x hx e he
    refine ⟨?_, ?_⟩
    · unfold loP at b1
      split at b1
      · exact b1
      · rename_i hm0
        obtain ⟨y, hy⟩ : ∃ y, (pg ps i).keys[m - 1]? = some y := ⟨_, List.getElem?_eq_getElem (by omega)⟩
        rw [List.getD_eq_getElem?_getD, hy] at b1
        have b1 : ltK e y = false := b1
        cases h5 : ltK e low
        · rfl
        · have h6 : ltK y low = false := by
            obtain ⟨z, hz⟩ : ∃ z, (pg ps i).keys[0]? = some z := ⟨_, List.getElem?_eq_getElem (by omega)⟩
            have h3 : ltK z low = false := by
              rw [firstLow] at h3
              cases hks : (pg ps i).keys with
              | nil => rw [hks] at hz; cases hz
              | cons z' r => rw [hks] at h3 hz; cases hz; simpa using h3
            by_cases hm1 : m - 1 = 0
            · rw [hm1, hz] at hy; cases hy; exact h3
            · have h7 := hs 0 (m - 1) z y (by omega) hz hy
              cases h8 : ltK y low
              · rfl
              · rw [ltK_trans h7 h8] at h3; cases h3
          rw [ltK_of_lt_le h5 h6] at b1; cases b1
    · unfold hiP at b2
      split at b2
      · rename_i hm0
        have hy := List.getElem?_eq_getElem hm0
        rw [List.getD_eq_getElem?_getD, hy] at b2
        have hne : (pg ps i).keys[m] ≠ [] := key_page hk (List.getElem_mem hm0)
        have b2 : ltK e (pg ps i).keys[m] = true := by
          rcases b2 with b2 | b2
          · exact absurd b2 hne
          · exact b2
        by_cases hh : high = []
        · exact .inl hh
        · right
          have := high_page hk (List.getElem_mem hm0) (by rw [h2]; exact hh)
          rw [h2] at this
          exact ltK_trans b2 this
      · exact b2
theorem lvl_split (d : Nat) {l : List Nat} {j x : Nat} (h : l[j]? = some x) : lvl ps d l = lvl ps d (l.take j) ++ (lvl ps d [x] ++ lvl ps d (l.drop (j + 1))) := by
  have hl := (List.getElem?_eq_some_iff.1 h)
  rw [← lvl_append, ← lvl_append]
  congr 1
  obtain ⟨hl, rfl⟩ := hl
  rw [List.singleton_append, List.getElem_cons_drop, List.take_append_drop]
theorem lvl_mem (d : Nat) {l : List Nat} {x : Nat} (h : x ∈ lvl ps d l) : ∃ (m kid : Nat), l[m]? = some kid ∧ x ∈ lvl ps d [kid] := by
  induction l with
  | nil => rw [lvl_nil] at h; cases h
  | cons y r ih =>
    rw [show y :: r = [y] ++ r from rfl, lvl_append] at h
    rcases List.mem_append.1 h with h | h
    · exact ⟨0, y, rfl, h⟩
    · obtain ⟨m, kid, h1, h2⟩ := ih h
      exact ⟨m + 1, kid, by simpa using h1, h2⟩
/-- The leaf of a key parts the leaves: those ahead of it hold keys below, those behind it keys above. -/
theorem leaf_split (hp : AllOK ps) (k : Ky) : ∀ (d i : Nat) (low high : Ky), Good ps d i low high → (high = [] ∨ ltK k high = true) →
    ∃ A B, lvl ps d [i] = A ++ leafF ps k d i :: B ∧ (∀ x ∈ A, ∀ e ∈ (pg ps x).keys, ltK e k = true) ∧ (∀ x ∈ B, ∀ e ∈ (pg ps x).keys, ltK k e = true) ∧ ∃ lo hi, Good ps 0 (leafF ps k d i) lo hi ∧ (hi = [] ∨ ltK k hi = true)
  | 0, i, low, high, h, hk => ⟨[], [], rfl, (fun x hx => by cases hx), (fun x hx => by cases hx), low, high, h, hk⟩
  | d + 1, i, low, high, h, hk => by
    obtain ⟨h1, h2, h3, h4⟩ := h
    have hq := ok_inner hp h1
    have ha := kid_at hp h1 k
    have hb := h4 _ _ ha
    have hkk : hiP (pg ps i) (placeM (pg ps i) k) high = [] ∨ ltK k (hiP (pg ps i) (placeM (pg ps i) k) high) = true := by
      unfold hiP
      split
      · rename_i hl
        have hy := List.getElem?_eq_getElem hl
        right
        rw [List.getD_eq_getElem?_getD, hy]
        exact place_hi hq h1 k (Nat.le_refl _) hy
      · exact hk
    obtain ⟨A, B, e, hA, hB, hg⟩ := leaf_split hp k d (kidM ps k i) _ _ hb hkk
    refine ⟨lvl ps d ((kidsOf ps i).take (placeM (pg ps i) k)) ++ A, B ++ lvl ps d ((kidsOf ps i).drop (placeM (pg ps i) k + 1)), ?_, ?_, ?_, hg⟩
    · rw [lvl_one, lvl_split d ha, e, leafF]; simp
    · intro x hx y hy
      rcases List.mem_append.1 hx with hx | hx
      · obtain ⟨m, kid, hm, hx⟩ := lvl_mem d hx
        have hmlt : m < placeM (pg ps i) k := by
          have := (List.getElem?_eq_some_iff.1 hm).1
          rw [List.length_take] at this; omega
        rw [List.getElem?_take_of_lt hmlt] at hm
        have hb := (leaves_bound hp d kid _ _ (h4 m kid hm) x hx y hy).2
        have hpl := place_le (pg ps i) k
        unfold hiP at hb
        rw [if_pos (by omega)] at hb
        have hz := List.getElem?_eq_getElem (l := (pg ps i).keys) (i := m) (by omega)
        rw [List.getD_eq_getElem?_getD, hz] at hb
        rcases hb with hb | hb
        · exact absurd hb (key_page hq (List.getElem_mem (by omega)))
        · exact ltK_of_lt_le hb (place_lo hq h1 k hmlt hz)
      · exact hA x hx y hy
    · intro x hx y hy
      rcases List.mem_append.1 hx with hx | hx
      · exact hB x hx y hy
      · obtain ⟨m, kid, hm, hx⟩ := lvl_mem d hx
        rw [List.getElem?_drop] at hm
        have hml := (List.getElem?_eq_some_iff.1 hm).1
        rw [kids_len hp h1] at hml
        have hb := (leaves_bound hp d kid _ _ (h4 _ kid hm) x hx y hy).1
        unfold loP at hb
        rw [if_neg (by omega)] at hb
        have hz := List.getElem?_eq_getElem (l := (pg ps i).keys) (i := placeM (pg ps i) k + 1 + m - 1) (by omega)
        rw [List.getD_eq_getElem?_getD, hz] at hb
        have h5 := place_hi hq h1 k (m := placeM (pg ps i) k + 1 + m - 1) (by omega) hz
        exact ltK_of_lt_le h5 hb
end
end Go.AM
/- Trees: slices.BinarySearchFunc over keys; the place of a key in a page. -/
namespace Go.AM
open Go Go.RowKit
attribute [local irreducible] AWP retA
theorem half_of (i j : Nat) (h : i + j ≤ 1048576) : IntKind.i64.wrap (shrI .u64 (IntKind.u64.wrap ((i : Int) + (j : Int))) 1) = ((i + j) / 2 : Nat) := by
  have h1 : IntKind.u64.wrap ((i : Int) + (j : Int)) = ((i + j : Nat) : Int) := by
    simp [IntKind.wrap, IntKind.bits, IntKind.signed]; omega
  rw [h1]
  have h2 : shrI .u64 ((i + j : Nat) : Int) 1 = (((i + j) / 2 : Nat) : Int) := by
    unfold shrI
    rw [show (2 : Int) ^ (min (1 : Int).toNat IntKind.u64.bits) = 2 from rfl, Int.fdiv_eq_ediv_of_nonneg _ (by omega)]
    omega
  rw [h2]
  simp [IntKind.wrap, IntKind.bits, IntKind.signed]; omega
set_option maxRecDepth 100000 in
set_option maxHeartbeats 4000000 in
theorem search_con (G : List (Nat × List Value)) (t u : Bool) (l : List Ky) (k : Ky) (hs : SrtK l) (hl : l.length ≤ 4) : Con Go.Proofs.Try.prog G 59 [.ro t 1 (l.map eKy), .ro u 1 (k.map eByte), .fn 40 []] [] 0 (Is (.tup [.r (.int .i64 (lowB k l)), .r (.bool (decide (l[lowB k l]? = some k)))]) [] 0) No := by
  refine con_of_awp Go.Proofs.Try.func59 rfl (by kernel_rfl) (of_decide_eq_true (by kernel_rfl)) ?_; intro E hG hE; subst hG; simp only [ent]
  (repeat' (first | refine awp_seq ?_ | refine awp_block ?_ | refine awp_skip ?_ | refine awp_exit ?_ | ((first | refine rR (fun K kp hK hkp => ?_) | refine iG ?_); simp (implicitDefEqProofs := false) (maxSteps := 2000000) (disch := omega) only [go_sem]; (repeat' (first | (refine hK _ ?_; clear hK hkp kp K) | (with_reducible refine And.intro ?_ ?_) | omega))) | ((first | refine aG (fun h => ?_) (fun h => ?_) | refine aD (fun h => ?_) (fun h => ?_) | refine aX (fun h => ?_) (fun h => ?_)) <;> simp only [h]) | refine awp_cond_t rfl ?_ | refine awp_cond_f rfl ?_ | ((refine awp_cond rfl (fun h => ?_) (fun h => ?_) <;> try simp only [ifs] at h) <;> (try (exfalso; omega))) | refine awp_ret ?_))
  refine awp_loop (fun q : Nat × Nat => ⟨[(10, .r (.int .i64 q.2)), (9, .r (.int .i64 q.1)), (8, .r (.int .i64 l.length)), (0, .ro t 1 (l.map eKy)), (1, .ro u 1 (k.map eByte)), (2, .fn 40 [])], [], 0⟩)
    (fun q => q.1 ≤ q.2 ∧ q.2 ≤ l.length ∧ (∀ (m : Nat) (x : Ky), m < q.1 → l[m]? = some x → ltK x k = true) ∧ (∀ (m : Nat) (x : Ky), q.2 ≤ m → l[m]? = some x → ltK x k = false)) (fun q => q.2 - q.1) (0, l.length) ?_ ?_ ?_
  · exact ⟨Nat.zero_le _, Nat.le_refl _, fun m x hm => by omega, fun m x hm hx => by have := (List.getElem?_eq_some_iff.1 hx).1; simp only at hm; omega⟩
  · (refine emb [] ?_ ?_ rfl ?_ ?_ ?_ ?_ <;> simp [okM, okO, lk, ren, renL, renNd, by_, hE] <;> (try omega) <;> (try (intro i hi; first | (rcases i with _ | _ | i; rfl; rfl; (exfalso; omega)) | (rcases i with _ | _ | _ | i; rfl; rfl; rfl; (exfalso; omega)) | (rcases i with _ | _ | _ | _ | i; rfl; rfl; rfl; rfl; (exfalso; omega)) | (rcases i with _ | _ | _ | _ | _ | i; rfl; rfl; rfl; rfl; rfl; (exfalso; omega)) | (rcases i with _ | _ | _ | _ | _ | _ | i; rfl; rfl; rfl; rfl; rfl; rfl; (exfalso; omega)))))
  rintro ⟨i, j⟩ ⟨h1, h2, h3, h4⟩
  simp only at h1 h2 h3 h4
  by_cases hij : i < j
  · have zi : ((i : Int) < (j : Int)) = True := eq_true (by omega)
    have hh := half_of i j (by omega)
    obtain ⟨x, hx⟩ : ∃ x, l[(i + j) / 2]? = some x := ⟨_, List.getElem?_eq_getElem (by omega)⟩
    (repeat' (first | refine awp_seq ?_ | refine awp_block ?_ | refine awp_skip ?_ | refine awp_exit ?_ | ((first | refine rR (fun K kp hK hkp => ?_) | refine cR (bcmp_con _ _ _ _ _) ?_ | refine iG ?_); simp (implicitDefEqProofs := false) (maxSteps := 2000000) (disch := omega) only [go_sem, zi, hh, hx, eKy, cmp_lt0]; (repeat' (first | (refine hK _ ?_; clear hK hkp kp K) | (with_reducible refine And.intro ?_ ?_) | omega))) | ((first | refine aG (fun h => ?_) (fun h => ?_) | refine aD (fun h => ?_) (fun h => ?_) | refine aX (fun h => ?_) (fun h => ?_)) <;> simp only [h]) | refine awp_cond_t rfl ?_ | refine awp_cond_f rfl ?_ | ((refine awp_cond rfl (fun h => ?_) (fun h => ?_) <;> try simp only [ifs] at h) <;> (try (exfalso; omega))) | refine awp_ret ?_))
    · ((first | (refine nextB ((((i + j) / 2 + 1, j) : Nat × Nat)) ?_ ?_ ?_) | (refine nextA ((((i + j) / 2 + 1, j) : Nat × Nat)) ?_ ?_ ?_) | (refine nextE ((((i + j) / 2 + 1, j) : Nat × Nat)) ?_ ?_ ?_)); rotate_left; (· (try dsimp only); (first | omega | (simp only [List.length_drop, List.length_cons, List.length_append]; omega) | (simp; done) | (simp; omega))); (· (refine emb [] ?_ ?_ rfl ?_ ?_ ?_ ?_ <;> simp [okM, okO, lk, ren, renL, renNd, by_, hE] <;> (try omega) <;> (try (intro i hi; first | (rcases i with _ | _ | i; rfl; rfl; (exfalso; omega)) | (rcases i with _ | _ | _ | i; rfl; rfl; rfl; (exfalso; omega)) | (rcases i with _ | _ | _ | _ | i; rfl; rfl; rfl; rfl; (exfalso; omega)) | (rcases i with _ | _ | _ | _ | _ | i; rfl; rfl; rfl; rfl; rfl; (exfalso; omega)) | (rcases i with _ | _ | _ | _ | _ | _ | i; rfl; rfl; rfl; rfl; rfl; rfl; (exfalso; omega)))))))
      refine ⟨by omega, by omega, fun m y hm hy => ?_, h4⟩
      by_cases he : m = (i + j) / 2
      · subst he; rw [hx] at hy; cases hy; exact h
      · exact ltK_trans (hs m _ y x (by simp only at hm; omega) hy hx) h
    · ((first | (refine nextB (((i, (i + j) / 2) : Nat × Nat)) ?_ ?_ ?_) | (refine nextA (((i, (i + j) / 2) : Nat × Nat)) ?_ ?_ ?_) | (refine nextE (((i, (i + j) / 2) : Nat × Nat)) ?_ ?_ ?_)); rotate_left; (· (try dsimp only); (first | omega | (simp only [List.length_drop, List.length_cons, List.length_append]; omega) | (simp; done) | (simp; omega))); (· (refine emb [] ?_ ?_ rfl ?_ ?_ ?_ ?_ <;> simp [okM, okO, lk, ren, renL, renNd, by_, hE] <;> (try omega) <;> (try (intro i hi; first | (rcases i with _ | _ | i; rfl; rfl; (exfalso; omega)) | (rcases i with _ | _ | _ | i; rfl; rfl; rfl; (exfalso; omega)) | (rcases i with _ | _ | _ | _ | i; rfl; rfl; rfl; rfl; (exfalso; omega)) | (rcases i with _ | _ | _ | _ | _ | i; rfl; rfl; rfl; rfl; rfl; (exfalso; omega)) | (rcases i with _ | _ | _ | _ | _ | _ | i; rfl; rfl; rfl; rfl; rfl; rfl; (exfalso; omega)))))))
      refine ⟨by simp only; omega, by simp only; omega, h3, fun m y hm hy => ?_⟩
      by_cases he : m = (i + j) / 2
      · subst he; rw [hx] at hy; cases hy; exact h
      · have h5 := hs _ m x y (by simp only at hm; omega) hx hy
        cases h6 : ltK y k
        · rfl
        · rw [ltK_trans h5 h6] at h; cases h
  · obtain rfl : i = j := by omega
    have zi : ((i : Int) < (i : Int)) = False := eq_false (by omega)
    obtain rfl : i = lowB k l := lowB_eq k h2 h3 fun x hx => h4 i x (Nat.le_refl _) hx
    generalize hi : lowB k l = i at *
    by_cases hil : i < l.length
    · have zl : ((i : Int) < (l.length : Int)) = True := eq_true (by omega)
      obtain ⟨x, hx⟩ : ∃ x, l[i]? = some x := ⟨_, List.getElem?_eq_getElem hil⟩
      have he : (Lib.compareBytes x k == 0) = decide (x = k) := by
        rw [Bool.eq_iff_iff, beq_iff_eq, cmpB_zero, decide_eq_true_eq]
      (repeat' (first | refine awp_seq ?_ | refine awp_block ?_ | refine awp_skip ?_ | refine awp_exit ?_ | ((first | refine rR (fun K kp hK hkp => ?_) | refine cR (bcmp_con _ _ _ _ _) ?_ | refine iG ?_); simp (implicitDefEqProofs := false) (maxSteps := 2000000) (disch := omega) only [go_sem, zi, zl, hx, eKy, he]; (repeat' (first | (refine hK _ ?_; clear hK hkp kp K) | (with_reducible refine And.intro ?_ ?_) | omega))) | ((first | refine aG (fun h => ?_) (fun h => ?_) | refine aD (fun h => ?_) (fun h => ?_) | refine aX (fun h => ?_) (fun h => ?_)) <;> simp only [h]) | refine awp_cond_t rfl ?_ | refine awp_cond_f rfl ?_ | ((refine awp_cond rfl (fun h => ?_) (fun h => ?_) <;> try simp only [ifs] at h) <;> (try (exfalso; omega))) | refine awp_ret ?_))
      (refine retA_is (by (simp (implicitDefEqProofs := false) (maxSteps := 2000000) (disch := omega) only [go_sem, Go.Proofs.Try.results59, hx]); rfl) ?_; refine eN hE ?_; simp [oneA, ren, renL, hx])
    · have zl : ((i : Int) < (l.length : Int)) = False := eq_false (by omega)
      have hx : l[i]? = none := List.getElem?_eq_none (by omega)
      (repeat' (first | refine awp_seq ?_ | refine awp_block ?_ | refine awp_skip ?_ | refine awp_exit ?_ | ((first | refine rR (fun K kp hK hkp => ?_) | refine cR (bcmp_con _ _ _ _ _) ?_ | refine iG ?_); simp (implicitDefEqProofs := false) (maxSteps := 2000000) (disch := omega) only [go_sem, zi, zl, hx, eKy]; (repeat' (first | (refine hK _ ?_; clear hK hkp kp K) | (with_reducible refine And.intro ?_ ?_) | omega))) | ((first | refine aG (fun h => ?_) (fun h => ?_) | refine aD (fun h => ?_) (fun h => ?_) | refine aX (fun h => ?_) (fun h => ?_)) <;> simp only [h]) | refine awp_cond_t rfl ?_ | refine awp_cond_f rfl ?_ | ((refine awp_cond rfl (fun h => ?_) (fun h => ?_) <;> try simp only [ifs] at h) <;> (try (exfalso; omega))) | refine awp_ret ?_))
      (refine retA_is (by (simp (implicitDefEqProofs := false) (maxSteps := 2000000) (disch := omega) only [go_sem, Go.Proofs.Try.results59, hx]); rfl) ?_; refine eN hE ?_; simp [oneA, ren, renL, hx])
/-- place. -/
theorem place_con (G : List (Nat × List Value)) (t : Bool) (p : PG) (k : Ky) (hs : SrtK p.keys) (hl : p.keys.length ≤ 4) : Con Go.Proofs.Try.prog G 47 [.agg (eP p), .ro t 1 (k.map eByte)] [] 0 (Is (.r (.int .i64 (placeM p k))) [] 0) No := by
  have sc := search_con G true t p.keys k hs hl
  have hb := lowB_le k p.keys
  refine con_of_awp Go.Proofs.Try.func47 rfl (by kernel_rfl) (of_decide_eq_true (by kernel_rfl)) ?_; intro E hG hE; subst hG; simp only [ent]
  cases hlf : p.leaf
  · by_cases hx : p.keys[lowB k p.keys]? = some k
    · have hp : placeM p k = lowB k p.keys + 1 := if_pos ⟨hlf, hx⟩
      rw [decide_eq_true hx] at sc
      (repeat' (first | refine awp_seq ?_ | refine awp_block ?_ | refine awp_skip ?_ | refine awp_exit ?_ | ((first | refine rR (fun K kp hK hkp => ?_) | refine cR sc ?_ | refine iG ?_); simp (implicitDefEqProofs := false) (maxSteps := 2000000) (disch := omega) only [go_sem, eP, hlf]; (repeat' (first | (refine hK _ ?_; clear hK hkp kp K) | (with_reducible refine And.intro ?_ ?_) | omega))) | ((first | refine aG (fun h => ?_) (fun h => ?_) | refine aD (fun h => ?_) (fun h => ?_) | refine aX (fun h => ?_) (fun h => ?_)) <;> simp only [h]) | refine awp_cond_t rfl ?_ | refine awp_cond_f rfl ?_ | ((refine awp_cond rfl (fun h => ?_) (fun h => ?_) <;> try simp only [ifs] at h) <;> (try (exfalso; omega))) | refine awp_ret ?_))
      (refine retA_is (by (simp (implicitDefEqProofs := false) (maxSteps := 2000000) (disch := omega) only [go_sem, Go.Proofs.Try.results47, hp]); rfl) ?_; refine eN hE ?_; simp [oneA, ren, renL, hp])
    · have hp : placeM p k = lowB k p.keys := if_neg fun h => hx h.2
      rw [decide_eq_false hx] at sc
      (repeat' (first | refine awp_seq ?_ | refine awp_block ?_ | refine awp_skip ?_ | refine awp_exit ?_ | ((first | refine rR (fun K kp hK hkp => ?_) | refine cR sc ?_ | refine iG ?_); simp (implicitDefEqProofs := false) (maxSteps := 2000000) (disch := omega) only [go_sem, eP, hlf]; (repeat' (first | (refine hK _ ?_; clear hK hkp kp K) | (with_reducible refine And.intro ?_ ?_) | omega))) | ((first | refine aG (fun h => ?_) (fun h => ?_) | refine aD (fun h => ?_) (fun h => ?_) | refine aX (fun h => ?_) (fun h => ?_)) <;> simp only [h]) | refine awp_cond_t rfl ?_ | refine awp_cond_f rfl ?_ | ((refine awp_cond rfl (fun h => ?_) (fun h => ?_) <;> try simp only [ifs] at h) <;> (try (exfalso; omega))) | refine awp_ret ?_))
      (refine retA_is (by (simp (implicitDefEqProofs := false) (maxSteps := 2000000) (disch := omega) only [go_sem, Go.Proofs.Try.results47, hp]); rfl) ?_; refine eN hE ?_; simp [oneA, ren, renL, hp])
  · have hp : placeM p k = lowB k p.keys := if_neg fun h => by rw [hlf] at h; cases h.1
    by_cases hx : p.keys[lowB k p.keys]? = some k
    · rw [decide_eq_true hx] at sc
      (repeat' (first | refine awp_seq ?_ | refine awp_block ?_ | refine awp_skip ?_ | refine awp_exit ?_ | ((first | refine rR (fun K kp hK hkp => ?_) | refine cR sc ?_ | refine iG ?_); simp (implicitDefEqProofs := false) (maxSteps := 2000000) (disch := omega) only [go_sem, eP, hlf]; (repeat' (first | (refine hK _ ?_; clear hK hkp kp K) | (with_reducible refine And.intro ?_ ?_) | omega))) | ((first | refine aG (fun h => ?_) (fun h => ?_) | refine aD (fun h => ?_) (fun h => ?_) | refine aX (fun h => ?_) (fun h => ?_)) <;> simp only [h]) | refine awp_cond_t rfl ?_ | refine awp_cond_f rfl ?_ | ((refine awp_cond rfl (fun h => ?_) (fun h => ?_) <;> try simp only [ifs] at h) <;> (try (exfalso; omega))) | refine awp_ret ?_))
      (refine retA_is (by (simp (implicitDefEqProofs := false) (maxSteps := 2000000) (disch := omega) only [go_sem, Go.Proofs.Try.results47, hp]); rfl) ?_; refine eN hE ?_; simp [oneA, ren, renL, hp])
    · rw [decide_eq_false hx] at sc
      (repeat' (first | refine awp_seq ?_ | refine awp_block ?_ | refine awp_skip ?_ | refine awp_exit ?_ | ((first | refine rR (fun K kp hK hkp => ?_) | refine cR sc ?_ | refine iG ?_); simp (implicitDefEqProofs := false) (maxSteps := 2000000) (disch := omega) only [go_sem, eP, hlf]; (repeat' (first | (refine hK _ ?_; clear hK hkp kp K) | (with_reducible refine And.intro ?_ ?_) | omega))) | ((first | refine aG (fun h => ?_) (fun h => ?_) | refine aD (fun h => ?_) (fun h => ?_) | refine aX (fun h => ?_) (fun h => ?_)) <;> simp only [h]) | refine awp_cond_t rfl ?_ | refine awp_cond_f rfl ?_ | ((refine awp_cond rfl (fun h => ?_) (fun h => ?_) <;> try simp only [ifs] at h) <;> (try (exfalso; omega))) | refine awp_ret ?_))
      (refine retA_is (by (simp (implicitDefEqProofs := false) (maxSteps := 2000000) (disch := omega) only [go_sem, Go.Proofs.Try.results47, hp]); rfl) ?_; refine eN hE ?_; simp [oneA, ren, renL, hp])
theorem beyond_con (G : List (Nat × List Value)) (t : Bool) (p : PG) (k : Ky) (h : p.high = [] ∨ ltK k p.high = true) : Con Go.Proofs.Try.prog G 58 [.agg (eP p), .ro t 1 (k.map eByte)] [] 0 (Is (.r (.bool false)) [] 0) No := by
  refine con_of_awp Go.Proofs.Try.func58 rfl (by kernel_rfl) (of_decide_eq_true (by kernel_rfl)) ?_; intro E hG hE; subst hG; simp only [ent]
  by_cases h1 : p.high = []
  · have z1 : ((p.high.length : Int) > 0) = False := eq_false (by rw [h1]; simp)
    (repeat' (first | refine awp_seq ?_ | refine awp_block ?_ | refine awp_skip ?_ | refine awp_exit ?_ | ((first | refine rR (fun K kp hK hkp => ?_) | refine cR (bcmp_con _ _ _ _ _) ?_ | refine iG ?_); simp (implicitDefEqProofs := false) (maxSteps := 2000000) (disch := omega) only [go_sem, eP, z1]; (repeat' (first | (refine hK _ ?_; clear hK hkp kp K) | (with_reducible refine And.intro ?_ ?_) | omega))) | ((first | refine aG (fun h => ?_) (fun h => ?_) | refine aD (fun h => ?_) (fun h => ?_) | refine aX (fun h => ?_) (fun h => ?_)) <;> simp only [h]) | refine awp_cond_t rfl ?_ | refine awp_cond_f rfl ?_ | ((refine awp_cond rfl (fun h => ?_) (fun h => ?_) <;> try simp only [ifs] at h) <;> (try (exfalso; omega))) | refine awp_ret ?_))
    (refine retA_is (by (simp (implicitDefEqProofs := false) (maxSteps := 2000000) (disch := omega) only [go_sem, Go.Proofs.Try.results58]); rfl) ?_; refine eN hE ?_; simp [oneA, ren, renL])
  · have z1 : ((p.high.length : Int) > 0) = True := eq_true (by have := List.length_pos_iff.2 h1; omega)
    have h2 : ltK k p.high = true := by
      rcases h with h | h
      · exact absurd h h1
      · exact h
    (repeat' (first | refine awp_seq ?_ | refine awp_block ?_ | refine awp_skip ?_ | refine awp_exit ?_ | ((first | refine rR (fun K kp hK hkp => ?_) | refine cR (bcmp_con _ _ _ _ _) ?_ | refine iG ?_); simp (implicitDefEqProofs := false) (maxSteps := 2000000) (disch := omega) only [go_sem, eP, z1, cmp_ge, h2]; (repeat' (first | (refine hK _ ?_; clear hK hkp kp K) | (with_reducible refine And.intro ?_ ?_) | omega))) | ((first | refine aG (fun h => ?_) (fun h => ?_) | refine aD (fun h => ?_) (fun h => ?_) | refine aX (fun h => ?_) (fun h => ?_)) <;> simp only [h]) | refine awp_cond_t rfl ?_ | refine awp_cond_f rfl ?_ | ((refine awp_cond rfl (fun h => ?_) (fun h => ?_) <;> try simp only [ifs] at h) <;> (try (exfalso; omega))) | refine awp_ret ?_))
    (refine retA_is (by (simp (implicitDefEqProofs := false) (maxSteps := 2000000) (disch := omega) only [go_sem, Go.Proofs.Try.results58]); rfl) ?_; refine eN hE ?_; simp [oneA, ren, renL])
end Go.AM
/- Trees: the path to the leaf of a key; find. -/
namespace Go.AM
open Go Go.RowKit
attribute [local irreducible] AWP retA
theorem path_len (ps : List PG) (k : Ky) : ∀ (d i : Nat), (pathF ps k d i).length = d + 1
  | 0, i => rfl
  | d + 1, i => by rw [pathF, List.length_cons, path_len ps k d]
theorem path_last (ps : List PG) (k : Ky) : ∀ (d i : Nat), (pathF ps k d i)[d]? = some (leafF ps k d i)
  | 0, i => rfl
  | d + 1, i => by rw [pathF, List.getElem?_cons_succ, path_last ps k d, leafF]
section
variable {ps : List PG}
/-- The way down, step by step: what holds of the j-th page of the path. -/
theorem path_step (hp : AllOK ps) (k : Ky) : ∀ (d i : Nat) (low high : Ky), Good ps d i low high → (high = [] ∨ ltK k high = true) → ∀ (j x : Nat), (pathF ps k d i)[j]? = some x →
    ((pg ps x).high = [] ∨ ltK k (pg ps x).high = true) ∧ ((pg ps x).leaf = decide (j = d)) ∧ (j < d → (pathF ps k d i)[j + 1]? = some (kidM ps k x)) ∧ (x = i ∨ ∃ y, x ∈ kidsOf ps y)
  | 0, i, low, high, h, hk, 0, x, hx => by
    cases hx
    exact ⟨by rw [h.2.1]; exact hk, by rw [h.1]; rfl, fun h => by omega, .inl rfl⟩
  | 0, i, low, high, h, hk, j + 1, x, hx => by simp [pathF] at hx
  | d + 1, i, low, high, h, hk, 0, x, hx => by
    cases hx
    refine ⟨by rw [h.2.1]; exact hk, by rw [h.1]; rfl, fun _ => ?_, .inl rfl⟩
    cases d <;> rfl
  | d + 1, i, low, high, h, hk, j + 1, x, hx => by
    obtain ⟨h1, h2, h3, h4⟩ := h
    have hq := ok_inner hp h1
    have ha := kid_at hp h1 k
    have hb := h4 _ _ ha
    have hkk : hiP (pg ps i) (placeM (pg ps i) k) high = [] ∨ ltK k (hiP (pg ps i) (placeM (pg ps i) k) high) = true := by
      unfold hiP
      split
      · rename_i hl
        have hy := List.getElem?_eq_getElem hl
        right
        rw [List.getD_eq_getElem?_getD, hy]
        exact place_hi hq h1 k (Nat.le_refl _) hy
      · exact hk
    rw [pathF, List.getElem?_cons_succ] at hx
    obtain ⟨a, b, c, e⟩ := path_step hp k d (kidM ps k i) _ _ hb hkk j x hx
    refine ⟨a, by rw [b]; simp, fun hj => ?_, .inr ?_⟩
    · rw [pathF, List.getElem?_cons_succ]; exact c (by omega)
    · rcases e with e | ⟨y, e⟩
      · exact ⟨i, by rw [e]; exact List.mem_of_getElem? ha⟩
      · exact ⟨y, e⟩
theorem kid_val (hp : AllOK ps) {x : Nat} (h : (pg ps x).leaf = false) (k : Ky) : (pg ps x).kids[placeM (pg ps x) k]? = some ((kidM ps k x : Nat) : Int) := by
  have hq := ok_inner hp h
  have h1 := hq.ki h
  have h2 := place_le (pg ps x) k
  have hg := List.getElem?_eq_getElem (l := (pg ps x).kids) (i := placeM (pg ps x) k) (by omega)
  have h0 := (hq.kd (placeM (pg ps x) k) (by omega)).1
  rw [kidM]
  rw [List.getD_eq_getElem?_getD] at h0 ⊢
  rw [hg] at h0 ⊢
  have h0 : 0 ≤ (pg ps x).kids[placeM (pg ps x) k] := h0
  show _ = some ((pg ps x).kids[placeM (pg ps x) k].toNat : Int)
  congr 1
  omega
end
set_option maxRecDepth 100000 in
set_option maxHeartbeats 4000000 in
theorem path_con (G : List (Nat × List Value)) (t u : Bool) (ps : List PG) (root d : Nat) (k : Ky) (hp : AllOK ps) (hin : ∀ i x, x ∈ kidsOf ps i → x < ps.length) (hg : Good ps d root [] []) (hr : root < ps.length) (hn : ps.length ≤ 4000) (hd : d < ps.length) :
    Con Go.Proofs.Try.prog G 45 [.agg [.ro t 5 (ps.map eP), .r (.int .i64 root)], .ro u 1 (k.map eByte)] [] 0 (Is (.ro true 1 ((pathF ps k d root).map eNt)) [] 0) No := by
  have hps := path_step hp k d root [] [] hg (.inl rfl)
  have hpl := path_len ps k d root
  refine con_of_awp Go.Proofs.Try.func45 rfl (by kernel_rfl) (of_decide_eq_true (by kernel_rfl)) ?_; intro E hG hE; subst hG; simp only [ent]
  (repeat' (first | refine awp_seq ?_ | refine awp_block ?_ | refine awp_skip ?_ | refine awp_exit ?_ | ((first | refine rR (fun K kp hK hkp => ?_) | refine rD (id := 8) mixed 9 [0,1,2,3,4,5,6,7,8] (fun K kp hK hkp => ?_) | refine iG ?_ | refine iD ?_); simp (implicitDefEqProofs := false) (maxSteps := 2000000) (disch := omega) only [go_sem]; (repeat' (first | (refine hK _ ?_; clear hK hkp kp K) | (with_reducible refine And.intro ?_ ?_) | omega))) | ((first | refine aG (fun h => ?_) (fun h => ?_) | refine aD (fun h => ?_) (fun h => ?_) | refine aX (fun h => ?_) (fun h => ?_)) <;> simp only [h]) | refine awp_cond_t rfl ?_ | refine awp_cond_f rfl ?_ | ((refine awp_cond rfl (fun h => ?_) (fun h => ?_) <;> try simp only [ifs] at h) <;> (try (exfalso; omega))) | refine awp_ret ?_))
  refine awp_loop (fun j : Nat => ⟨[(5, .s 1 0 (j + 1)), (2, .p 0 0 0), (1, .ro u 1 (k.map eByte))], [(0, .box 24 [.ro t 5 (ps.map eP), .r (.int .i64 root)]), (1, .lst 3 1 (((pathF ps k d root).take (j + 1)).map eNt))], 2⟩) (fun j => j ≤ d) (fun j => d - j) 0 ?_ ?_ ?_
  · exact Nat.zero_le _
  · have h0 : (pathF ps k d root).take (0 + 1) = [root] := by cases d <;> simp [pathF]
    (refine emb [0, 1] ?_ ?_ rfl ?_ ?_ ?_ ?_ <;> simp [okM, okO, lk, ren, renL, renNd, by_, hE, h0, eNt] <;> (try omega) <;> (try (intro i hi; first | (rcases i with _ | _ | i; rfl; rfl; (exfalso; omega)) | (rcases i with _ | _ | _ | i; rfl; rfl; rfl; (exfalso; omega)) | (rcases i with _ | _ | _ | _ | i; rfl; rfl; rfl; rfl; (exfalso; omega)) | (rcases i with _ | _ | _ | _ | _ | i; rfl; rfl; rfl; rfl; rfl; (exfalso; omega)) | (rcases i with _ | _ | _ | _ | _ | _ | i; rfl; rfl; rfl; rfl; rfl; rfl; (exfalso; omega)))))
  intro j hj
  obtain ⟨x, hx⟩ : ∃ x, (pathF ps k d root)[j]? = some x := ⟨_, List.getElem?_eq_getElem (by omega)⟩
  obtain ⟨b1, b2, b3, b4⟩ := hps j x hx
  have hxl : x < ps.length := by
    rcases b4 with rfl | ⟨y, hy⟩
    · exact hr
    · exact hin y x hy
  have hpx := pg_in hxl
  have kv := fun h => kid_val hp (x := x) h k
  have hok := hp x _ hpx
  generalize hP : pg ps x = p at hpx b1 b2 kv hok
  have htj : ((pathF ps k d root).take (j + 1))[j]? = some x := by rw [List.getElem?_take_of_lt (by omega), hx]
  have hl : ((pathF ps k d root).take (j + 1)).length = j + 1 := by rw [List.length_take]; omega
  have e1 : ((j + 1 : Nat) : Int) - 1 = (j : Int) := by omega
  have zj : ((j : Int) < ((j + 1 : Nat) : Int)) = True := eq_true (by omega)
  have bc := beyond_con E.G u p k b1
  have pc := place_con E.G u p k (srt_page hok) hok.nk
  by_cases hjd : j = d
  · subst hjd
    have b2 : p.leaf = true := by rw [b2]; simp
    simp only [eP, b2] at bc pc
    (repeat' (first | refine awp_seq ?_ | refine awp_block ?_ | refine awp_skip ?_ | refine awp_exit ?_ | ((first | refine rR (fun K kp hK hkp => ?_) | refine rD (id := 8) mixed 9 [0,1,2,3,4,5,6,7,8] (fun K kp hK hkp => ?_) | refine cR bc ?_ | refine cD bc ?_ | refine cR pc ?_ | refine cD pc ?_ | refine iG ?_ | refine iD ?_); simp (implicitDefEqProofs := false) (maxSteps := 2000000) (disch := omega) only [go_sem, e1, zj, htj, hl, hpx, b2, eP, eNt]; (repeat' (first | (refine hK _ ?_; clear hK hkp kp K) | (with_reducible refine And.intro ?_ ?_) | omega))) | ((first | refine aG (fun h => ?_) (fun h => ?_) | refine aD (fun h => ?_) (fun h => ?_) | refine aX (fun h => ?_) (fun h => ?_)) <;> simp only [h]) | refine awp_cond_t rfl ?_ | refine awp_cond_f rfl ?_ | ((refine awp_cond rfl (fun h => ?_) (fun h => ?_) <;> try simp only [ifs] at h) <;> (try (exfalso; omega))) | refine awp_ret ?_))
    have htk : (pathF ps k j root).take (j + 1) = pathF ps k j root := List.take_of_length_le (by omega)
    rw [htk]
    (refine retA_is (by (simp (implicitDefEqProofs := false) (maxSteps := 2000000) (disch := omega) only [go_sem, Go.Proofs.Try.results45, hpl]); rfl) ?_; refine embS_frz (by simp only [oneA]; simp (implicitDefEqProofs := false) (maxSteps := 2000000) (disch := omega) only [go_sem, hpl]; rfl) ?_; refine (embV_nil hE (by simp) ?_).s; simp [oneA, ren, renL, hpl])
    exact List.take_of_length_le (by simp [hpl])
  · have b2 : p.leaf = false := by rw [b2]; simp [hjd]
    have b3 := b3 (by omega)
    have kv := kv b2
    simp only [eP, b2] at bc pc
    have htk : (pathF ps k d root).take (j + 1 + 1) = (pathF ps k d root).take (j + 1) ++ [kidM ps k x] := by rw [List.take_add_one (i := j + 1), b3]; rfl
    (repeat' (first | refine awp_seq ?_ | refine awp_block ?_ | refine awp_skip ?_ | refine awp_exit ?_ | ((first | refine rR (fun K kp hK hkp => ?_) | refine rD (id := 8) mixed 9 [0,1,2,3,4,5,6,7,8] (fun K kp hK hkp => ?_) | refine cR bc ?_ | refine cD bc ?_ | refine cR pc ?_ | refine cD pc ?_ | refine iG ?_ | refine iD ?_); simp (implicitDefEqProofs := false) (maxSteps := 2000000) (disch := omega) only [go_sem, e1, zj, htj, hl, hpx, b2, kv, eP, eI, eNt]; (repeat' (first | (refine hK _ ?_; clear hK hkp kp K) | (with_reducible refine And.intro ?_ ?_) | omega))) | ((first | refine aG (fun h => ?_) (fun h => ?_) | refine aD (fun h => ?_) (fun h => ?_) | refine aX (fun h => ?_) (fun h => ?_)) <;> simp only [h]) | refine awp_cond_t rfl ?_ | refine awp_cond_f rfl ?_ | ((refine awp_cond rfl (fun h => ?_) (fun h => ?_) <;> try simp only [ifs] at h) <;> (try (exfalso; omega))) | refine awp_ret ?_))
    ((first | (refine nextB (j + 1) ?_ ?_ ?_) | (refine nextA (j + 1) ?_ ?_ ?_) | (refine nextE (j + 1) ?_ ?_ ?_)); rotate_left; (· (try dsimp only); (first | omega | (simp only [List.length_drop, List.length_cons, List.length_append]; omega) | (simp; done) | (simp; omega))); (· (refine emb [0, 4] ?_ ?_ rfl ?_ ?_ ?_ ?_ <;> simp [okM, okO, lk, ren, renL, renNd, by_, hE, htk, eNt, List.take_take, Nat.min_self] <;> (try omega) <;> (try (intro i hi; first | (rcases i with _ | _ | i; rfl; rfl; (exfalso; omega)) | (rcases i with _ | _ | _ | i; rfl; rfl; rfl; (exfalso; omega)) | (rcases i with _ | _ | _ | _ | i; rfl; rfl; rfl; rfl; (exfalso; omega)) | (rcases i with _ | _ | _ | _ | _ | i; rfl; rfl; rfl; rfl; rfl; (exfalso; omega)) | (rcases i with _ | _ | _ | _ | _ | _ | i; rfl; rfl; rfl; rfl; rfl; rfl; (exfalso; omega)))))))
    omega
def thereM (p : PG) (k : Ky) : Bool := decide (p.keys[placeM p k]? = some k)
set_option maxRecDepth 100000 in
set_option maxHeartbeats 4000000 in
theorem find_con (G : List (Nat × List Value)) (t u : Bool) (ps : List PG) (root d : Nat) (k : Ky) (hp : AllOK ps) (hin : ∀ i x, x ∈ kidsOf ps i → x < ps.length) (hg : Good ps d root [] []) (hr : root < ps.length) (hn : ps.length ≤ 4000) (hd : d < ps.length) :
    Con Go.Proofs.Try.prog G 35 [.agg [.ro t 5 (ps.map eP), .r (.int .i64 root)], .ro u 1 (k.map eByte)] [] 0 (Is (.tup [.r (.int .i64 (leafF ps k d root)), .r (.int .i64 (placeM (pg ps (leafF ps k d root)) k)), .r (.bool (thereM (pg ps (leafF ps k d root)) k))]) [] 0) No := by
  have hpl := path_len ps k d root
  have hlast := path_last ps k d root
  obtain ⟨_, _, _, b4⟩ := path_step hp k d root [] [] hg (.inl rfl) d _ hlast
  have hxl : leafF ps k d root < ps.length := by
    rcases b4 with h | ⟨y, hy⟩
    · rw [h]; exact hr
    · exact hin y _ hy
  have pc := path_con G t u ps root d k hp hin hg hr hn hd
  have hpx := pg_in hxl
  have hok := hp _ _ hpx
  generalize leafF ps k d root = x at *
  generalize hP : pg ps x = p at hpx hok
  have lc := place_con G u p k (srt_page hok) hok.nk
  have e1 : ((d + 1 : Nat) : Int) - 1 = (d : Int) := by omega
  have zd : ((d : Int) < ((d + 1 : Nat) : Int)) = True := eq_true (by omega)
  have hple := place_le p k
  have h4 := hok.nk
  simp only [eP] at lc
  refine con_of_awp Go.Proofs.Try.func35 rfl (by kernel_rfl) (of_decide_eq_true (by kernel_rfl)) ?_; intro E hG hE; subst hG; simp only [ent]
  by_cases hat : placeM p k < p.keys.length
  · have zi : ((placeM p k : Int) < (p.keys.length : Int)) = True := eq_true (by omega)
    obtain ⟨y, hy⟩ : ∃ y, p.keys[placeM p k]? = some y := ⟨_, List.getElem?_eq_getElem hat⟩
    have ht : thereM p k = (y == k) := by rw [thereM, hy, Bool.eq_iff_iff, decide_eq_true_eq, beq_iff_eq]; exact ⟨fun h => Option.some.inj h, fun h => by rw [h]⟩
    (repeat' (first | refine awp_seq ?_ | refine awp_block ?_ | refine awp_skip ?_ | refine awp_exit ?_ | ((first | refine rR (fun K kp hK hkp => ?_) | refine cR pc ?_ | refine cR lc ?_ | refine cR (bEq_con _ _ _ _ _) ?_ | refine iG ?_); simp (implicitDefEqProofs := false) (maxSteps := 2000000) (disch := omega) only [go_sem, e1, zd, zi, hlast, hpl, hpx, hy, eP, eKy, eNt]; (repeat' (first | (refine hK _ ?_; clear hK hkp kp K) | (with_reducible refine And.intro ?_ ?_) | omega))) | ((first | refine aG (fun h => ?_) (fun h => ?_) | refine aD (fun h => ?_) (fun h => ?_) | refine aX (fun h => ?_) (fun h => ?_)) <;> simp only [h]) | refine awp_cond_t rfl ?_ | refine awp_cond_f rfl ?_ | ((refine awp_cond rfl (fun h => ?_) (fun h => ?_) <;> try simp only [ifs] at h) <;> (try (exfalso; omega))) | refine awp_ret ?_))
    (refine retA_is (by (simp (implicitDefEqProofs := false) (maxSteps := 2000000) (disch := omega) only [go_sem, Go.Proofs.Try.results35, hP, ht]); rfl) ?_; refine eN hE ?_; simp [oneA, ren, renL, hP, ht])
  · have zi : ((placeM p k : Int) < (p.keys.length : Int)) = False := eq_false (by omega)
    have ht : thereM p k = false := by rw [thereM, List.getElem?_eq_none (by omega)]; rfl
    (repeat' (first | refine awp_seq ?_ | refine awp_block ?_ | refine awp_skip ?_ | refine awp_exit ?_ | ((first | refine rR (fun K kp hK hkp => ?_) | refine cR pc ?_ | refine cR lc ?_ | refine cR (bEq_con _ _ _ _ _) ?_ | refine iG ?_); simp (implicitDefEqProofs := false) (maxSteps := 2000000) (disch := omega) only [go_sem, e1, zd, zi, hlast, hpl, hpx, eP, eKy, eNt]; (repeat' (first | (refine hK _ ?_; clear hK hkp kp K) | (with_reducible refine And.intro ?_ ?_) | omega))) | ((first | refine aG (fun h => ?_) (fun h => ?_) | refine aD (fun h => ?_) (fun h => ?_) | refine aX (fun h => ?_) (fun h => ?_)) <;> simp only [h]) | refine awp_cond_t rfl ?_ | refine awp_cond_f rfl ?_ | ((refine awp_cond rfl (fun h => ?_) (fun h => ?_) <;> try simp only [ifs] at h) <;> (try (exfalso; omega))) | refine awp_ret ?_))
    (refine retA_is (by (simp (implicitDefEqProofs := false) (maxSteps := 2000000) (disch := omega) only [go_sem, Go.Proofs.Try.results35, hP, ht]); rfl) ?_; refine eN hE ?_; simp [oneA, ren, renL, hP, ht])
end Go.AM
/- The abstract machine: pieces of code that begin anew; a box that is read alone from now on. -/
/- The abstract machine: a region that ends in a call of yield; operations within a fence. -/
/- The abstract machine: calls of yield. -/
/- The abstract machine: a range over a function: the rounds. -/
/- The abstract machine: a range over a function: the law. -/
/- The abstract machine: a function that ranges over a function: its contract. -/
namespace Go.AM
open Go Go.RowKit
section
variable {P : Program} {G : List (Nat × List Value)} {N kk D : Nat} {w0 W w w' : World} {z0 zc z z' : Zone} {th0 th : List NLoc} {m : List (Nat × AV)} {a : Act} {Q : Exit → Act → World → Prop} {o : List (Nat × Nd)} {n : Nat} {st : AS} {tmps : Array Value} {E : Env}
/-- What is given back, said otherwise. -/
theorem Con.res {f : Nat} {xs : List AV} {o o' : List (Nat × Nd)} {n n' : Nat} {y y' : AV} {R : AV → List (Nat × Nd) → Nat → Prop} (hc : Con P G f xs o n (Is y o' n') R) (h : ∀ (w : World) (z : Zone) (th : List NLoc) (v : Value), Rep w z th y v → Rep w z th y' v) : Con P G f xs o n (Is y' o' n') R := by
  refine ⟨hc.1, fun w th z own vs h1 h2 h3 => (hc.2 w th z own vs h1 h2 h3).mono ?_⟩
  rintro e w' ⟨v, u, o2, n2, th', z', hh, hm, hr⟩
  rcases hh with ⟨rfl, rfl, rfl, rfl⟩ | ⟨rfl, hR⟩
  · exact ⟨v, y', _, _, th', z', .inl ⟨rfl, rfl, rfl, rfl⟩, hm, h _ _ _ _ hr⟩
  · exact ⟨v, u, o2, n2, th', z', .inr ⟨rfl, hR⟩, hm, hr⟩
/-- What is given back, with its own things said otherwise. -/
theorem Con.emb {f : Nat} {xs : List AV} {o o' o2 : List (Nat × Nd)} {n n' n2 : Nat} {y y2 : AV} (hc : Con P G f xs o n (Is y o' n') No) (he : ∀ E : Env, E.th0.length = n → Emb E 1 ⟨[(0, y)], o', n'⟩ ⟨[(0, y2)], o2, n2⟩) : Con P G f xs o n (Is y2 o2 n2) No := by
  refine ⟨hc.1, fun w th z own vs h1 h2 h3 => (hc.2 w th z own vs h1 h2 h3).mono ?_⟩
  rintro e w' ⟨v, u, o3, n3, th', z', hh, hm, hr⟩
  rcases hh with ⟨rfl, rfl, rfl, rfl⟩ | ⟨rfl, hR⟩
  · have hs : Sim ⟨w, own, z, G, th, []⟩ 1 ⟨[(0, u)], o3, n3⟩ th' z' ⟨#[v], []⟩ w' := ⟨hm, rfl, rfl, fun i x hi => by
      simp only [lk] at hi
      split at hi
      · rename_i q; subst q; cases hi; exact ⟨v, rfl, hr⟩
      · cases hi⟩
    obtain ⟨th2, z2, hs2⟩ := he _ h2.len _ _ _ _ hs
    obtain ⟨v2, hv2, hr2⟩ := hs2.slots 0 y2 rfl
    obtain rfl : v = v2 := by simpa using hv2
    exact ⟨v, y2, _, _, th2, z2, .inl ⟨rfl, rfl, rfl, rfl⟩, hs2.mem, hr2⟩
  · exact hR.elim
end
end Go.AM
/- The abstract machine: contracts of old walks that give back an own row. -/
namespace Go.AM
open Go Go.RowKit
/-- A contract of the old form: an own row; what was there is as it was. -/
theorem con_of_owns {P : Program} {f : Nat} {G : List (Nat × List Value)} {xs : List AV} {T : TypeId} {k : Nat} {els : List (List AV)} {fl : List Value} (hok : okFn P f = true)
    (hel : ∀ (i : Nat) e, els[i]? = some e → e.length = k ∧ ∀ (j : Nat) x, e[j]? = some x → ∃ u, x = .r u ∧ fl[i * k + j]? = some u ∧ u.oneCell' = true)
    (h : ∀ (w : World) (z : Zone) (vs : List Value), (∀ t b, z t b → b < w.heap.size) → Reps w z [] xs vs → Globs G w → Calls P f vs.toArray w (fun e w' => (∃ v, e = .returned v ∧ w'.ownsRow w.heap.size T k v els.length fl) ∧ Below w.heap.size w w')) :
    Con P G f xs [] 0 (Is (.s 0 0 els.length) [(0, .lst T k els)] 1) No := by
  refine ⟨hok, fun w th z own vs ho hm hr => ?_⟩
  have hth : th = [] := List.length_eq_zero_iff.1 hm.len
  subst hth
  refine (h w z vs hm.zlt hr (fun g cs hg => ⟨hm.zlt _ _ (hm.globs g cs hg).1, (hm.globs g cs hg).2⟩)).mono ?_
  rintro e w' ⟨⟨v, rfl, row⟩, hb⟩
  have mk : ∀ L : NLoc, NdAt w' z [L] L (.lst T k els) → (L.ph = false → L.b < w'.heap.size ∧ w.heap.size ≤ L.b) → Mem ⟨w, own, z, G, [], []⟩ [(0, .lst T k els)] 1 [L] z w' := by
    intro L hn hL
    refine ⟨rfl, fun i nd hi => ?_, fun i j x y A B hi hj _ _ _ _ _ => ?_, fun t b hz => Nat.lt_of_lt_of_le (hm.zlt t b hz) hb.size, hb.size, fun b hlt _ => hb.block b hlt, fun t b h => h, fun b h => .inl h, fun b h => h, ?_, fun i L hi => by simp at hi, ⟨hb.os, hb.tape, hb.output⟩, uls_none rfl⟩
    · simp only [lk] at hi
      split at hi
      · rename_i q; subst q; cases hi
        exact ⟨L, rfl, hn, fun hp => ⟨(hL hp).1, fun t hz => by have := hm.zlt t L.b hz; have h2 := (hL hp).2; exact absurd this (by omega), .inr (hL hp).2⟩⟩
      · cases hi
    · simp only [lk] at hi hj
      split at hi
      · split at hj
        · omega
        · cases hj
      · cases hi
    · intro g cs hg
      obtain ⟨h1, h2⟩ := hm.globs g cs hg
      exact ⟨h1, fun j u hu => (cell_heap (hb.block g (hm.zlt _ _ h1)) j).trans (h2 j u hu)⟩
  rcases row.2 with ⟨rfl, h0⟩ | ⟨g, cap, cur, rfl, hB, hh, hn', hc, hs, ht⟩
  · have he : els = [] := List.length_eq_zero_iff.1 h0
    subst he
    exact ⟨_, .s 0 0 0, _, 1, [⟨0, 0, 0, 0, true⟩], z, .inl ⟨rfl, rfl, rfl, rfl⟩, mk _ (.inl ⟨rfl, rfl⟩) (fun hp => by cases hp), .sn _ 0 0 _ rfl rfl⟩
  · have hg : g < w'.heap.size := (Array.getElem?_eq_some_iff.1 hh).1
    refine ⟨_, .s 0 0 els.length, _, 1, [⟨g, 0, k, cap, false⟩], z, .inl ⟨rfl, rfl, rfl, rfl⟩, mk _ (.inr ⟨rfl, cur, (0, 0), hh, fun i hi h => by simp only at h; omega, rfl, by simp [hs], hn', fun i e he => ?_⟩) (fun _ => ⟨hg, hB⟩), .s _ 0 0 _ cap 0 ⟨g, 0, k, cap, false⟩ rfl rfl hn' (by simp) (fun _ => by simp)⟩
    obtain ⟨q1, q2⟩ := hel i e he
    refine ⟨q1, fun j x hj => ?_⟩
    obtain ⟨u, rfl, q3, q4⟩ := q2 j x hj
    refine ⟨u, ?_, .r _ _, q4⟩
    have hjk : j < k := by rw [← q1]; exact (List.getElem?_eq_some_iff.1 hj).1
    have hi : i < els.length := (List.getElem?_eq_some_iff.1 he).1
    have hlt : i * k + j < els.length * k := by
      have : (i + 1) * k ≤ els.length * k := Nat.mul_le_mul_right _ hi
      rw [Nat.add_mul] at this; omega
    rw [← ht, List.getElem?_take_of_lt hlt, Array.getElem?_toList] at q3
    simpa using q3
end Go.AM
/- Rows of numbers: the same lists are the same. -/
namespace Go.AM
open Go Go.RowKit
attribute [local irreducible] AWP retA
set_option maxRecDepth 100000 in
set_option maxHeartbeats 4000000 in
theorem sameI_con (G : List (Nat × List Value)) (t t' : Bool) (l : List Int) (hl : l.length ≤ 1048576) : Con Go.Proofs.Try.prog G 33 [.ro t 1 (l.map eI), .ro t' 1 (l.map eI)] [] 0 (Is (.r (.bool true)) [] 0) No := by
  refine con_of_awp Go.Proofs.Try.func33 rfl (by kernel_rfl) (of_decide_eq_true (by kernel_rfl)) ?_; intro E hG hE; subst hG; simp only [ent]
  (repeat' (first | refine awp_seq ?_ | refine awp_block ?_ | refine awp_skip ?_ | refine awp_exit ?_ | ((first | refine rR (fun K kp hK hkp => ?_) | refine rD (id := 6) mixed 9 [0,1,2,3,4,5,6,7,8] (fun K kp hK hkp => ?_) | refine iG ?_ | refine iD ?_); simp (implicitDefEqProofs := false) (maxSteps := 2000000) (disch := omega) only [go_sem, bne_self_eq_false]; (repeat' (first | (refine hK _ ?_; clear hK hkp kp K) | (with_reducible refine And.intro ?_ ?_) | omega))) | ((first | refine aG (fun h => ?_) (fun h => ?_) | refine aD (fun h => ?_) (fun h => ?_) | refine aX (fun h => ?_) (fun h => ?_)) <;> simp only [h]) | refine awp_cond_t rfl ?_ | refine awp_cond_f rfl ?_ | ((refine awp_cond rfl (fun h => ?_) (fun h => ?_) <;> try simp only [ifs] at h) <;> (try (exfalso; omega))) | refine awp_ret ?_))
  refine awp_loop (fun k : Nat => ⟨[(5, .r (.int .i64 k)), (0, .ro t 1 (l.map eI)), (1, .ro t' 1 (l.map eI))], [], 0⟩) (fun k => k ≤ l.length) (fun k => l.length - k) 0 ?_ ?_ ?_
  · simp
  · (refine emb [] ?_ ?_ rfl ?_ ?_ ?_ ?_ <;> simp [okM, okO, lk, ren, renL, renNd, by_, hE] <;> (try omega) <;> (try (intro i hi; first | (rcases i with _ | _ | i; rfl; rfl; (exfalso; omega)) | (rcases i with _ | _ | _ | i; rfl; rfl; rfl; (exfalso; omega)) | (rcases i with _ | _ | _ | _ | i; rfl; rfl; rfl; rfl; (exfalso; omega)) | (rcases i with _ | _ | _ | _ | _ | i; rfl; rfl; rfl; rfl; rfl; (exfalso; omega)) | (rcases i with _ | _ | _ | _ | _ | _ | i; rfl; rfl; rfl; rfl; rfl; rfl; (exfalso; omega)))))
  intro k hk
  by_cases hlt : k < l.length
  · obtain ⟨x, hx⟩ : ∃ x, l[k]? = some x := ⟨l[k], by simp [hlt]⟩
    have d1 : decide ((k : Int) < (l.length : Int)) = true := decide_eq_true (by omega)
    (repeat' (first | refine awp_seq ?_ | refine awp_block ?_ | refine awp_skip ?_ | refine awp_exit ?_ | ((first | refine rR (fun K kp hK hkp => ?_) | refine rD (id := 6) mixed 9 [0,1,2,3,4,5,6,7,8] (fun K kp hK hkp => ?_) | refine iG ?_ | refine iD ?_); simp (implicitDefEqProofs := false) (maxSteps := 2000000) (disch := omega) only [go_sem, hx, eI, d1, bne_self_eq_false]; (repeat' (first | (refine hK _ ?_; clear hK hkp kp K) | (with_reducible refine And.intro ?_ ?_) | omega))) | ((first | refine aG (fun h => ?_) (fun h => ?_) | refine aD (fun h => ?_) (fun h => ?_) | refine aX (fun h => ?_) (fun h => ?_)) <;> simp only [h]) | refine awp_cond_t rfl ?_ | refine awp_cond_f rfl ?_ | ((refine awp_cond rfl (fun h => ?_) (fun h => ?_) <;> try simp only [ifs] at h) <;> (try (exfalso; omega))) | refine awp_ret ?_))
    ((first | (refine nextB (k + 1) ?_ ?_ ?_) | (refine nextA (k + 1) ?_ ?_ ?_) | (refine nextE (k + 1) ?_ ?_ ?_)); rotate_left; (· (try dsimp only); (first | omega | (simp only [List.length_drop, List.length_cons, List.length_append]; omega) | (simp; done) | (simp; omega))); (· (refine emb [] ?_ ?_ rfl ?_ ?_ ?_ ?_ <;> simp [okM, okO, lk, ren, renL, renNd, by_, hE] <;> (try omega) <;> (try (intro i hi; first | (rcases i with _ | _ | i; rfl; rfl; (exfalso; omega)) | (rcases i with _ | _ | _ | i; rfl; rfl; rfl; (exfalso; omega)) | (rcases i with _ | _ | _ | _ | i; rfl; rfl; rfl; rfl; (exfalso; omega)) | (rcases i with _ | _ | _ | _ | _ | i; rfl; rfl; rfl; rfl; rfl; (exfalso; omega)) | (rcases i with _ | _ | _ | _ | _ | _ | i; rfl; rfl; rfl; rfl; rfl; rfl; (exfalso; omega)))))))
    omega
  · have d1 : decide ((k : Int) < (l.length : Int)) = false := decide_eq_false (by omega)
    (repeat' (first | refine awp_seq ?_ | refine awp_block ?_ | refine awp_skip ?_ | refine awp_exit ?_ | ((first | refine rR (fun K kp hK hkp => ?_) | refine rD (id := 6) mixed 9 [0,1,2,3,4,5,6,7,8] (fun K kp hK hkp => ?_) | refine iG ?_ | refine iD ?_); simp (implicitDefEqProofs := false) (maxSteps := 2000000) (disch := omega) only [go_sem, d1]; (repeat' (first | (refine hK _ ?_; clear hK hkp kp K) | (with_reducible refine And.intro ?_ ?_) | omega))) | ((first | refine aG (fun h => ?_) (fun h => ?_) | refine aD (fun h => ?_) (fun h => ?_) | refine aX (fun h => ?_) (fun h => ?_)) <;> simp only [h]) | refine awp_cond_t rfl ?_ | refine awp_cond_f rfl ?_ | ((refine awp_cond rfl (fun h => ?_) (fun h => ?_) <;> try simp only [ifs] at h) <;> (try (exfalso; omega))) | refine awp_ret ?_))
    (refine retA_is (by (simp (implicitDefEqProofs := false) (maxSteps := 2000000) (disch := omega) only [go_sem, Go.Proofs.Try.results33]); rfl) ?_; refine eN hE ?_; simp [oneA, ren, renL])
end Go.AM
