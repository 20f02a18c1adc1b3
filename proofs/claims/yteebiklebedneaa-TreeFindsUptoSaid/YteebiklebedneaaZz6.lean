/- Texts of the law TreeFinds, part 6: lemmas; what is proved stands in the last text. -/
import Derived.Test.YteebiklebedneaaZz5
import Derived.Test.YteebiklebedneaaRows
import Derived.WalkKit
import Derived.ProofKit
import Derived.OpenShut
import Derived.ShutString
import Derived.ChangeOld
import Derived.Below
import Derived.Lib.SmallJoins
import Derived.Test.YteebiklebedneaaZz4
import Derived.Test.YteebiklebedneaaZz1
import Derived.JoinedCond
import Derived.SizedLaws
import Derived.Deep.Strs
set_option linter.unusedSimpArgs false
set_option linter.unusedVariables false
/- tree.Find and FoundIn; the law TreeFinds. -/
namespace Go.AM
open Go Go.RowKit
attribute [local irreducible] AWP retA
theorem octetsT_con (G : List (Nat × List Value)) (t : Bool) (l : Ky) (hl : l.length ≤ 140737488351232) : Con Go.Proofs.Try.prog G 14 [.ro t 1 (l.map eByte)] [] 0 (Is (.ro true 1 (l.map eByte)) [] 0) No := by
  refine con_of_awp Go.Proofs.Try.func14 rfl (by kernel_rfl) (of_decide_eq_true (by kernel_rfl)) ?_; intro E hG hE; subst hG; simp only [ent]
  (repeat' (first | refine awp_seq ?_ | refine awp_block ?_ | refine awp_skip ?_ | refine awp_exit ?_ | ((first | refine rR (fun K kp hK hkp => ?_) | refine iG ?_); simp (implicitDefEqProofs := false) (maxSteps := 2000000) (disch := omega) only [go_sem]; (repeat' (first | (refine hK _ ?_; clear hK hkp kp K) | (with_reducible refine And.intro ?_ ?_) | omega))) | ((first | refine aG (fun h => ?_) (fun h => ?_) | refine aD (fun h => ?_) (fun h => ?_) | refine aX (fun h => ?_) (fun h => ?_)) <;> simp only [h]) | refine awp_cond_t rfl ?_ | refine awp_cond_f rfl ?_ | ((refine awp_cond rfl (fun h => ?_) (fun h => ?_) <;> try simp only [ifs] at h) <;> (try (exfalso; omega))) | refine awp_ret ?_))
  (refine retA_is (by (simp (implicitDefEqProofs := false) (maxSteps := 2000000) (disch := omega) only [go_sem, Go.Proofs.Try.results14]); rfl) ?_; refine embS_frz (by simp only [oneA]; simp (implicitDefEqProofs := false) (maxSteps := 2000000) (disch := omega) only [go_sem]; rfl) ?_; refine (embV_nil hE (by simp) ?_).s; simp [oneA, ren, renL])
noncomputable def askM (ps : List PG) (root : Int) (k : Ky) : Int := if chkR ps root ≠ 0 then chkR ps root else if keyB k = true then 0 else 1
theorem checked_con (G : List (Nat × List Value)) (t : Bool) (ps : List PG) (root : Int) (k : Ky) (ho : okPs2 ps) : Con Go.Proofs.Try.prog G 34 [.agg [.ro true 5 (ps.map eP), .r (.int .i64 root)], .ro t 1 (k.map eByte)] [] 0 (Is (.r (.int .i64 (askM ps root k))) [] 0) No := by
  have cc := check_con2 G ps root (okPs_of ho)
  obtain ⟨c, hc⟩ : ∃ c, chkR ps root = c := ⟨_, rfl⟩
  rw [askM]
  rw [hc] at cc ⊢
  refine con_of_awp Go.Proofs.Try.func34 rfl (by kernel_rfl) (of_decide_eq_true (by kernel_rfl)) ?_; intro E hG hE; subst hG; simp only [ent]
  by_cases h0 : c = 0
  · subst h0
    cases hk : keyB k
    · have kc := key_con E.G t k
      rw [hk] at kc
      (repeat' (first | refine awp_seq ?_ | refine awp_block ?_ | refine awp_skip ?_ | refine awp_exit ?_ | ((first | refine rR (fun K kp hK hkp => ?_) | refine cR cc ?_ | refine cR kc ?_ | refine iG ?_); simp (implicitDefEqProofs := false) (maxSteps := 2000000) (disch := omega) only [go_sem, bne_self_eq_false]; (repeat' (first | (refine hK _ ?_; clear hK hkp kp K) | (with_reducible refine And.intro ?_ ?_) | omega))) | ((first | refine aG (fun h => ?_) (fun h => ?_) | refine aD (fun h => ?_) (fun h => ?_) | refine aX (fun h => ?_) (fun h => ?_)) <;> simp only [h]) | refine awp_cond_t rfl ?_ | refine awp_cond_f rfl ?_ | ((refine awp_cond rfl (fun h => ?_) (fun h => ?_) <;> try simp only [ifs] at h) <;> (try (exfalso; omega))) | refine awp_ret ?_))
      (refine retA_is (by (simp (implicitDefEqProofs := false) (maxSteps := 2000000) (disch := omega) only [go_sem, Go.Proofs.Try.results34]); rfl) ?_; refine eN hE ?_; simp [oneA, ren, renL])
    · have kc := key_con E.G t k
      rw [hk] at kc
      (repeat' (first | refine awp_seq ?_ | refine awp_block ?_ | refine awp_skip ?_ | refine awp_exit ?_ | ((first | refine rR (fun K kp hK hkp => ?_) | refine cR cc ?_ | refine cR kc ?_ | refine iG ?_); simp (implicitDefEqProofs := false) (maxSteps := 2000000) (disch := omega) only [go_sem, bne_self_eq_false]; (repeat' (first | (refine hK _ ?_; clear hK hkp kp K) | (with_reducible refine And.intro ?_ ?_) | omega))) | ((first | refine aG (fun h => ?_) (fun h => ?_) | refine aD (fun h => ?_) (fun h => ?_) | refine aX (fun h => ?_) (fun h => ?_)) <;> simp only [h]) | refine awp_cond_t rfl ?_ | refine awp_cond_f rfl ?_ | ((refine awp_cond rfl (fun h => ?_) (fun h => ?_) <;> try simp only [ifs] at h) <;> (try (exfalso; omega))) | refine awp_ret ?_))
      (refine retA_is (by (simp (implicitDefEqProofs := false) (maxSteps := 2000000) (disch := omega) only [go_sem, Go.Proofs.Try.results34]); rfl) ?_; refine eN hE ?_; simp [oneA, ren, renL])
  · have z0 : (c != 0) = true := by simp [h0]
    (repeat' (first | refine awp_seq ?_ | refine awp_block ?_ | refine awp_skip ?_ | refine awp_exit ?_ | ((first | refine rR (fun K kp hK hkp => ?_) | refine cR cc ?_ | refine iG ?_); simp (implicitDefEqProofs := false) (maxSteps := 2000000) (disch := omega) only [go_sem, z0]; (repeat' (first | (refine hK _ ?_; clear hK hkp kp K) | (with_reducible refine And.intro ?_ ?_) | omega))) | ((first | refine aG (fun h => ?_) (fun h => ?_) | refine aD (fun h => ?_) (fun h => ?_) | refine aX (fun h => ?_) (fun h => ?_)) <;> simp only [h]) | refine awp_cond_t rfl ?_ | refine awp_cond_f rfl ?_ | ((refine awp_cond rfl (fun h => ?_) (fun h => ?_) <;> try simp only [ifs] at h) <;> (try (exfalso; omega))) | refine awp_ret ?_))
    (refine retA_is (by (simp (implicitDefEqProofs := false) (maxSteps := 2000000) (disch := omega) only [go_sem, Go.Proofs.Try.results34, h0]); rfl) ?_; refine eN hE ?_; simp [oneA, ren, renL, h0])
theorem treeAndKey_con (G : List (Nat × List Value)) (t u : Bool) (ps : List PG) (root : Int) (k : Ky) (ho : okPs2 ps) : Con Go.Proofs.Try.prog G 36 [.agg [.ro u 5 (ps.map eP), .r (.int .i64 root)], .ro t 1 (k.map eByte)] [] 0 (Is (.r (.int .i64 (askM ps root k))) [] 0) No := by
  have cc := treeFault_con G u ps root (okPs_of ho) ho.1
  obtain ⟨c, hc⟩ : ∃ c, chkR ps root = c := ⟨_, rfl⟩
  rw [askM]
  rw [← chk_flt, hc] at cc
  rw [hc]
  refine con_of_awp Go.Proofs.Try.func36 rfl (by kernel_rfl) (of_decide_eq_true (by kernel_rfl)) ?_; intro E hG hE; subst hG; simp only [ent]
  by_cases h0 : c = 0
  · subst h0
    cases hk : keyB k
    · have kc := keyMay_con E.G t k
      rw [hk] at kc
      (repeat' (first | refine awp_seq ?_ | refine awp_block ?_ | refine awp_skip ?_ | refine awp_exit ?_ | ((first | refine rR (fun K kp hK hkp => ?_) | refine cR cc ?_ | refine cR kc ?_ | refine iG ?_); simp (implicitDefEqProofs := false) (maxSteps := 2000000) (disch := omega) only [go_sem, beq_self_eq_true]; (repeat' (first | (refine hK _ ?_; clear hK hkp kp K) | (with_reducible refine And.intro ?_ ?_) | omega))) | ((first | refine aG (fun h => ?_) (fun h => ?_) | refine aD (fun h => ?_) (fun h => ?_) | refine aX (fun h => ?_) (fun h => ?_)) <;> simp only [h]) | refine awp_cond_t rfl ?_ | refine awp_cond_f rfl ?_ | ((refine awp_cond rfl (fun h => ?_) (fun h => ?_) <;> try simp only [ifs] at h) <;> (try (exfalso; omega))) | refine awp_ret ?_))
      (refine retA_is (by (simp (implicitDefEqProofs := false) (maxSteps := 2000000) (disch := omega) only [go_sem, Go.Proofs.Try.results36]); rfl) ?_; refine eN hE ?_; simp [oneA, ren, renL])
    · have kc := keyMay_con E.G t k
      rw [hk] at kc
      (repeat' (first | refine awp_seq ?_ | refine awp_block ?_ | refine awp_skip ?_ | refine awp_exit ?_ | ((first | refine rR (fun K kp hK hkp => ?_) | refine cR cc ?_ | refine cR kc ?_ | refine iG ?_); simp (implicitDefEqProofs := false) (maxSteps := 2000000) (disch := omega) only [go_sem, beq_self_eq_true]; (repeat' (first | (refine hK _ ?_; clear hK hkp kp K) | (with_reducible refine And.intro ?_ ?_) | omega))) | ((first | refine aG (fun h => ?_) (fun h => ?_) | refine aD (fun h => ?_) (fun h => ?_) | refine aX (fun h => ?_) (fun h => ?_)) <;> simp only [h]) | refine awp_cond_t rfl ?_ | refine awp_cond_f rfl ?_ | ((refine awp_cond rfl (fun h => ?_) (fun h => ?_) <;> try simp only [ifs] at h) <;> (try (exfalso; omega))) | refine awp_ret ?_))
      (refine retA_is (by (simp (implicitDefEqProofs := false) (maxSteps := 2000000) (disch := omega) only [go_sem, Go.Proofs.Try.results36]); rfl) ?_; refine eN hE ?_; simp [oneA, ren, renL])
  · have z0 : (c == 0) = false := by simp [h0]
    (repeat' (first | refine awp_seq ?_ | refine awp_block ?_ | refine awp_skip ?_ | refine awp_exit ?_ | ((first | refine rR (fun K kp hK hkp => ?_) | refine cR cc ?_ | refine iG ?_); simp (implicitDefEqProofs := false) (maxSteps := 2000000) (disch := omega) only [go_sem, z0]; (repeat' (first | (refine hK _ ?_; clear hK hkp kp K) | (with_reducible refine And.intro ?_ ?_) | omega))) | ((first | refine aG (fun h => ?_) (fun h => ?_) | refine aD (fun h => ?_) (fun h => ?_) | refine aX (fun h => ?_) (fun h => ?_)) <;> simp only [h]) | refine awp_cond_t rfl ?_ | refine awp_cond_f rfl ?_ | ((refine awp_cond rfl (fun h => ?_) (fun h => ?_) <;> try simp only [ifs] at h) <;> (try (exfalso; omega))) | refine awp_ret ?_))
    (refine retA_is (by (simp (implicitDefEqProofs := false) (maxSteps := 2000000) (disch := omega) only [go_sem, Go.Proofs.Try.results36, h0]); rfl) ?_; refine eN hE ?_; simp [oneA, ren, renL, h0])
/-- What is asked of a tree that may be. -/
structure Trd (ps : List PG) (r d : Nat) : Prop where
  ok : AllOK ps
  kin : ∀ i x, x ∈ kidsOf ps i → x < ps.length
  good : Good ps d r [] []
  rl : r < ps.length
  n : ps.length ≤ 4000
  dl : d < ps.length
  tr : TreeOK ps r d
theorem trd_of {ps : List PG} {root : Int} (h : ChkOK ps root) : ∃ r d : Nat, root = r ∧ Trd ps r d := by
  obtain ⟨d, T⟩ := tree_of_chk h
  refine ⟨root.toNat, d, by have := h.r0; omega, h.pg, kids_in h.pg, T.good, by have := h.r0; have := h.r1; omega, h.n2, ?_, T⟩
  have hpm := one_pre ps d root.toNat
  have hd := pre_deep (kids_ne h.pg) d root.toNat [] [] T.good
  rw [hpm.length_eq, T.all] at hd
  omega
theorem lvl_cat (ps : List PG) : ∀ (d : Nat) (l : List Nat), (lvl ps d l).length ≤ (cat ps d l).length
  | 0, l => Nat.le_refl _
  | d + 1, l => by
    have := lvl_cat ps d (l.flatMap (kidsOf ps))
    rw [lvl, cat, List.length_append]; omega
theorem Trd.many {ps : List PG} {r d : Nat} (h : Trd ps r d) : (lvl ps d [r]).length ≤ 4000 := by
  have := lvl_cat ps d [r]
  have := h.tr.all
  have := h.n
  omega
theorem Trd.leaf {ps : List PG} {r d : Nat} (h : Trd ps r d) (k : Ky) : leafF ps k d r < ps.length := by
  obtain ⟨_, _, _, b4⟩ := path_step h.ok k d r [] [] h.good (.inl rfl) d _ (path_last ps k d r)
  rcases b4 with e | ⟨y, hy⟩
  · rw [e]; exact h.rl
  · exact h.kin y _ hy
theorem entriesOf_con (G : List (Nat × List Value)) (t : Bool) {ps : List PG} {r d : Nat} (h : Trd ps r d) (ho : okPs2 ps) : Con Go.Proofs.Try.prog G 37 [.agg [.ro t 5 (ps.map eP), .r (.int .i64 r)]] [] 0 (Is (.ro true 2 ((entsF ps d r).map eEt)) [] 0) No := by
  have ec := entries_con t ps r h.ok ho h.kin h.n d r [] [] h.good h.rl h.many G
  refine con_of_awp Go.Proofs.Try.func37 rfl (by kernel_rfl) (of_decide_eq_true (by kernel_rfl)) ?_; intro E hG hE; subst hG; simp only [ent]
  (repeat' (first | refine awp_seq ?_ | refine awp_block ?_ | refine awp_skip ?_ | refine awp_exit ?_ | ((first | refine rR (fun K kp hK hkp => ?_) | refine cR ec ?_ | refine iG ?_); simp (implicitDefEqProofs := false) (maxSteps := 2000000) (disch := omega) only [go_sem]; (repeat' (first | (refine hK _ ?_; clear hK hkp kp K) | (with_reducible refine And.intro ?_ ?_) | omega))) | ((first | refine aG (fun h => ?_) (fun h => ?_) | refine aD (fun h => ?_) (fun h => ?_) | refine aX (fun h => ?_) (fun h => ?_)) <;> simp only [h]) | refine awp_cond_t rfl ?_ | refine awp_cond_f rfl ?_ | ((refine awp_cond rfl (fun h => ?_) (fun h => ?_) <;> try simp only [ifs] at h) <;> (try (exfalso; omega))) | refine awp_ret ?_))
  (refine retA_is (by (simp (implicitDefEqProofs := false) (maxSteps := 2000000) (disch := omega) only [go_sem, Go.Proofs.Try.results37]); rfl) ?_; refine eN hE ?_; simp [oneA, ren, renL])
/-- What Find answers. -/
noncomputable def findA (ps : List PG) (root : Int) (k : Ky) (R : Int × Int) : AV := .tup [.r (.int .i64 (if askM ps root k ≠ 0 then 0 else R.1)), .r (.int .i64 (if askM ps root k ≠ 0 then askM ps root k else R.2))]
theorem ask_chk {ps : List PG} {root : Int} {k : Ky} (h : askM ps root k = 0) : ChkOK ps root := by
  rw [askM] at h
  by_cases hc : ChkOK ps root
  · exact hc
  · rw [chkR_f hc] at h; simp at h
set_option maxRecDepth 100000 in
set_option maxHeartbeats 4000000 in
theorem find2_con (G : List (Nat × List Value)) (t : Bool) (ps : List PG) (root : Int) (k : Ky) (ho : okPs2 ps) (R : Int × Int) (hR : askM ps root k = 0 → ∀ r d : Nat, root = r → Trd ps r d → R = findM (pg ps (leafF ps k d r)) k) :
    Con Go.Proofs.Try.prog G 13 [.agg [.ro true 5 (ps.map eP), .r (.int .i64 root)], .ro t 1 (k.map eByte)] [] 0 (Is (findA ps root k R) [] 0) No := by
  have cc := checked_con G t ps root k ho
  rw [findA]
  by_cases h0 : askM ps root k = 0
  · obtain ⟨r, d, rfl, h⟩ := trd_of (ask_chk h0)
    have hR := hR h0 r d rfl h
    rw [h0] at cc ⊢
    have fc := find_con G true t ps r d k h.ok h.kin h.good h.rl h.n h.dl
    have hl := h.leaf k
    have hpx := pg_in hl
    have hok := h.ok _ _ hpx
    obtain ⟨A, B, e, hA, hB, lo, hi, hgl, _⟩ := leaf_split h.ok k d r [] [] h.good (.inl rfl)
    have hlf := hgl.1
    clear hA hB hgl e
    generalize leafF ps k d r = x at *
    generalize pg ps x = p at *
    have hkl := hok.kl hlf
    have hpk := place_le p k
    refine con_of_awp Go.Proofs.Try.func13 rfl (by kernel_rfl) (of_decide_eq_true (by kernel_rfl)) ?_; intro E hG hE; subst hG; simp only [ent]
    rw [findM] at hR
    by_cases ht : p.keys[placeM p k]? = some k
    · rw [thereM, decide_eq_true ht] at fc
      rw [if_pos ht] at hR
      have hlt := (List.getElem?_eq_some_iff.1 ht).1
      obtain ⟨y, hy⟩ : ∃ y, p.kids[placeM p k]? = some y := ⟨_, List.getElem?_eq_getElem (by omega)⟩
      have hyD : p.kids.getD (placeM p k) 0 = y := by rw [List.getD_eq_getElem?_getD, hy]; rfl
      rw [hyD] at hR
      subst hR
      (repeat' (first | refine awp_seq ?_ | refine awp_block ?_ | refine awp_skip ?_ | refine awp_exit ?_ | ((first | refine rR (fun K kp hK hkp => ?_) | refine cR cc ?_ | refine cR fc ?_ | refine iG ?_); simp (implicitDefEqProofs := false) (maxSteps := 2000000) (disch := omega) only [go_sem, bne_self_eq_false, hpx, hy, eP, eI]; (repeat' (first | (refine hK _ ?_; clear hK hkp kp K) | (with_reducible refine And.intro ?_ ?_) | omega))) | ((first | refine aG (fun h => ?_) (fun h => ?_) | refine aD (fun h => ?_) (fun h => ?_) | refine aX (fun h => ?_) (fun h => ?_)) <;> simp only [h]) | refine awp_cond_t rfl ?_ | refine awp_cond_f rfl ?_ | ((refine awp_cond rfl (fun h => ?_) (fun h => ?_) <;> try simp only [ifs] at h) <;> (try (exfalso; omega))) | refine awp_ret ?_))
      (refine retA_is (by (simp (implicitDefEqProofs := false) (maxSteps := 2000000) (disch := omega) only [go_sem, Go.Proofs.Try.results13]); rfl) ?_; refine eN hE ?_; simp [oneA, ren, renL])
    · rw [thereM, decide_eq_false ht] at fc
      rw [if_neg ht] at hR
      subst hR
      (repeat' (first | refine awp_seq ?_ | refine awp_block ?_ | refine awp_skip ?_ | refine awp_exit ?_ | ((first | refine rR (fun K kp hK hkp => ?_) | refine cR cc ?_ | refine cR fc ?_ | refine iG ?_); simp (implicitDefEqProofs := false) (maxSteps := 2000000) (disch := omega) only [go_sem, bne_self_eq_false, hpx, eP, eI]; (repeat' (first | (refine hK _ ?_; clear hK hkp kp K) | (with_reducible refine And.intro ?_ ?_) | omega))) | ((first | refine aG (fun h => ?_) (fun h => ?_) | refine aD (fun h => ?_) (fun h => ?_) | refine aX (fun h => ?_) (fun h => ?_)) <;> simp only [h]) | refine awp_cond_t rfl ?_ | refine awp_cond_f rfl ?_ | ((refine awp_cond rfl (fun h => ?_) (fun h => ?_) <;> try simp only [ifs] at h) <;> (try (exfalso; omega))) | refine awp_ret ?_))
      (refine retA_is (by (simp (implicitDefEqProofs := false) (maxSteps := 2000000) (disch := omega) only [go_sem, Go.Proofs.Try.results13]); rfl) ?_; refine eN hE ?_; simp [oneA, ren, renL])
  · have z0 : (askM ps root k != 0) = true := by simp [h0]
    refine con_of_awp Go.Proofs.Try.func13 rfl (by kernel_rfl) (of_decide_eq_true (by kernel_rfl)) ?_; intro E hG hE; subst hG; simp only [ent]
    (repeat' (first | refine awp_seq ?_ | refine awp_block ?_ | refine awp_skip ?_ | refine awp_exit ?_ | ((first | refine rR (fun K kp hK hkp => ?_) | refine cR cc ?_ | refine iG ?_); simp (implicitDefEqProofs := false) (maxSteps := 2000000) (disch := omega) only [go_sem, z0]; (repeat' (first | (refine hK _ ?_; clear hK hkp kp K) | (with_reducible refine And.intro ?_ ?_) | omega))) | ((first | refine aG (fun h => ?_) (fun h => ?_) | refine aD (fun h => ?_) (fun h => ?_) | refine aX (fun h => ?_) (fun h => ?_)) <;> simp only [h]) | refine awp_cond_t rfl ?_ | refine awp_cond_f rfl ?_ | ((refine awp_cond rfl (fun h => ?_) (fun h => ?_) <;> try simp only [ifs] at h) <;> (try (exfalso; omega))) | refine awp_ret ?_))
    (refine retA_is (by (simp (implicitDefEqProofs := false) (maxSteps := 2000000) (disch := omega) only [go_sem, Go.Proofs.Try.results13, h0]); rfl) ?_; refine eN hE ?_; simp [oneA, ren, renL, h0])
def foundF (k : Ky) : List Et → Int × Int
  | [] => (0, 8)
  | e :: r => if (e.1 == k) = true then (e.2, 0) else foundF k r
theorem foundF_eq (k : Ky) : ∀ l, foundF k l = foundM l k
  | [] => rfl
  | e :: r => by
    rw [foundF, foundM, List.find?_cons]
    cases h : (e.1 == k)
    · simp only [Bool.false_eq_true, ↓reduceIte]; rw [foundF_eq k r, foundM]
    · simp
set_option maxRecDepth 100000 in
set_option maxHeartbeats 4000000 in
theorem found_con (G : List (Nat × List Value)) (t u : Bool) (ps : List PG) (root : Int) (k : Ky) (ho : okPs2 ps) (R : Int × Int) (hR : askM ps root k = 0 → ∀ r d : Nat, root = r → Trd ps r d → R = foundM (entsF ps d r) k) :
    Con Go.Proofs.Try.prog G 15 [.agg [.ro u 5 (ps.map eP), .r (.int .i64 root)], .ro t 1 (k.map eByte)] [] 0 (Is (findA ps root k R) [] 0) No := by
  have cc := treeAndKey_con G t u ps root k ho
  rw [findA]
  by_cases h0 : askM ps root k = 0
  · obtain ⟨r, d, rfl, h⟩ := trd_of (ask_chk h0)
    have hR := hR h0 r d rfl h
    rw [← foundF_eq] at hR
    rw [h0] at cc ⊢
    have ec := entriesOf_con G u h ho
    have hlen := flatE_len h.ok (lvl ps d [r])
    have := h.many
    have hlen : (entsF ps d r).length ≤ 16000 := by rw [entsF]; omega
    generalize entsF ps d r = l at *
    refine con_of_awp Go.Proofs.Try.func15 rfl (by kernel_rfl) (of_decide_eq_true (by kernel_rfl)) ?_; intro E hG hE; subst hG; simp only [ent]
    (repeat' (first | refine awp_seq ?_ | refine awp_block ?_ | refine awp_skip ?_ | refine awp_exit ?_ | ((first | refine rR (fun K kp hK hkp => ?_) | refine cR cc ?_ | refine cR ec ?_ | refine iG ?_); simp (implicitDefEqProofs := false) (maxSteps := 2000000) (disch := omega) only [go_sem, bne_self_eq_false, eEt]; (repeat' (first | (refine hK _ ?_; clear hK hkp kp K) | (with_reducible refine And.intro ?_ ?_) | omega))) | ((first | refine aG (fun h => ?_) (fun h => ?_) | refine aD (fun h => ?_) (fun h => ?_) | refine aX (fun h => ?_) (fun h => ?_)) <;> simp only [h]) | refine awp_cond_t rfl ?_ | refine awp_cond_f rfl ?_ | ((refine awp_cond rfl (fun h => ?_) (fun h => ?_) <;> try simp only [ifs] at h) <;> (try (exfalso; omega))) | refine awp_ret ?_))
    refine awp_loop (fun j : Nat => ⟨[(8, .r (.int .i64 j)), (7, .ro true 2 (l.map eEt)), (1, .ro t 1 (k.map eByte))], [], 0⟩) (fun j => j ≤ l.length ∧ R = foundF k (l.drop j)) (fun j => l.length - j) 0 ?_ ?_ ?_
    · exact ⟨Nat.zero_le _, hR⟩
    · (refine emb [] ?_ ?_ rfl ?_ ?_ ?_ ?_ <;> simp [okM, okO, lk, ren, renL, renNd, by_, hE] <;> (try omega) <;> (try (intro i hi; first | (rcases i with _ | _ | i; rfl; rfl; (exfalso; omega)) | (rcases i with _ | _ | _ | i; rfl; rfl; rfl; (exfalso; omega)) | (rcases i with _ | _ | _ | _ | i; rfl; rfl; rfl; rfl; (exfalso; omega)) | (rcases i with _ | _ | _ | _ | _ | i; rfl; rfl; rfl; rfl; rfl; (exfalso; omega)) | (rcases i with _ | _ | _ | _ | _ | _ | i; rfl; rfl; rfl; rfl; rfl; rfl; (exfalso; omega)))))
    rintro j ⟨hj, hRj⟩
    by_cases hlt : j < l.length
    · have zj : ((j : Int) < (l.length : Int)) = True := eq_true (by omega)
      obtain ⟨x, hx⟩ : ∃ x, l[j]? = some x := ⟨_, List.getElem?_eq_getElem hlt⟩
      rw [drop_at hx, foundF] at hRj
      cases he : (x.1 == k)
      · rw [he] at hRj
        (repeat' (first | refine awp_seq ?_ | refine awp_block ?_ | refine awp_skip ?_ | refine awp_exit ?_ | ((first | refine rR (fun K kp hK hkp => ?_) | refine cR (sKy_con _ _ _ _ _) ?_ | refine iG ?_); simp (implicitDefEqProofs := false) (maxSteps := 2000000) (disch := omega) only [go_sem, zj, hx, eEt, he]; (repeat' (first | (refine hK _ ?_; clear hK hkp kp K) | (with_reducible refine And.intro ?_ ?_) | omega))) | ((first | refine aG (fun h => ?_) (fun h => ?_) | refine aD (fun h => ?_) (fun h => ?_) | refine aX (fun h => ?_) (fun h => ?_)) <;> simp only [h]) | refine awp_cond_t rfl ?_ | refine awp_cond_f rfl ?_ | ((refine awp_cond rfl (fun h => ?_) (fun h => ?_) <;> try simp only [ifs] at h) <;> (try (exfalso; omega))) | refine awp_ret ?_))
        ((first | (refine nextB (j + 1) ?_ ?_ ?_) | (refine nextA (j + 1) ?_ ?_ ?_) | (refine nextE (j + 1) ?_ ?_ ?_)); rotate_left; (· (try dsimp only); (first | omega | (simp only [List.length_drop, List.length_cons, List.length_append]; omega) | (simp; done) | (simp; omega))); (· (refine emb [] ?_ ?_ rfl ?_ ?_ ?_ ?_ <;> simp [okM, okO, lk, ren, renL, renNd, by_, hE] <;> (try omega) <;> (try (intro i hi; first | (rcases i with _ | _ | i; rfl; rfl; (exfalso; omega)) | (rcases i with _ | _ | _ | i; rfl; rfl; rfl; (exfalso; omega)) | (rcases i with _ | _ | _ | _ | i; rfl; rfl; rfl; rfl; (exfalso; omega)) | (rcases i with _ | _ | _ | _ | _ | i; rfl; rfl; rfl; rfl; rfl; (exfalso; omega)) | (rcases i with _ | _ | _ | _ | _ | _ | i; rfl; rfl; rfl; rfl; rfl; rfl; (exfalso; omega)))))))
        exact ⟨by omega, by simpa using hRj⟩
      · rw [he] at hRj
        have hRj : R = (x.2, 0) := by simpa using hRj
        subst hRj
        (repeat' (first | refine awp_seq ?_ | refine awp_block ?_ | refine awp_skip ?_ | refine awp_exit ?_ | ((first | refine rR (fun K kp hK hkp => ?_) | refine cR (sKy_con _ _ _ _ _) ?_ | refine iG ?_); simp (implicitDefEqProofs := false) (maxSteps := 2000000) (disch := omega) only [go_sem, zj, hx, eEt, he]; (repeat' (first | (refine hK _ ?_; clear hK hkp kp K) | (with_reducible refine And.intro ?_ ?_) | omega))) | ((first | refine aG (fun h => ?_) (fun h => ?_) | refine aD (fun h => ?_) (fun h => ?_) | refine aX (fun h => ?_) (fun h => ?_)) <;> simp only [h]) | refine awp_cond_t rfl ?_ | refine awp_cond_f rfl ?_ | ((refine awp_cond rfl (fun h => ?_) (fun h => ?_) <;> try simp only [ifs] at h) <;> (try (exfalso; omega))) | refine awp_ret ?_))
        (refine retA_is (by (simp (implicitDefEqProofs := false) (maxSteps := 2000000) (disch := omega) only [go_sem, Go.Proofs.Try.results15]); rfl) ?_; refine eN hE ?_; simp [oneA, ren, renL])
    · obtain rfl : j = l.length := by omega
      rw [List.drop_length] at hRj
      obtain rfl : R = (0, 8) := hRj
      (repeat' (first | refine awp_seq ?_ | refine awp_block ?_ | refine awp_skip ?_ | refine awp_exit ?_ | ((first | refine rR (fun K kp hK hkp => ?_) | refine iG ?_); simp (implicitDefEqProofs := false) (maxSteps := 2000000) (disch := omega) only [go_sem]; (repeat' (first | (refine hK _ ?_; clear hK hkp kp K) | (with_reducible refine And.intro ?_ ?_) | omega))) | ((first | refine aG (fun h => ?_) (fun h => ?_) | refine aD (fun h => ?_) (fun h => ?_) | refine aX (fun h => ?_) (fun h => ?_)) <;> simp only [h]) | refine awp_cond_t rfl ?_ | refine awp_cond_f rfl ?_ | ((refine awp_cond rfl (fun h => ?_) (fun h => ?_) <;> try simp only [ifs] at h) <;> (try (exfalso; omega))) | refine awp_ret ?_))
      (refine retA_is (by (simp (implicitDefEqProofs := false) (maxSteps := 2000000) (disch := omega) only [go_sem, Go.Proofs.Try.results15]); rfl) ?_; refine eN hE ?_; simp [oneA, ren, renL])
  · have z0 : (askM ps root k != 0) = true := by simp [h0]
    refine con_of_awp Go.Proofs.Try.func15 rfl (by kernel_rfl) (of_decide_eq_true (by kernel_rfl)) ?_; intro E hG hE; subst hG; simp only [ent]
    (repeat' (first | refine awp_seq ?_ | refine awp_block ?_ | refine awp_skip ?_ | refine awp_exit ?_ | ((first | refine rR (fun K kp hK hkp => ?_) | refine cR cc ?_ | refine iG ?_); simp (implicitDefEqProofs := false) (maxSteps := 2000000) (disch := omega) only [go_sem, z0]; (repeat' (first | (refine hK _ ?_; clear hK hkp kp K) | (with_reducible refine And.intro ?_ ?_) | omega))) | ((first | refine aG (fun h => ?_) (fun h => ?_) | refine aD (fun h => ?_) (fun h => ?_) | refine aX (fun h => ?_) (fun h => ?_)) <;> simp only [h]) | refine awp_cond_t rfl ?_ | refine awp_cond_f rfl ?_ | ((refine awp_cond rfl (fun h => ?_) (fun h => ?_) <;> try simp only [ifs] at h) <;> (try (exfalso; omega))) | refine awp_ret ?_))
    (refine retA_is (by (simp (implicitDefEqProofs := false) (maxSteps := 2000000) (disch := omega) only [go_sem, Go.Proofs.Try.results15, h0]); rfl) ?_; refine eN hE ?_; simp [oneA, ren, renL, h0])
theorem finds_same (ps : List PG) (root : Int) (k : Ky) : ∃ R : Int × Int, ∀ r d : Nat, root = r → Trd ps r d → R = findM (pg ps (leafF ps k d r)) k ∧ R = foundM (entsF ps d r) k := by
  by_cases h : ∃ r d : Nat, root = r ∧ Trd ps r d
  · obtain ⟨r, d, rfl, h⟩ := h
    refine ⟨findM (pg ps (leafF ps k d r)) k, fun r' d' e h' => ?_⟩
    obtain rfl : r = r' := by omega
    obtain rfl := good_deep (kids_ne h.ok) d r _ _ _ _ d' h.good h'.good
    exact ⟨rfl, (found_find h.ok h.good k (h.leaf k)).symm⟩
  · exact ⟨(0, 0), fun r d e h' => absurd ⟨r, d, e, h'⟩ h⟩
set_option maxRecDepth 100000 in
set_option maxHeartbeats 4000000 in
theorem lawFinds_con (G : List (Nat × List Value)) (ps : List PG) (root : Int) (k : Ky) (ho : okPs2 ps) (hk : k.length ≤ 1048576) : Con Go.Proofs.Try.prog G 4 [.agg [.ro true 5 (ps.map eP), .r (.int .i64 root)], .ro true 1 (k.map eByte)] [] 0 (Is (.r (.bool true)) [] 0) No := by
  obtain ⟨R, hR⟩ := finds_same ps root k
  have tc := trees_con G true ps root ho
  have oc := octetsT_con G true k (by omega)
  have fc := find2_con G true ps root k ho R fun _ r d e h => (hR r d e h).1
  have gc := found_con G true true ps root k ho R fun _ r d e h => (hR r d e h).2
  rw [findA] at fc gc
  refine con_of_awp Go.Proofs.Try.func4 rfl (by kernel_rfl) (of_decide_eq_true (by kernel_rfl)) ?_; intro E hG hE; subst hG; simp only [ent]
  (repeat' (first | refine awp_seq ?_ | refine awp_block ?_ | refine awp_skip ?_ | refine awp_exit ?_ | ((first | refine rR (fun K kp hK hkp => ?_) | refine cR tc ?_ | refine cR oc ?_ | refine cR fc ?_ | refine cR gc ?_ | refine iG ?_); simp (implicitDefEqProofs := false) (maxSteps := 2000000) (disch := omega) only [go_sem, beq_self_eq_true]; (repeat' (first | (refine hK _ ?_; clear hK hkp kp K) | (with_reducible refine And.intro ?_ ?_) | omega))) | ((first | refine aG (fun h => ?_) (fun h => ?_) | refine aD (fun h => ?_) (fun h => ?_) | refine aX (fun h => ?_) (fun h => ?_)) <;> simp only [h]) | refine awp_cond_t rfl ?_ | refine awp_cond_f rfl ?_ | ((refine awp_cond rfl (fun h => ?_) (fun h => ?_) <;> try simp only [ifs] at h) <;> (try (exfalso; omega))) | refine awp_ret ?_))
  (refine retA_is (by (simp (implicitDefEqProofs := false) (maxSteps := 2000000) (disch := omega) only [go_sem, Go.Proofs.Try.results4]); rfl) ?_; refine eN hE ?_; simp [oneA, ren, renL])
end Go.AM
/- How arguments that came in read: lemmas out of the kit's readings, in the walks' own terms. -/
namespace Go.Proofs.Yteebiklebedneaa
open Go.ChangeShapes Go.WideShapes Go.ChangeAt Go.RowKit
theorem own : ownKnob Try.prog.godebug = none := by kernel_rfl
theorem laidOut : laidOutB Try.prog = true := by kernel_rfl
set_option maxRecDepth 100000 in
theorem open_i64 {H : Type} {enc : TypeId × Value → H} {w : World} {base : Nat} {spare : Nat → Bool} {held : Bool} {b0 : Nat} {v : Value} {d : DataW H} {p : List MemPlace}
    (hv : Value.okWide Try.prog w .any b0 3 v) (h : DataW.Trod enc Try.prog w base spare held 3 v d p) : ∃ n : Int, v = .int .i64 n ∧ (Lit.int .i64 n).wf = true := by
  obtain ⟨n, rfl, _, _, w0⟩ := open_int Try.underlying3 hv h
  exact ⟨n, rfl, w0⟩
theorem i64_bd {n : Int} (h : (Lit.int .i64 n).wf = true) : -9223372036854775808 ≤ n ∧ n ≤ 9223372036854775807 := by
  simp [Lit.wf, IntKind.min, IntKind.max, IntKind.signed, IntKind.bits] at h
  omega
end Go.Proofs.Yteebiklebedneaa
/- How bytes that came in read; bulk. -/
namespace Go.Proofs.Yteebiklebedneaa
open Go.ChangeShapes Go.WideShapes Go.ChangeAt Go.RowKit Go.AM
theorem bulk_one {H : Type} (d : DataW H) : 1 ≤ Rows.uptoBulk d := by
  cases d with
  | lit l => cases l <;> simp [Rows.uptoBulk]
  | nil => simp [Rows.uptoBulk]
  | ptr d => simp [Rows.uptoBulk]
  | slice elems spare => simp [Rows.uptoBulk]
  | agg parts => simp [Rows.uptoBulk]
  | iface t d => simp [Rows.uptoBulk]
  | map entries => simp [Rows.uptoBulk]
  | held h => simp [Rows.uptoBulk]
theorem bulk_length {H : Type} : ∀ l : List (DataW H), l.length ≤ Rows.uptoBulkAll l
  | [] => by simp [Rows.uptoBulkAll]
  | x :: r => by have := bulk_one x; have := bulk_length r; simp only [Rows.uptoBulkAll, List.length_cons]; omega
theorem bulk_slice {H : Type} (ds rest : List (DataW H)) : ds.length + 1 ≤ Rows.uptoBulk (.slice ds rest) := by
  have := bulk_length ds
  simp only [Rows.uptoBulk]; omega
theorem bulk_bound {H : Type} {l : List (DataW H)} (hk : Rows.uptoSmall H l = true) : Rows.uptoBulkAll l ≤ 1048576 := of_decide_eq_true hk
theorem bulk_of {H α : Type} {l : List α} {R : α → DataW H → Prop} {d : DataW H} (h : (l = [] ∧ d = .nil) ∨ ∃ ds rest, d = .slice ds rest ∧ ds.length = l.length ∧ ∀ (i : Nat) y, l[i]? = some y → ∃ d, ds[i]? = some d ∧ R y d) : l.length ≤ Rows.uptoBulk d := by
  rcases h with ⟨rfl, _⟩ | ⟨ds, rest, rfl, h, _⟩
  · exact Nat.zero_le _
  · have := bulk_slice ds rest; omega
end Go.Proofs.Yteebiklebedneaa
/- How bytes that came in read. -/
namespace Go.Proofs.Yteebiklebedneaa
open Go.ChangeShapes Go.WideShapes Go.ChangeAt Go.RowKit Go.AM
theorem leaf_u8 {H : Type} {E : TypeId × Value → H} {w : World} {base : Nat} {spare : Nat → Bool} {held : Bool} (fuel : Nat) (cs : List Value) (x : DataW H × List MemPlace)
    (h : DataW.trod E Try.prog w base spare held fuel 5 cs = some x) : ∃ y : UInt8, Reps w (zAll w) [] (eByte y) cs ∧ (∀ v ∈ cs, v.oneCell' = true) ∧ True := by
  obtain ⟨n, rfl, _, wf⟩ := DataW.trod_int Try.underlying5 h
  have hb : 0 ≤ n ∧ n ≤ 255 := by simpa [Lit.wf, IntKind.min, IntKind.max, IntKind.signed, IntKind.bits] using wf
  refine ⟨UInt8.ofNat n.toNat, ?_, by simp [Value.oneCell'], trivial⟩
  have : ((UInt8.ofNat n.toNat).toNat : Int) = n := by
    rw [UInt8.toNat_ofNat_of_lt' (by simp [UInt8.size]; omega)]; omega
  rw [eByte, this]
  exact rep1 (.r _ _)
/-- Bytes that came in. -/
theorem open_bytes {H : Type} {E : TypeId × Value → H} {w : World} {base : Nat} {spare : Nat → Bool} {held : Bool} {b0 : Nat} {v : Value} {d : DataW H} {p : List MemPlace}
    (hv : Value.okWide Try.prog w .any b0 30 v) (h : DataW.Trod E Try.prog w base spare held 30 v d p) :
    ∃ l : List UInt8, Rep w (zAll w) [] (.ro true 1 (l.map eByte)) v ∧ l.length ≤ Rows.uptoBulk d ∧ (l = [] ∨ ∃ el sp, d = .slice el sp ∧ el.length = l.length) := by
  obtain ⟨f, hf⟩ := h
  obtain ⟨u, l, h1, h2, _, h3⟩ := open_ro eByte (fun _ _ => True) true Try.underlying30 (show Try.prog.cellsOf 5 = 1 by kernel_rfl) (by omega) leaf_u8 hf
  obtain ⟨a', n', c', rfl⟩ := okWide_slice Try.underlying30 hv
  obtain rfl : Value.slice a' n' c' = u := List.head_eq_of_cons_eq (show [Value.slice a' n' c'] = [u] from h1)
  exact ⟨l, h2, bulk_of h3, h3.imp (fun h => h.1) (fun ⟨ds, rest, h4, h5, _⟩ => ⟨ds, rest, h4, h5⟩)⟩
end Go.Proofs.Yteebiklebedneaa
/- How a tree that came in reads. -/
namespace Go.Proofs.Yteebiklebedneaa
open Go.ChangeShapes Go.WideShapes Go.ChangeAt Go.RowKit Go.AM
theorem bulk_mem {H : Type} : ∀ {l : List (DataW H)} {d : DataW H}, d ∈ l → Rows.uptoBulk d ≤ Rows.uptoBulkAll l
  | x :: r, d, h => by
    rcases List.mem_cons.1 h with rfl | h
    · simp only [Rows.uptoBulkAll]; omega
    · have := bulk_mem h; simp only [Rows.uptoBulkAll]; omega
/-- What holds of an element by its own bulk holds of all by the slice's. -/
theorem bulk_all {H α : Type} {l : List α} {f : α → Nat} {d : DataW H} (h : (l = [] ∧ d = .nil) ∨ ∃ ds rest, d = .slice ds rest ∧ ds.length = l.length ∧ ∀ (i : Nat) y, l[i]? = some y → ∃ d, ds[i]? = some d ∧ f y ≤ Rows.uptoBulk d) : ∀ y ∈ l, f y ≤ Rows.uptoBulk d := by
  intro c hc
  obtain ⟨i, hi⟩ := List.mem_iff_getElem?.1 hc
  rcases h with ⟨rfl, _⟩ | ⟨ds, rest, rfl, _, h6⟩
  · simp at hi
  · obtain ⟨d, h1, h2⟩ := h6 i c hi
    have := bulk_mem (List.mem_of_getElem? h1)
    simp only [Rows.uptoBulk]; omega
theorem cellsU8 : Try.prog.cellsOf 5 = 1 := by kernel_rfl
theorem cellsKy : Try.prog.cellsOf 30 = 1 := by kernel_rfl
theorem cellsIn : Try.prog.cellsOf 3 = 1 := by kernel_rfl
theorem leaf_int1 {H : Type} {E : TypeId × Value → H} {w : World} {base : Nat} {spare : Nat → Bool} {held : Bool} (fuel : Nat) (cs : List Value) (x : DataW H × List MemPlace)
    (h : DataW.trod E Try.prog w base spare held fuel 3 cs = some x) : ∃ y : Int, Reps w (zAll w) [] (eI y) cs ∧ (∀ v ∈ cs, v.oneCell' = true) ∧ True := by
  obtain ⟨n, rfl, _, _⟩ := DataW.trod_int Try.underlying3 h
  exact ⟨n, .cons (.r _ _) .nil, by simp [Value.oneCell'], trivial⟩
theorem leaf_ky {H : Type} {E : TypeId × Value → H} {w : World} {base : Nat} {spare : Nat → Bool} {held : Bool} (fuel : Nat) (cs : List Value) (x : DataW H × List MemPlace)
    (h : DataW.trod E Try.prog w base spare held fuel 30 cs = some x) : ∃ y : Ky, Reps w (zAll w) [] (eKy y) cs ∧ (∀ v ∈ cs, v.oneCell' = true) ∧ y.length ≤ Rows.uptoBulk x.1 := by
  obtain ⟨u, l, h1, h2, h4, h3⟩ := open_ro eByte (fun _ _ => True) true Try.underlying30 cellsU8 (by omega) leaf_u8 h
  subst h1
  exact ⟨l, .cons h2 .nil, by simpa using h4, bulk_of h3⟩
theorem list5 {α : Type} {l : List α} (h : l.length = 5) : ∃ a b c d e, l = [a, b, c, d, e] := by
  match l, h with
  | [a, b, c, d, e], _ => exact ⟨a, b, c, d, e, rfl⟩
def okP (p : PG) (n : Nat) : Prop := p.keys.length ≤ n ∧ p.kids.length ≤ n ∧ p.high.length ≤ n ∧ ∀ k ∈ p.keys, k.length ≤ n
theorem cellsPg : Try.prog.cellsOf 52 = 5 := by kernel_rfl
set_option maxRecDepth 100000 in
theorem leaf_pg {H : Type} {E : TypeId × Value → H} {w : World} {base : Nat} {spare : Nat → Bool} {held : Bool} (fuel : Nat) (cs : List Value) (x : DataW H × List MemPlace)
    (h : DataW.trod E Try.prog w base spare held fuel 52 cs = some x) : ∃ y : PG, Reps w (zAll w) [] (eP y) cs ∧ (∀ v ∈ cs, v.oneCell' = true) ∧ okP y (Rows.uptoBulk x.1) := by
  obtain ⟨xs, n, _, hx, hl, hxl, hff⟩ := DataW.trod_struct Try.underlying52 h
  rw [cellsPg] at hl
  obtain ⟨c0, c1, c2, c3, c4, rfl⟩ := list5 hl
  obtain ⟨x0, x1, x2, x3, x4, rfl⟩ := list5 (l := xs) hxl
  have cb : Try.prog.cellsOf 4 = 1 := by kernel_rfl
  have ck : Try.prog.cellsOf 49 = 1 := by kernel_rfl
  have ci : Try.prog.cellsOf 50 = 1 := by kernel_rfl
  have h0 : DataW.trod E Try.prog w base spare held n 4 (([c0, c1, c2, c3, c4].drop 0).take (Try.prog.cellsOf 4)) = some x0 := hff 0 _ rfl
  rw [cb] at h0
  have h1 : DataW.trod E Try.prog w base spare held n 49 (([c0, c1, c2, c3, c4].drop 1).take (Try.prog.cellsOf 49)) = some x1 := hff 1 _ rfl
  rw [ck] at h1
  have h2 : DataW.trod E Try.prog w base spare held n 50 (([c0, c1, c2, c3, c4].drop 2).take (Try.prog.cellsOf 50)) = some x2 := hff 2 _ rfl
  rw [ci] at h2
  have h3 : DataW.trod E Try.prog w base spare held n 30 (([c0, c1, c2, c3, c4].drop 3).take (Try.prog.cellsOf 30)) = some x3 := hff 3 _ rfl
  rw [cellsKy] at h3
  have h4 : DataW.trod E Try.prog w base spare held n 3 (([c0, c1, c2, c3, c4].drop 4).take (Try.prog.cellsOf 3)) = some x4 := hff 4 _ rfl
  rw [cellsIn] at h4
  obtain ⟨lf, e0, _⟩ := DataW.trod_bool Try.underlying4 h0
  obtain ⟨u1, lk, e1, r1, o1, g1⟩ := open_ro eKy (fun y d => y.length ≤ Rows.uptoBulk d) true Try.underlying49 cellsKy (by omega) leaf_ky h1
  obtain ⟨u2, li, e2, r2, o2, g2⟩ := open_ro eI (fun _ _ => True) true Try.underlying50 cellsIn (by omega) leaf_int1 h2
  obtain ⟨u3, lh, e3, r3, o3, g3⟩ := open_ro eByte (fun _ _ => True) true Try.underlying30 cellsU8 (by omega) leaf_u8 h3
  obtain ⟨nx, e4, _, _⟩ := DataW.trod_int Try.underlying3 h4
  simp at e0 e1 e2 e3 e4
  subst e0 e1 e2 e3 e4
  refine ⟨⟨lf, lk, li, lh, nx⟩, .cons (.r _ _) (.cons r1 (.cons r2 (.cons r3 (.cons (.r _ _) .nil)))), (by
    intro v hv
    simp only [List.mem_cons, List.not_mem_nil, or_false] at hv
    rcases hv with rfl | rfl | rfl | rfl | rfl <;> first | rfl | assumption), ?_⟩
  rw [hx]
  have b1 := bulk_of g1
  have b2 := bulk_of g2
  have b3 := bulk_of g3
  have b4 := bulk_all g1
  simp only [List.map_cons, List.map_nil, Rows.uptoBulk, Rows.uptoBulkAll]
  exact ⟨by simp only; omega, by simp only; omega, by simp only; omega, fun k hk => by have := b4 k hk; omega⟩
theorem cellsTr : Try.prog.cellsOf 24 = 2 := by kernel_rfl
set_option maxRecDepth 100000 in
/-- A tree that came in. -/
theorem open_tree {H : Type} {enc : TypeId × Value → H} {w : World} {base : Nat} {spare : Nat → Bool} {held : Bool} {b0 : Nat} {v : Value} {d : DataW H} {p : List MemPlace}
    (hv : Value.okWide Try.prog w .any b0 24 v) (h : DataW.Trod enc Try.prog w base spare held 24 v d p) :
    ∃ (ps : List PG) (root : Int), Rep w (zAll w) [] (.agg [.ro true 5 (ps.map eP), .r (.int .i64 root)]) v ∧ (Rows.uptoBulk d ≤ 1048576 → okPs2 ps) := by
  obtain ⟨c0, c1, y0, y1, m, rfl, rfl, _, h0, h1⟩ := Joins.open_agg2 Try.underlying24 (by kernel_rfl) cellsTr hv h
  obtain ⟨u0, l, e0, r0, o0, g0⟩ := open_ro eP (fun y d => okP y (Rows.uptoBulk d)) true Try.underlying22 cellsPg (by omega) leaf_pg h0
  obtain ⟨rt, e1, _, _⟩ := DataW.trod_int Try.underlying3 h1
  simp at e0 e1
  subst e0 e1
  have hr : Reps w (zAll w) [] [.ro true 5 (l.map eP), .r (.int .i64 rt)] [c0, .int .i64 rt] := .cons r0 (.cons (.r _ _) .nil)
  refine ⟨l, rt, .agg _ _ _ hr.1 hr.2, fun hb => ?_⟩
  simp only [Rows.uptoBulk, Rows.uptoBulkAll] at hb
  have b0 := bulk_of g0
  refine ⟨by omega, fun q hq => ?_⟩
  obtain ⟨i, hi⟩ := List.mem_iff_getElem?.1 hq
  rcases g0 with ⟨rfl, _⟩ | ⟨ds, rest, hd, _, h6⟩
  · simp at hi
  · obtain ⟨d, k1, k2, k3, k4, k5⟩ := h6 i q hi
    have k6 := bulk_mem (List.mem_of_getElem? k1)
    rw [hd] at hb
    simp only [Rows.uptoBulk] at hb
    exact ⟨by omega, by omega, by omega, fun k hk => by have := k5 k hk; omega⟩
end Go.Proofs.Yteebiklebedneaa
