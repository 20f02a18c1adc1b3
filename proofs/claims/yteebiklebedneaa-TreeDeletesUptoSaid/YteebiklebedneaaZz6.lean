/- Texts of the law TreeDeletes, part 6: lemmas; what is proved stands in the last text. -/
import Derived.Test.YteebiklebedneaaZz5
import Derived.Test.YteebiklebedneaaZz4
import Derived.OrdersIn
import Derived.OwnWalkIn
import Derived.RangeFuncNested
import Derived.RangeFuncLeaves
import Derived.Laws.AppendOwn
import Derived.Handy
import Derived.WalkSpells
import Derived.Deep.Light
import Derived.Lib.LazyBuf
import Derived.Sort.Grow
import Derived.Sort.Row
import Derived.Shelf.RegionOpenPlain
import Derived.Deep.LoopGhost
import Derived.Deep.RegionLaw
import Derived.Lib.Walk
import Derived.Lib.SliceRun
import Derived.Lib.ReflectliteSwap
import Derived.Lib.Hide
import Derived.Test.YteebiklebedneaaRows
import Derived.WalkKit
import Derived.ProofKit
import Derived.OpenShut
import Derived.ShutString
import Derived.ChangeOld
import Derived.Below
import Derived.Lib.SmallJoins
import Derived.Test.YteebiklebedneaaZz1
import Derived.JoinedCond
import Derived.SizedLaws
set_option linter.unusedSimpArgs false
set_option linter.unusedVariables false
/- tree.Find and FoundIn; the law TreeFinds. -/
namespace Go.AM
open Go Go.RowKit
attribute [local irreducible] AWP retA
theorem octetsT_con (G : List (Nat × List Value)) (t : Bool) (l : Ky) (hl : l.length ≤ 140737488351232) : Con Go.Proofs.Try.prog G 14 [.ro t 1 (l.map eByte)] [] 0 (Is (.ro true 1 (l.map eByte)) [] 0) No := by
  refine con_of_awp Go.Proofs.Try.func14 rfl (by kernel_rfl) (of_decide_eq_true (by kernel_rfl)) ?_; intro E hG hE; subst hG; simp only [ent]
  (repeat' (first | refine awp_seq ?_ | refine awp_block ?_ | refine awp_skip ?_ | refine awp_exit ?_ | ((first | refine rR (fun K kp hK hkp => ?_) | refine iG ?_); simp (implicitDefEqProofs := false) (maxSteps := 2000000) (disch := omega) only [go_sem]; (repeat' (first | (refine hK _ ?_; clear hK hkp kp K) | (with_reducible refine And.intro ?_ ?_) | omega))) | ((first | refine aG (fun h => ?_) (fun h => ?_) | refine aD (fun h => ?_) (fun h => ?_) | refine aX (fun h => ?_) (fun h => ?_)) <;> simp only [h]) | refine awp_cond_t rfl ?_ | refine awp_cond_f rfl ?_ | ((refine awp_cond rfl (fun h => ?_) (fun h => ?_) <;> try simp only [ifs] at h) <;> (try (exfalso; omega))) | refine awp_ret ?_))
  (refine retA_is (by (simp (implicitDefEqProofs := false) (maxSteps := 2000000) (disch := omega) only [go_sem, Go.Proofs.Try.results14]); rfl) ?_; refine embS_frz (by simp only [oneA]; simp (implicitDefEqProofs := false) (maxSteps := 2000000) (disch := omega) only [go_sem]; rfl) ?_; refine (embV_nil hE (by simp) ?_).s; simp [oneA, ren, renL])
noncomputable def askM (ps : List PG) (root : Int) (k : Ky) : Int := if chkR ps root ≠ 0 then chkR ps root else if keyB k = true then 0 else 1
theorem checked_con (G : List (Nat × List Value)) (t : Bool) (ps : List PG) (root : Int) (k : Ky) (ho : okPs2 ps) : Con Go.Proofs.Try.prog G 34 [.agg [.ro true 5 (ps.map eP), .r (.int .i64 root)], .ro t 1 (k.map eByte)] [] 0 (Is (.r (.int .i64 (askM ps root k))) [] 0) No := by
  have cc := check_con2 G ps root (okPs_of ho)
  obtain ⟨c, hc⟩ : ∃ c, chkR ps root = c := ⟨_, rfl⟩
  rw [askM]
  rw [hc] at cc ⊢
  refine con_of_awp Go.Proofs.Try.func34 rfl (by kernel_rfl) (of_decide_eq_true (by kernel_rfl)) ?_; intro E hG hE; subst hG; simp only [ent]
  by_cases h0 : c = 0
  · subst h0
    cases hk : keyB k
    · have kc := key_con E.G t k
      rw [hk] at kc
      (repeat' (first | refine awp_seq ?_ | refine awp_block ?_ | refine awp_skip ?_ | refine awp_exit ?_ | ((first | refine rR (fun K kp hK hkp => ?_) | refine cR cc ?_ | refine cR kc ?_ | refine iG ?_); simp (implicitDefEqProofs := false) (maxSteps := 2000000) (disch := omega) only [go_sem, bne_self_eq_false]; (repeat' (first | (refine hK _ ?_; clear hK hkp kp K) | (with_reducible refine And.intro ?_ ?_) | omega))) | ((first | refine aG (fun h => ?_) (fun h => ?_) | refine aD (fun h => ?_) (fun h => ?_) | refine aX (fun h => ?_) (fun h => ?_)) <;> simp only [h]) | refine awp_cond_t rfl ?_ | refine awp_cond_f rfl ?_ | ((refine awp_cond rfl (fun h => ?_) (fun h => ?_) <;> try simp only [ifs] at h) <;> (try (exfalso; omega))) | refine awp_ret ?_))
      (refine retA_is (by (simp (implicitDefEqProofs := false) (maxSteps := 2000000) (disch := omega) only [go_sem, Go.Proofs.Try.results34]); rfl) ?_; refine eN hE ?_; simp [oneA, ren, renL])
    · have kc := key_con E.G t k
      rw [hk] at kc
      (repeat' (first | refine awp_seq ?_ | refine awp_block ?_ | refine awp_skip ?_ | refine awp_exit ?_ | ((first | refine rR (fun K kp hK hkp => ?_) | refine cR cc ?_ | refine cR kc ?_ | refine iG ?_); simp (implicitDefEqProofs := false) (maxSteps := 2000000) (disch := omega) only [go_sem, bne_self_eq_false]; (repeat' (first | (refine hK _ ?_; clear hK hkp kp K) | (with_reducible refine And.intro ?_ ?_) | omega))) | ((first | refine aG (fun h => ?_) (fun h => ?_) | refine aD (fun h => ?_) (fun h => ?_) | refine aX (fun h => ?_) (fun h => ?_)) <;> simp only [h]) | refine awp_cond_t rfl ?_ | refine awp_cond_f rfl ?_ | ((refine awp_cond rfl (fun h => ?_) (fun h => ?_) <;> try simp only [ifs] at h) <;> (try (exfalso; omega))) | refine awp_ret ?_))
      (refine retA_is (by (simp (implicitDefEqProofs := false) (maxSteps := 2000000) (disch := omega) only [go_sem, Go.Proofs.Try.results34]); rfl) ?_; refine eN hE ?_; simp [oneA, ren, renL])
  · have z0 : (c != 0) = true := by simp [h0]
    (repeat' (first | refine awp_seq ?_ | refine awp_block ?_ | refine awp_skip ?_ | refine awp_exit ?_ | ((first | refine rR (fun K kp hK hkp => ?_) | refine cR cc ?_ | refine iG ?_); simp (implicitDefEqProofs := false) (maxSteps := 2000000) (disch := omega) only [go_sem, z0]; (repeat' (first | (refine hK _ ?_; clear hK hkp kp K) | (with_reducible refine And.intro ?_ ?_) | omega))) | ((first | refine aG (fun h => ?_) (fun h => ?_) | refine aD (fun h => ?_) (fun h => ?_) | refine aX (fun h => ?_) (fun h => ?_)) <;> simp only [h]) | refine awp_cond_t rfl ?_ | refine awp_cond_f rfl ?_ | ((refine awp_cond rfl (fun h => ?_) (fun h => ?_) <;> try simp only [ifs] at h) <;> (try (exfalso; omega))) | refine awp_ret ?_))
    (refine retA_is (by (simp (implicitDefEqProofs := false) (maxSteps := 2000000) (disch := omega) only [go_sem, Go.Proofs.Try.results34, h0]); rfl) ?_; refine eN hE ?_; simp [oneA, ren, renL, h0])
theorem treeAndKey_con (G : List (Nat × List Value)) (t u : Bool) (ps : List PG) (root : Int) (k : Ky) (ho : okPs2 ps) : Con Go.Proofs.Try.prog G 36 [.agg [.ro u 5 (ps.map eP), .r (.int .i64 root)], .ro t 1 (k.map eByte)] [] 0 (Is (.r (.int .i64 (askM ps root k))) [] 0) No := by
  have cc := treeFault_con G u ps root (okPs_of ho) ho.1
  obtain ⟨c, hc⟩ : ∃ c, chkR ps root = c := ⟨_, rfl⟩
  rw [askM]
  rw [← chk_flt, hc] at cc
  rw [hc]
  refine con_of_awp Go.Proofs.Try.func36 rfl (by kernel_rfl) (of_decide_eq_true (by kernel_rfl)) ?_; intro E hG hE; subst hG; simp only [ent]
  by_cases h0 : c = 0
  · subst h0
    cases hk : keyB k
    · have kc := keyMay_con E.G t k
      rw [hk] at kc
      (repeat' (first | refine awp_seq ?_ | refine awp_block ?_ | refine awp_skip ?_ | refine awp_exit ?_ | ((first | refine rR (fun K kp hK hkp => ?_) | refine cR cc ?_ | refine cR kc ?_ | refine iG ?_); simp (implicitDefEqProofs := false) (maxSteps := 2000000) (disch := omega) only [go_sem, beq_self_eq_true]; (repeat' (first | (refine hK _ ?_; clear hK hkp kp K) | (with_reducible refine And.intro ?_ ?_) | omega))) | ((first | refine aG (fun h => ?_) (fun h => ?_) | refine aD (fun h => ?_) (fun h => ?_) | refine aX (fun h => ?_) (fun h => ?_)) <;> simp only [h]) | refine awp_cond_t rfl ?_ | refine awp_cond_f rfl ?_ | ((refine awp_cond rfl (fun h => ?_) (fun h => ?_) <;> try simp only [ifs] at h) <;> (try (exfalso; omega))) | refine awp_ret ?_))
      (refine retA_is (by (simp (implicitDefEqProofs := false) (maxSteps := 2000000) (disch := omega) only [go_sem, Go.Proofs.Try.results36]); rfl) ?_; refine eN hE ?_; simp [oneA, ren, renL])
    · have kc := keyMay_con E.G t k
      rw [hk] at kc
      (repeat' (first | refine awp_seq ?_ | refine awp_block ?_ | refine awp_skip ?_ | refine awp_exit ?_ | ((first | refine rR (fun K kp hK hkp => ?_) | refine cR cc ?_ | refine cR kc ?_ | refine iG ?_); simp (implicitDefEqProofs := false) (maxSteps := 2000000) (disch := omega) only [go_sem, beq_self_eq_true]; (repeat' (first | (refine hK _ ?_; clear hK hkp kp K) | (with_reducible refine And.intro ?_ ?_) | omega))) | ((first | refine aG (fun h => ?_) (fun h => ?_) | refine aD (fun h => ?_) (fun h => ?_) | refine aX (fun h => ?_) (fun h => ?_)) <;> simp only [h]) | refine awp_cond_t rfl ?_ | refine awp_cond_f rfl ?_ | ((refine awp_cond rfl (fun h => ?_) (fun h => ?_) <;> try simp only [ifs] at h) <;> (try (exfalso; omega))) | refine awp_ret ?_))
      (refine retA_is (by (simp (implicitDefEqProofs := false) (maxSteps := 2000000) (disch := omega) only [go_sem, Go.Proofs.Try.results36]); rfl) ?_; refine eN hE ?_; simp [oneA, ren, renL])
  · have z0 : (c == 0) = false := by simp [h0]
    (repeat' (first | refine awp_seq ?_ | refine awp_block ?_ | refine awp_skip ?_ | refine awp_exit ?_ | ((first | refine rR (fun K kp hK hkp => ?_) | refine cR cc ?_ | refine iG ?_); simp (implicitDefEqProofs := false) (maxSteps := 2000000) (disch := omega) only [go_sem, z0]; (repeat' (first | (refine hK _ ?_; clear hK hkp kp K) | (with_reducible refine And.intro ?_ ?_) | omega))) | ((first | refine aG (fun h => ?_) (fun h => ?_) | refine aD (fun h => ?_) (fun h => ?_) | refine aX (fun h => ?_) (fun h => ?_)) <;> simp only [h]) | refine awp_cond_t rfl ?_ | refine awp_cond_f rfl ?_ | ((refine awp_cond rfl (fun h => ?_) (fun h => ?_) <;> try simp only [ifs] at h) <;> (try (exfalso; omega))) | refine awp_ret ?_))
    (refine retA_is (by (simp (implicitDefEqProofs := false) (maxSteps := 2000000) (disch := omega) only [go_sem, Go.Proofs.Try.results36, h0]); rfl) ?_; refine eN hE ?_; simp [oneA, ren, renL, h0])
/-- What is asked of a tree that may be. -/
structure Trd (ps : List PG) (r d : Nat) : Prop where
  ok : AllOK ps
  kin : ∀ i x, x ∈ kidsOf ps i → x < ps.length
  good : Good ps d r [] []
  rl : r < ps.length
  n : ps.length ≤ 4000
  dl : d < ps.length
  tr : TreeOK ps r d
theorem trd_of {ps : List PG} {root : Int} (h : ChkOK ps root) : ∃ r d : Nat, root = r ∧ Trd ps r d := by
  obtain ⟨d, T⟩ := tree_of_chk h
  refine ⟨root.toNat, d, by have := h.r0; omega, h.pg, kids_in h.pg, T.good, by have := h.r0; have := h.r1; omega, h.n2, ?_, T⟩
  have hpm := one_pre ps d root.toNat
  have hd := pre_deep (kids_ne h.pg) d root.toNat [] [] T.good
  rw [hpm.length_eq, T.all] at hd
  omega
theorem lvl_cat (ps : List PG) : ∀ (d : Nat) (l : List Nat), (lvl ps d l).length ≤ (cat ps d l).length
  | 0, l => Nat.le_refl _
  | d + 1, l => by
    have := lvl_cat ps d (l.flatMap (kidsOf ps))
    rw [lvl, cat, List.length_append]; omega
theorem Trd.many {ps : List PG} {r d : Nat} (h : Trd ps r d) : (lvl ps d [r]).length ≤ 4000 := by
  have := lvl_cat ps d [r]
  have := h.tr.all
  have := h.n
  omega
theorem Trd.leaf {ps : List PG} {r d : Nat} (h : Trd ps r d) (k : Ky) : leafF ps k d r < ps.length := by
  obtain ⟨_, _, _, b4⟩ := path_step h.ok k d r [] [] h.good (.inl rfl) d _ (path_last ps k d r)
  rcases b4 with e | ⟨y, hy⟩
  · rw [e]; exact h.rl
  · exact h.kin y _ hy
theorem entriesOf_con (G : List (Nat × List Value)) (t : Bool) {ps : List PG} {r d : Nat} (h : Trd ps r d) (ho : okPs2 ps) : Con Go.Proofs.Try.prog G 37 [.agg [.ro t 5 (ps.map eP), .r (.int .i64 r)]] [] 0 (Is (.ro true 2 ((entsF ps d r).map eEt)) [] 0) No := by
  have ec := entries_con t ps r h.ok ho h.kin h.n d r [] [] h.good h.rl h.many G
  refine con_of_awp Go.Proofs.Try.func37 rfl (by kernel_rfl) (of_decide_eq_true (by kernel_rfl)) ?_; intro E hG hE; subst hG; simp only [ent]
  (repeat' (first | refine awp_seq ?_ | refine awp_block ?_ | refine awp_skip ?_ | refine awp_exit ?_ | ((first | refine rR (fun K kp hK hkp => ?_) | refine cR ec ?_ | refine iG ?_); simp (implicitDefEqProofs := false) (maxSteps := 2000000) (disch := omega) only [go_sem]; (repeat' (first | (refine hK _ ?_; clear hK hkp kp K) | (with_reducible refine And.intro ?_ ?_) | omega))) | ((first | refine aG (fun h => ?_) (fun h => ?_) | refine aD (fun h => ?_) (fun h => ?_) | refine aX (fun h => ?_) (fun h => ?_)) <;> simp only [h]) | refine awp_cond_t rfl ?_ | refine awp_cond_f rfl ?_ | ((refine awp_cond rfl (fun h => ?_) (fun h => ?_) <;> try simp only [ifs] at h) <;> (try (exfalso; omega))) | refine awp_ret ?_))
  (refine retA_is (by (simp (implicitDefEqProofs := false) (maxSteps := 2000000) (disch := omega) only [go_sem, Go.Proofs.Try.results37]); rfl) ?_; refine eN hE ?_; simp [oneA, ren, renL])
/-- What Find answers. -/
noncomputable def findA (ps : List PG) (root : Int) (k : Ky) (R : Int × Int) : AV := .tup [.r (.int .i64 (if askM ps root k ≠ 0 then 0 else R.1)), .r (.int .i64 (if askM ps root k ≠ 0 then askM ps root k else R.2))]
theorem ask_chk {ps : List PG} {root : Int} {k : Ky} (h : askM ps root k = 0) : ChkOK ps root := by
  rw [askM] at h
  by_cases hc : ChkOK ps root
  · exact hc
  · rw [chkR_f hc] at h; simp at h
set_option maxRecDepth 100000 in
set_option maxHeartbeats 4000000 in
theorem find2_con (G : List (Nat × List Value)) (t : Bool) (ps : List PG) (root : Int) (k : Ky) (ho : okPs2 ps) (R : Int × Int) (hR : askM ps root k = 0 → ∀ r d : Nat, root = r → Trd ps r d → R = findM (pg ps (leafF ps k d r)) k) :
    Con Go.Proofs.Try.prog G 13 [.agg [.ro true 5 (ps.map eP), .r (.int .i64 root)], .ro t 1 (k.map eByte)] [] 0 (Is (findA ps root k R) [] 0) No := by
  have cc := checked_con G t ps root k ho
  rw [findA]
  by_cases h0 : askM ps root k = 0
  · obtain ⟨r, d, rfl, h⟩ := trd_of (ask_chk h0)
    have hR := hR h0 r d rfl h
    rw [h0] at cc ⊢
    have fc := find_con G true t ps r d k h.ok h.kin h.good h.rl h.n h.dl
    have hl := h.leaf k
    have hpx := pg_in hl
    have hok := h.ok _ _ hpx
    obtain ⟨A, B, e, hA, hB, lo, hi, hgl, _⟩ := leaf_split h.ok k d r [] [] h.good (.inl rfl)
    have hlf := hgl.1
    clear hA hB hgl e
    generalize leafF ps k d r = x at *
    generalize pg ps x = p at *
    have hkl := hok.kl hlf
    have hpk := place_le p k
    refine con_of_awp Go.Proofs.Try.func13 rfl (by kernel_rfl) (of_decide_eq_true (by kernel_rfl)) ?_; intro E hG hE; subst hG; simp only [ent]
    rw [findM] at hR
    by_cases ht : p.keys[placeM p k]? = some k
    · rw [thereM, decide_eq_true ht] at fc
      rw [if_pos ht] at hR
      have hlt := (List.getElem?_eq_some_iff.1 ht).1
      obtain ⟨y, hy⟩ : ∃ y, p.kids[placeM p k]? = some y := ⟨_, List.getElem?_eq_getElem (by omega)⟩
      have hyD : p.kids.getD (placeM p k) 0 = y := by rw [List.getD_eq_getElem?_getD, hy]; rfl
      rw [hyD] at hR
      subst hR
      (repeat' (first | refine awp_seq ?_ | refine awp_block ?_ | refine awp_skip ?_ | refine awp_exit ?_ | ((first | refine rR (fun K kp hK hkp => ?_) | refine cR cc ?_ | refine cR fc ?_ | refine iG ?_); simp (implicitDefEqProofs := false) (maxSteps := 2000000) (disch := omega) only [go_sem, bne_self_eq_false, hpx, hy, eP, eI]; (repeat' (first | (refine hK _ ?_; clear hK hkp kp K) | (with_reducible refine And.intro ?_ ?_) | omega))) | ((first | refine aG (fun h => ?_) (fun h => ?_) | refine aD (fun h => ?_) (fun h => ?_) | refine aX (fun h => ?_) (fun h => ?_)) <;> simp only [h]) | refine awp_cond_t rfl ?_ | refine awp_cond_f rfl ?_ | ((refine awp_cond rfl (fun h => ?_) (fun h => ?_) <;> try simp only [ifs] at h) <;> (try (exfalso; omega))) | refine awp_ret ?_))
      (refine retA_is (by (simp (implicitDefEqProofs := false) (maxSteps := 2000000) (disch := omega) only [go_sem, Go.Proofs.Try.results13]); rfl) ?_; refine eN hE ?_; simp [oneA, ren, renL])
    · rw [thereM, decide_eq_false ht] at fc
      rw [if_neg ht] at hR
      subst hR
      (repeat' (first | refine awp_seq ?_ | refine awp_block ?_ | refine awp_skip ?_ | refine awp_exit ?_ | ((first | refine rR (fun K kp hK hkp => ?_) | refine cR cc ?_ | refine cR fc ?_ | refine iG ?_); simp (implicitDefEqProofs := false) (maxSteps := 2000000) (disch := omega) only [go_sem, bne_self_eq_false, hpx, eP, eI]; (repeat' (first | (refine hK _ ?_; clear hK hkp kp K) | (with_reducible refine And.intro ?_ ?_) | omega))) | ((first | refine aG (fun h => ?_) (fun h => ?_) | refine aD (fun h => ?_) (fun h => ?_) | refine aX (fun h => ?_) (fun h => ?_)) <;> simp only [h]) | refine awp_cond_t rfl ?_ | refine awp_cond_f rfl ?_ | ((refine awp_cond rfl (fun h => ?_) (fun h => ?_) <;> try simp only [ifs] at h) <;> (try (exfalso; omega))) | refine awp_ret ?_))
      (refine retA_is (by (simp (implicitDefEqProofs := false) (maxSteps := 2000000) (disch := omega) only [go_sem, Go.Proofs.Try.results13]); rfl) ?_; refine eN hE ?_; simp [oneA, ren, renL])
  · have z0 : (askM ps root k != 0) = true := by simp [h0]
    refine con_of_awp Go.Proofs.Try.func13 rfl (by kernel_rfl) (of_decide_eq_true (by kernel_rfl)) ?_; intro E hG hE; subst hG; simp only [ent]
    (repeat' (first | refine awp_seq ?_ | refine awp_block ?_ | refine awp_skip ?_ | refine awp_exit ?_ | ((first | refine rR (fun K kp hK hkp => ?_) | refine cR cc ?_ | refine iG ?_); simp (implicitDefEqProofs := false) (maxSteps := 2000000) (disch := omega) only [go_sem, z0]; (repeat' (first | (refine hK _ ?_; clear hK hkp kp K) | (with_reducible refine And.intro ?_ ?_) | omega))) | ((first | refine aG (fun h => ?_) (fun h => ?_) | refine aD (fun h => ?_) (fun h => ?_) | refine aX (fun h => ?_) (fun h => ?_)) <;> simp only [h]) | refine awp_cond_t rfl ?_ | refine awp_cond_f rfl ?_ | ((refine awp_cond rfl (fun h => ?_) (fun h => ?_) <;> try simp only [ifs] at h) <;> (try (exfalso; omega))) | refine awp_ret ?_))
    (refine retA_is (by (simp (implicitDefEqProofs := false) (maxSteps := 2000000) (disch := omega) only [go_sem, Go.Proofs.Try.results13, h0]); rfl) ?_; refine eN hE ?_; simp [oneA, ren, renL, h0])
def foundF (k : Ky) : List Et → Int × Int
  | [] => (0, 8)
  | e :: r => if (e.1 == k) = true then (e.2, 0) else foundF k r
theorem foundF_eq (k : Ky) : ∀ l, foundF k l = foundM l k
  | [] => rfl
  | e :: r => by
    rw [foundF, foundM, List.find?_cons]
    cases h : (e.1 == k)
    · simp only [Bool.false_eq_true, ↓reduceIte]; rw [foundF_eq k r, foundM]
    · simp
set_option maxRecDepth 100000 in
set_option maxHeartbeats 4000000 in
theorem found_con (G : List (Nat × List Value)) (t u : Bool) (ps : List PG) (root : Int) (k : Ky) (ho : okPs2 ps) (R : Int × Int) (hR : askM ps root k = 0 → ∀ r d : Nat, root = r → Trd ps r d → R = foundM (entsF ps d r) k) :
    Con Go.Proofs.Try.prog G 15 [.agg [.ro u 5 (ps.map eP), .r (.int .i64 root)], .ro t 1 (k.map eByte)] [] 0 (Is (findA ps root k R) [] 0) No := by
  have cc := treeAndKey_con G t u ps root k ho
  rw [findA]
  by_cases h0 : askM ps root k = 0
  · obtain ⟨r, d, rfl, h⟩ := trd_of (ask_chk h0)
    have hR := hR h0 r d rfl h
    rw [← foundF_eq] at hR
    rw [h0] at cc ⊢
    have ec := entriesOf_con G u h ho
    have hlen := flatE_len h.ok (lvl ps d [r])
    have := h.many
    have hlen : (entsF ps d r).length ≤ 16000 := by rw [entsF]; omega
    generalize entsF ps d r = l at *
    refine con_of_awp Go.Proofs.Try.func15 rfl (by kernel_rfl) (of_decide_eq_true (by kernel_rfl)) ?_; intro E hG hE; subst hG; simp only [ent]
    (repeat' (first | refine awp_seq ?_ | refine awp_block ?_ | refine awp_skip ?_ | refine awp_exit ?_ | ((first | refine rR (fun K kp hK hkp => ?_) | refine cR cc ?_ | refine cR ec ?_ | refine iG ?_); simp (implicitDefEqProofs := false) (maxSteps := 2000000) (disch := omega) only [go_sem, bne_self_eq_false, eEt]; (repeat' (first | (refine hK _ ?_; clear hK hkp kp K) | (with_reducible refine And.intro ?_ ?_) | omega))) | ((first | refine aG (fun h => ?_) (fun h => ?_) | refine aD (fun h => ?_) (fun h => ?_) | refine aX (fun h => ?_) (fun h => ?_)) <;> simp only [h]) | refine awp_cond_t rfl ?_ | refine awp_cond_f rfl ?_ | ((refine awp_cond rfl (fun h => ?_) (fun h => ?_) <;> try simp only [ifs] at h) <;> (try (exfalso; omega))) | refine awp_ret ?_))
    refine awp_loop (fun j : Nat => ⟨[(8, .r (.int .i64 j)), (7, .ro true 2 (l.map eEt)), (1, .ro t 1 (k.map eByte))], [], 0⟩) (fun j => j ≤ l.length ∧ R = foundF k (l.drop j)) (fun j => l.length - j) 0 ?_ ?_ ?_
    · exact ⟨Nat.zero_le _, hR⟩
    · (refine emb [] ?_ ?_ rfl ?_ ?_ ?_ ?_ <;> simp [okM, okO, lk, ren, renL, renNd, by_, hE] <;> (try omega) <;> (try (intro i hi; first | (rcases i with _ | _ | i; rfl; rfl; (exfalso; omega)) | (rcases i with _ | _ | _ | i; rfl; rfl; rfl; (exfalso; omega)) | (rcases i with _ | _ | _ | _ | i; rfl; rfl; rfl; rfl; (exfalso; omega)) | (rcases i with _ | _ | _ | _ | _ | i; rfl; rfl; rfl; rfl; rfl; (exfalso; omega)) | (rcases i with _ | _ | _ | _ | _ | _ | i; rfl; rfl; rfl; rfl; rfl; rfl; (exfalso; omega)))))
    rintro j ⟨hj, hRj⟩
    by_cases hlt : j < l.length
    · have zj : ((j : Int) < (l.length : Int)) = True := eq_true (by omega)
      obtain ⟨x, hx⟩ : ∃ x, l[j]? = some x := ⟨_, List.getElem?_eq_getElem hlt⟩
      rw [drop_at hx, foundF] at hRj
      cases he : (x.1 == k)
      · rw [he] at hRj
        (repeat' (first | refine awp_seq ?_ | refine awp_block ?_ | refine awp_skip ?_ | refine awp_exit ?_ | ((first | refine rR (fun K kp hK hkp => ?_) | refine cR (sKy_con _ _ _ _ _) ?_ | refine iG ?_); simp (implicitDefEqProofs := false) (maxSteps := 2000000) (disch := omega) only [go_sem, zj, hx, eEt, he]; (repeat' (first | (refine hK _ ?_; clear hK hkp kp K) | (with_reducible refine And.intro ?_ ?_) | omega))) | ((first | refine aG (fun h => ?_) (fun h => ?_) | refine aD (fun h => ?_) (fun h => ?_) | refine aX (fun h => ?_) (fun h => ?_)) <;> simp only [h]) | refine awp_cond_t rfl ?_ | refine awp_cond_f rfl ?_ | ((refine awp_cond rfl (fun h => ?_) (fun h => ?_) <;> try simp only [ifs] at h) <;> (try (exfalso; omega))) | refine awp_ret ?_))
        ((first | (refine nextB (j + 1) ?_ ?_ ?_) | (refine nextA (j + 1) ?_ ?_ ?_) | (refine nextE (j + 1) ?_ ?_ ?_)); rotate_left; (· (try dsimp only); (first | omega | (simp only [List.length_drop, List.length_cons, List.length_append]; omega) | (simp; done) | (simp; omega))); (· (refine emb [] ?_ ?_ rfl ?_ ?_ ?_ ?_ <;> simp [okM, okO, lk, ren, renL, renNd, by_, hE] <;> (try omega) <;> (try (intro i hi; first | (rcases i with _ | _ | i; rfl; rfl; (exfalso; omega)) | (rcases i with _ | _ | _ | i; rfl; rfl; rfl; (exfalso; omega)) | (rcases i with _ | _ | _ | _ | i; rfl; rfl; rfl; rfl; (exfalso; omega)) | (rcases i with _ | _ | _ | _ | _ | i; rfl; rfl; rfl; rfl; rfl; (exfalso; omega)) | (rcases i with _ | _ | _ | _ | _ | _ | i; rfl; rfl; rfl; rfl; rfl; rfl; (exfalso; omega)))))))
        exact ⟨by omega, by simpa using hRj⟩
      · rw [he] at hRj
        have hRj : R = (x.2, 0) := by simpa using hRj
        subst hRj
        (repeat' (first | refine awp_seq ?_ | refine awp_block ?_ | refine awp_skip ?_ | refine awp_exit ?_ | ((first | refine rR (fun K kp hK hkp => ?_) | refine cR (sKy_con _ _ _ _ _) ?_ | refine iG ?_); simp (implicitDefEqProofs := false) (maxSteps := 2000000) (disch := omega) only [go_sem, zj, hx, eEt, he]; (repeat' (first | (refine hK _ ?_; clear hK hkp kp K) | (with_reducible refine And.intro ?_ ?_) | omega))) | ((first | refine aG (fun h => ?_) (fun h => ?_) | refine aD (fun h => ?_) (fun h => ?_) | refine aX (fun h => ?_) (fun h => ?_)) <;> simp only [h]) | refine awp_cond_t rfl ?_ | refine awp_cond_f rfl ?_ | ((refine awp_cond rfl (fun h => ?_) (fun h => ?_) <;> try simp only [ifs] at h) <;> (try (exfalso; omega))) | refine awp_ret ?_))
        (refine retA_is (by (simp (implicitDefEqProofs := false) (maxSteps := 2000000) (disch := omega) only [go_sem, Go.Proofs.Try.results15]); rfl) ?_; refine eN hE ?_; simp [oneA, ren, renL])
    · obtain rfl : j = l.length := by omega
      rw [List.drop_length] at hRj
      obtain rfl : R = (0, 8) := hRj
      (repeat' (first | refine awp_seq ?_ | refine awp_block ?_ | refine awp_skip ?_ | refine awp_exit ?_ | ((first | refine rR (fun K kp hK hkp => ?_) | refine iG ?_); simp (implicitDefEqProofs := false) (maxSteps := 2000000) (disch := omega) only [go_sem]; (repeat' (first | (refine hK _ ?_; clear hK hkp kp K) | (with_reducible refine And.intro ?_ ?_) | omega))) | ((first | refine aG (fun h => ?_) (fun h => ?_) | refine aD (fun h => ?_) (fun h => ?_) | refine aX (fun h => ?_) (fun h => ?_)) <;> simp only [h]) | refine awp_cond_t rfl ?_ | refine awp_cond_f rfl ?_ | ((refine awp_cond rfl (fun h => ?_) (fun h => ?_) <;> try simp only [ifs] at h) <;> (try (exfalso; omega))) | refine awp_ret ?_))
      (refine retA_is (by (simp (implicitDefEqProofs := false) (maxSteps := 2000000) (disch := omega) only [go_sem, Go.Proofs.Try.results15]); rfl) ?_; refine eN hE ?_; simp [oneA, ren, renL])
  · have z0 : (askM ps root k != 0) = true := by simp [h0]
    refine con_of_awp Go.Proofs.Try.func15 rfl (by kernel_rfl) (of_decide_eq_true (by kernel_rfl)) ?_; intro E hG hE; subst hG; simp only [ent]
    (repeat' (first | refine awp_seq ?_ | refine awp_block ?_ | refine awp_skip ?_ | refine awp_exit ?_ | ((first | refine rR (fun K kp hK hkp => ?_) | refine cR cc ?_ | refine iG ?_); simp (implicitDefEqProofs := false) (maxSteps := 2000000) (disch := omega) only [go_sem, z0]; (repeat' (first | (refine hK _ ?_; clear hK hkp kp K) | (with_reducible refine And.intro ?_ ?_) | omega))) | ((first | refine aG (fun h => ?_) (fun h => ?_) | refine aD (fun h => ?_) (fun h => ?_) | refine aX (fun h => ?_) (fun h => ?_)) <;> simp only [h]) | refine awp_cond_t rfl ?_ | refine awp_cond_f rfl ?_ | ((refine awp_cond rfl (fun h => ?_) (fun h => ?_) <;> try simp only [ifs] at h) <;> (try (exfalso; omega))) | refine awp_ret ?_))
    (refine retA_is (by (simp (implicitDefEqProofs := false) (maxSteps := 2000000) (disch := omega) only [go_sem, Go.Proofs.Try.results15, h0]); rfl) ?_; refine eN hE ?_; simp [oneA, ren, renL, h0])
theorem finds_same (ps : List PG) (root : Int) (k : Ky) : ∃ R : Int × Int, ∀ r d : Nat, root = r → Trd ps r d → R = findM (pg ps (leafF ps k d r)) k ∧ R = foundM (entsF ps d r) k := by
  by_cases h : ∃ r d : Nat, root = r ∧ Trd ps r d
  · obtain ⟨r, d, rfl, h⟩ := h
    refine ⟨findM (pg ps (leafF ps k d r)) k, fun r' d' e h' => ?_⟩
    obtain rfl : r = r' := by omega
    obtain rfl := good_deep (kids_ne h.ok) d r _ _ _ _ d' h.good h'.good
    exact ⟨rfl, (found_find h.ok h.good k (h.leaf k)).symm⟩
  · exact ⟨(0, 0), fun r d e h' => absurd ⟨r, d, e, h'⟩ h⟩
set_option maxRecDepth 100000 in
set_option maxHeartbeats 4000000 in
theorem lawFinds_con (G : List (Nat × List Value)) (ps : List PG) (root : Int) (k : Ky) (ho : okPs2 ps) (hk : k.length ≤ 1048576) : Con Go.Proofs.Try.prog G 4 [.agg [.ro true 5 (ps.map eP), .r (.int .i64 root)], .ro true 1 (k.map eByte)] [] 0 (Is (.r (.bool true)) [] 0) No := by
  obtain ⟨R, hR⟩ := finds_same ps root k
  have tc := trees_con G true ps root ho
  have oc := octetsT_con G true k (by omega)
  have fc := find2_con G true ps root k ho R fun _ r d e h => (hR r d e h).1
  have gc := found_con G true true ps root k ho R fun _ r d e h => (hR r d e h).2
  rw [findA] at fc gc
  refine con_of_awp Go.Proofs.Try.func4 rfl (by kernel_rfl) (of_decide_eq_true (by kernel_rfl)) ?_; intro E hG hE; subst hG; simp only [ent]
  (repeat' (first | refine awp_seq ?_ | refine awp_block ?_ | refine awp_skip ?_ | refine awp_exit ?_ | ((first | refine rR (fun K kp hK hkp => ?_) | refine cR tc ?_ | refine cR oc ?_ | refine cR fc ?_ | refine cR gc ?_ | refine iG ?_); simp (implicitDefEqProofs := false) (maxSteps := 2000000) (disch := omega) only [go_sem, beq_self_eq_true]; (repeat' (first | (refine hK _ ?_; clear hK hkp kp K) | (with_reducible refine And.intro ?_ ?_) | omega))) | ((first | refine aG (fun h => ?_) (fun h => ?_) | refine aD (fun h => ?_) (fun h => ?_) | refine aX (fun h => ?_) (fun h => ?_)) <;> simp only [h]) | refine awp_cond_t rfl ?_ | refine awp_cond_f rfl ?_ | ((refine awp_cond rfl (fun h => ?_) (fun h => ?_) <;> try simp only [ifs] at h) <;> (try (exfalso; omega))) | refine awp_ret ?_))
  (refine retA_is (by (simp (implicitDefEqProofs := false) (maxSteps := 2000000) (disch := omega) only [go_sem, Go.Proofs.Try.results4]); rfl) ?_; refine eN hE ?_; simp [oneA, ren, renL])
end Go.AM
/- The abstract machine: pieces of code that begin anew; a box that is read alone from now on. -/
namespace Go.AM
open Go
section
variable {P : Program} {G : List (Nat × List Value)} {N : Nat} {m m' : List (Nat × AV)} {z z' : Zone} {a : Act} {w : World} {E : Env} {st : AS} {th : List NLoc} {o : List (Nat × Nd)} {n : Nat}
/-- A state without own things, the world being where it begins. -/
def At (G : List (Nat × List Value)) (N : Nat) (m : List (Nat × AV)) (z : Zone) (a : Act) (w : World) : Prop := Sim ⟨w, fun _ => False, z, G, [], []⟩ N ⟨m, [], 0⟩ [] z a w
theorem mem_none {w : World} {z : Zone} (hz : ∀ t b, z t b → b < w.heap.size) (hG : ∀ g cs, (g, cs) ∈ G → z true g ∧ ∀ (j : Nat) v, cs[j]? = some v → w.cell? ⟨g, j, none⟩ = some v) : Mem ⟨w, fun _ => False, z, G, [], []⟩ [] 0 [] z w :=
  ⟨rfl, fun i nd hi => by simp [lk] at hi, fun i j x y L M hi => by simp [lk] at hi, hz, Nat.le_refl _, fun _ _ _ => rfl, fun _ _ h => h, fun b h => .inl h, fun b h => h, hG, fun i L hi => by simp at hi, Sys.refl w, uls_none rfl⟩
theorem at_of_sim (hG : E.G = G) (hds : E.ds = []) (h : Sim E N ⟨m, [], 0⟩ th z a w) : At G N m z a w := by
  have hth : th = [] := List.length_eq_zero_iff.1 h.mem.len
  subst hth
  exact ⟨mem_none h.mem.zlt fun g cs hg => h.mem.globs g cs (by rw [hG]; exact hg), h.size, h.dfs.trans hds, h.slots⟩
/-- What has happened since. -/
structure Since (w : World) (z : Zone) (w' : World) (z' : Zone) : Prop where
  ext : Ext w w'
  sub : ∀ t b, z t b → z' t b
  new : ∀ t b, z' t b → z t b ∨ (t = true ∧ w.heap.size ≤ b ∧ b < w'.heap.size)
theorem Since.refl (w : World) (z : Zone) : Since w z w z := ⟨Ext.refl w, fun _ _ h => h, fun _ _ h => .inl h⟩
theorem Since.trans {w1 w2 w3 : World} {z1 z2 z3 : Zone} (h : Since w1 z1 w2 z2) (k : Since w2 z2 w3 z3) : Since w1 z1 w3 z3 :=
  ⟨h.ext.trans k.ext, fun t b hb => k.sub t b (h.sub t b hb), fun t b hb => by
    rcases k.new t b hb with q | ⟨q1, q2, q3⟩
    · rcases h.new t b q with r | ⟨r1, r2, r3⟩
      · exact .inl r
      · exact .inr ⟨r1, r2, Nat.lt_of_lt_of_le r3 k.ext.size⟩
    · exact .inr ⟨q1, Nat.le_trans h.ext.size q2, q3⟩⟩
def toX : AExit → Exit
  | .normal => .normal
  | .exit id => .exit id
  | .ret => .ret
  | .pan _ => .outgrown
/-- A piece ends without own things. -/
def clean (E : Env) (N : Nat) (AQ : AExit → List (Nat × AV) → Prop) : AExit → AS → Prop
  | .pan _, _ => False
  | e, st => ∃ m', AQ e m' ∧ Emb E N st ⟨m', [], 0⟩
theorem since_of_mem {w w' : World} {z z' : Zone} (h : Mem ⟨w, fun _ => False, z, G, [], []⟩ o n th z' w') : Since w z w' z' :=
  ⟨⟨h.grow, fun b hb => h.frame b hb (fun x => x), h.sys⟩, h.zin, fun t b hb => by
    cases t with
    | true =>
      rcases h.zout b hb with q | q | q
      · exact .inl q
      · exact q.elim
      · exact .inr ⟨rfl, q, h.zlt _ _ hb⟩
    | false => exact .inl (h.zb b hb)⟩
/-- A piece of code, from a state without own things to such states. -/
theorem seg {c : Code} {AQ : AExit → List (Nat × AV) → Prop} {Q : Exit → Act → World → Prop} (hA : ∀ E : Env, E.G = G → E.th0.length = 0 → AWP P E N c ⟨m, [], 0⟩ (clean E N AQ)) (h : At G N m z a w)
    (hQ : ∀ e m' a' w' z', AQ e m' → At G N m' z' a' w' → Since w z w' z' → Q (toX e) a' w') : c.wp P Q a w := by
  have key : ∀ e st th' z' a' w', (∃ m', AQ e m' ∧ Emb ⟨w, fun _ => False, z, G, [], []⟩ N st ⟨m', [], 0⟩) → Sim ⟨w, fun _ => False, z, G, [], []⟩ N st th' z' a' w' → Q (toX e) a' w' := by
    rintro e st th' z' a' w' ⟨m', h1, h2⟩ hs
    obtain ⟨th2, z2, h3⟩ := h2 th' z' a' w' hs
    exact hQ e m' a' w' z2 h1 (at_of_sim rfl rfl h3) (since_of_mem h3.mem)
  exact hA ⟨w, fun _ => False, z, G, [], []⟩ rfl rfl Q ⟨fun st th z a w h1 h2 => key .normal st th z a w h1 h2, fun id st th z a w h1 h2 => key (.exit id) st th z a w h1 h2, fun st th z a w h1 h2 => key .ret st th z a w h1 h2, fun x v st th z w h1 => h1.elim⟩ [] z a w h
/-- A box is read alone from now on. -/
theorem Mem.freezeB (h : Mem E o n th z w) {i : Nat} {T : TypeId} {c : List AV} {L : NLoc} (hi : lk o i = some (.box T c)) (hL : th[i]? = some L) : Mem E (rm o i) n th (fun t b => z t b ∨ (t = true ∧ L.ph = false ∧ b = L.b)) w := by
  have le : Le w z w (fun t b => z t b ∨ (t = true ∧ L.ph = false ∧ b = L.b)) := ⟨fun _ _ h => .inl h, fun _ _ _ => rfl⟩
  obtain ⟨L', h1, _, h3⟩ := h.nds i _ hi
  rw [hL] at h1; cases h1
  have hs : ∀ j x, lk (rm o i) j = some x → i ≠ j ∧ lk o j = some x := by
    intro j x hj
    rw [lk_rm] at hj
    split at hj
    · cases hj
    · exact ⟨by assumption, hj⟩
  refine ⟨h.len, fun j nd hj => ?_, fun p q x y M M' hp hq => h.inj p q x y M M' (hs _ _ hp).2 (hs _ _ hq).2, ?_, h.grow, h.frame, fun t b hb => .inl (h.zin t b hb), ?_, ?_, fun g cs hg => ⟨.inl (h.globs g cs hg).1, (h.globs g cs hg).2⟩, h.pre, h.sys, ?_⟩
  · obtain ⟨hne, hj⟩ := hs _ _ hj
    obtain ⟨M, k1, k2, k3⟩ := h.nds j nd hj
    refine ⟨M, k1, by simpa using k2.on le (fun _ => rfl) [], fun hp => ⟨(k3 hp).1, fun t hz => ?_, (k3 hp).2.2⟩⟩
    rcases hz with hz | ⟨_, hp2, hz⟩
    · exact (k3 hp).2.1 t hz
    · exact hne (h.inj i j _ _ L M hi hj hL k1 hp2 hp hz.symm)
  · rintro t b (hb | ⟨_, hp, rfl⟩)
    · exact h.zlt t b hb
    · exact (h3 hp).1
  · rintro b (hb | ⟨_, hp, rfl⟩)
    · exact h.zout b hb
    · rcases (h3 hp).2.2 with h5 | h5
      · exact .inr (.inl h5)
      · exact .inr (.inr h5)
  · rintro b (hb | ⟨hf, _⟩)
    · exact h.zb b hb
    · cases hf
  · obtain ⟨U, hU⟩ := h.uls
    refine ⟨U, fun j T' k' els' op M hj hM => ?_, hU.lt, fun j b hb t hz => ?_, hU.ow, hU.inj, fun j nd M q hj => hU.kn j nd M q (hs _ _ hj).2⟩
    · have := (hU.at_ j T' k' els' op M (hs _ _ hj).2 hM).on le (fun _ _ => rfl) (.inr rfl) []
      simpa using this
    · rcases hz with hz | ⟨_, hp, rfl⟩
      · exact hU.nz j b hb t hz
      · exact hU.kn i _ L j hi hL hp hb
/-- What bears no own thing stands for itself. -/
def pu : AV → Bool
  | .r _ => true
  | .ro _ _ _ => true
  | .re _ _ _ => true
  | _ => false
theorem Rep.unpure {x : AV} {v : Value} (hx : pu x = true) (h : Rep w z th x v) : Rep w z [] x v := by
  cases h with
  | r _ v => exact .r _ v
  | nil _ t k a c => exact .nil _ t k a c
  | ro _ t k els b o c ys h1 h2 h3 h4 h5 h6 => exact .ro _ t k els b o c ys h1 h2 h3 h4 h5 h6
  | re _ t c b o off ys h1 h2 h3 => exact .re _ t c b o off ys h1 h2 h3
  | s => cases hx
  | sn => cases hx
  | p => cases hx
  | agg => cases hx
  | tup => cases hx
  | fn => cases hx
  | ifc => cases hx
  | q => cases hx
  | any => cases hx
/-- A box in a slot is read alone from now on. -/
theorem emb_re (d i : Nat) {T : TypeId} {c : List AV} (hm : lk st.m d = some (.p i 0 0)) (hn : lk st.o i = some (.box T c)) (hc : c.all pu = true) : Emb E N st { st with m := (d, .re true c 0) :: st.m, o := rm st.o i } := by
  intro th z a w hs
  obtain ⟨L, h1, h2, h3⟩ := hs.mem.nds i _ hn
  obtain ⟨hp, cells, fr, hb, hf, ho, hc2⟩ := h2
  have le : Le w z w (fun t b => z t b ∨ (t = true ∧ L.ph = false ∧ b = L.b)) := ⟨fun _ _ h => .inl h, fun _ _ _ => rfl⟩
  refine ⟨th, _, hs.mem.freezeB hn h1, hs.size, hs.dfs, fun j x hj => ?_⟩
  simp only [lk] at hj
  split at hj
  · rename_i e; subst e; cases hj
    obtain ⟨y, hy, hr⟩ := hs.slots d _ hm
    refine ⟨y, hy, ?_⟩
    cases hr with
    | p _ _ _ _ L' hL' =>
      rw [h1] at hL'; cases hL'
      rw [ho, Nat.zero_mul]
      refine Rep.re_mk (.inr ⟨rfl, hp, rfl⟩) (fun q x hq => ?_)
      have hlen := hc2.1
      have hql : q < cells.size := by have := (List.getElem?_eq_some_iff.1 hq).1; simp at hlen; omega
      refine ⟨cells[q], ?_, ?_⟩
      · simp only [World.cell?, hb]
        simp [hql]
      · have := hc2.2 q x cells[q] hq (by simp [hql])
        exact (Rep.unpure (List.all_eq_true.1 hc x (List.mem_of_getElem? hq)) this).on' le
  · obtain ⟨y, hy, hr⟩ := hs.slots j x hj
    exact ⟨y, hy, hr.on' le⟩
end
theorem pt_re (c : List AV) (off : Nat) : PT (.re true c off) = ∀ x ∈ c, PT x := propext ⟨fun h => by cases h; assumption, .re c off⟩
theorem pt_fn (f : Nat) (c : List AV) : PT (.fn f c) = ∀ x ∈ c, PT x := propext ⟨fun h => by cases h; assumption, .fn f c⟩
attribute [simp] pt_re pt_fn
attribute [go_sem] pu
end Go.AM
/- The abstract machine: a region that ends in a call of yield; operations within a fence. -/
namespace Go.AM
open Go
section
variable {P : Program} {G : List (Nat × List Value)} {N : Nat} {m m' : List (Nat × AV)} {z z' : Zone} {a : Act} {w : World} {E : Env} {st : AS} {th : List NLoc} {o : List (Nat × Nd)} {n k : Nat} {Q : Exit → Act → World → Prop} {ops : Array Oper} {L : Array Bool → Act → World → Prop}
/-- Within a round, or not. -/
def rW (ro : Option Nat) : Fence := { Fence.wide with round := ro }
theorem calls_rW {ro : Option Nat} {f : Nat} {args : Array Value} {R : Ending → World → Prop} (h : Calls P f args w R) : CallsIn (rW ro) k P f args w R := (callsIn_wide (n := k)).2 h
theorem oper_in {ro : Option Nat} {o : Oper} {next : Act → World → Prop} (hnd : ∀ c, o.op ≠ .defer c) (h : o.wp P a w next Q) : o.wpIn (rW ro) k P a w next Q := by
  refine ⟨fun _ _ => trivial, ?_⟩
  rw [Oper.semAt_plain (rW ro) _ o hnd]
  unfold Oper.wp at h
  generalize (execOp a.eval o).run P w = r at h
  cases r with
  | ok x w' =>
    cases x <;> simp only [Oper.upon, Oper.uponIn] at h ⊢ <;>
      first
        | exact h
        | exact ⟨fun h => (by cases h), calls_rW h⟩
        | exact ⟨fun h => (by cases h), fun c cs _ => let ⟨v, w', r, s⟩ := h c cs; ⟨v, w', r, stepsIn_wide.2 s⟩⟩
        | exact h.elim
  | halt x w' => cases x <;> simp only [Oper.upon, Oper.uponIn] at h ⊢ <;> exact h
def noDefer : Op → Bool
  | .defer _ => false
  | _ => true
theorem noDefer_spec {op : Op} (h : noDefer op = true) : ∀ c, op ≠ .defer c := by rintro c rfl; cases h
theorem list_in {ro : Option Nat} (hO : ¬ LetsOut Q) : ∀ (l : List Oper), (l.all fun o => noDefer o.op) = true → ∀ {a : Act} {w : World}, wpList P ops Q l a w → wpListIn (rW ro) k P ops Q l a w
  | [], _, _, _, h => h
  | o :: rest, hd, a, w, h => by
    simp only [List.all_cons, Bool.and_eq_true] at hd
    simp only [wpList] at h
    simp only [wpListIn]
    split at h
    · rename_i hw
      rw [if_pos hw]
      rcases h with h | h
      · exact Oper.wpIn_mono (fun a w h => list_in hO rest hd.2 h) (oper_in (noDefer_spec hd.1) h)
      · exact absurd h.2 hO
    · rename_i hw
      rw [if_neg hw]
      exact ⟨fun _ _ => trivial, list_in hO rest hd.2 h⟩
theorem op_in {ro : Option Nat} {i : Nat} {K : Act → World → Prop} (hO : ¬ LetsOut Q) (hd : (ops.toList.all fun o => noDefer o.op) = true) (h : wpOp P ops Q i K a w) : wpOpIn (rW ro) k P ops Q i K a w := by
  unfold wpOp at h
  unfold wpOpIn
  cases hi : ops[i]? with
  | none => simp only [hi] at h ⊢; exact h
  | some o =>
    simp only [hi] at h ⊢
    have hdo := List.all_eq_true.1 hd o (Array.mem_toList_iff.2 (Array.mem_of_getElem? hi))
    split at h
    · rename_i hw
      rw [if_pos hw]
      rcases h with h | h
      · exact oper_in (noDefer_spec hdo) h
      · exact absurd h.2 hO
    · rename_i hw
      rw [if_neg hw]
      exact ⟨fun _ _ => trivial, h⟩
theorem anyE_outIn {ro : Option Nat} {g : Nat} (hO : ¬ LetsOut Q) (hd : (ops.toList.all fun o => noDefer o.op) = true) (hL : ∀ s a w, L s a w → wpAnyIn (rW ro) k P .any ops Q g s a w) : ∀ (f : Nat) (s : Array Bool) (a : Act) (w : World), anyE P ops Q n L f s a w → wpAnyIn (rW ro) k P .any ops Q (f + g) s a w
  | 0, s, a, w, h => by rw [Nat.zero_add]; exact hL _ _ _ h
  | f + 1, s, a, w, h => by
    rw [show f + 1 + g = (f + g) + 1 by omega]
    exact ⟨fun h0 => absurd h0 h.1, fun i hi => op_in hO hd (wpOp_mono (fun a' w' h' => anyE_outIn hO hd hL f _ a' w' h'.2) (h.2 i hi).2)⟩
theorem anyIn_of_seq {F : Fence} : ∀ (l : List Oper) (j : Nat) (s : Array Bool) (a : Act) (w : World), (∀ i, l[i]? = ops[j + i]?) → Region.seqB .any ops l.length j s = true → wpListIn F k P ops Q l a w → wpAnyIn F k P .any ops Q l.length s a w
  | [], _, _, _, _, _, hB, h => ⟨by simpa [Region.seqB] using hB, h⟩
  | o :: l, j, s, a, w, hl, hB, h => by
    have h0 : ops[j]? = some o := by simpa using (hl 0).symm
    simp only [List.length_cons, Region.seqB, Bool.and_eq_true, decide_eq_true_eq] at hB
    refine ⟨fun h1 => (by rw [hB.1] at h1; cases h1), fun i hi => ?_⟩
    rw [hB.1] at hi
    obtain rfl : i = j := by simpa using hi
    have hw : wpOpIn F k P ops Q i (wpListIn F k P ops Q l) a w := by unfold wpOpIn; simp only [h0]; exact h
    exact wpOpIn_mono (fun a' w' h' => anyIn_of_seq l (i + 1) _ a' w' (fun i' => by have := hl (i' + 1); simpa [Nat.add_assoc, Nat.add_comm 1 i'] using this) hB.2 h') hw
/-- The head of a region that draws its order, to where it ends. -/
theorem execY_sound {kp : AV → AS → Prop} {K : AS → Prop} (hQ : ∀ c a d v w, Q (.panic c) (a.put d v) w → Q (.panic c) a w)
    (hp : ∀ x v st' th' z' a' w', kp x st' → Sim E N st' th' z' a' w' → Rep w' z' th' x v → Q (.panic [{ v := v, recovered := false }]) a' w') (hd : ∀ o ∈ ops.toList, ∀ i, o.dst = some i → i < N)
    (h1 : Region.noSelect ops = true) (h2 : ∀ s, HeadInv .any ops n s → ∀ i, i < n → s.getD i true = false → ∀ j ∈ Region.ready .any ops s, j < n) :
    ∀ (ord : List Nat) {s : Array Bool} {st : AS} {th : List NLoc} {z : Zone} {a : Act} {w : World}, HeadInv .any ops n s → okOrd ops n ord s = true → Sim E N st th z a w → execD P E N (dsOf ops) kp [] (ordOf ops ord) st K →
      anyE P ops Q n (fun s a w => Region.seqB .any ops (ops.size - n) n s = true ∧ ∃ st th z, K st ∧ Sim E N st th z a w) ord.length s a w
  | [], s, st, th, z, a, w, inv, ho, h, hx => ⟨ho, st, th, z, hx, h⟩
  | i :: rest, s, st, th, z, a, w, inv, ho, h, hx => by
    simp only [okOrd, Bool.and_eq_true, decide_eq_true_eq] at ho
    obtain ⟨⟨hin, ho1⟩, ho2⟩ := ho
    cases hi : ops[i]? with
    | none => rw [hi] at ho1; simp at ho1
    | some o =>
      simp only [ordOf, List.filterMap_cons, hi] at hx
      unfold execD at hx
      change branch _ (stepG P E N st o.op (fun v st' => execD P E N (dsOf ops) kp [] (ordOf ops rest) (st'.put o.dst v) K) kp) (execD P E N (dsOf ops) kp [] (ordOf ops rest) (st.put o.dst (.r (.tuple #[]))) K) at hx
      have hmem : o ∈ ops.toList := Array.mem_toList_iff.2 (Array.mem_of_getElem? hi)
      have hdo := hd o hmem
      simp only [hi] at ho1
      have ih : ∀ {s : Array Bool} {st : AS} {th : List NLoc} {z : Zone} {a : Act} {w : World}, HeadInv .any ops n s → okOrd ops n rest s = true → Sim E N st th z a w → execD P E N (dsOf ops) kp [] (ordOf ops rest) st K → anyE P ops Q n _ rest.length s a w :=
        execY_sound hQ hp hd h1 h2 rest
      have guard := guard_sound h hx
      split at ho1
      · rename_i hq
        simp only [Bool.and_eq_true] at ho1
        obtain ⟨hr, hf⟩ := ho1
        have hr' : i ∈ Region.ready .any ops s := by simpa using hr
        rcases guard with ⟨hw, hs⟩ | ⟨hw, hs⟩
        · obtain ⟨x, hqv, hs⟩ := stepG_quiet hq hs
          obtain ⟨v, hrep, hrun⟩ := qv_sound h o hqv
          exact anyE_first hi (Region.noSelect_spec h1) (fun c a w => hQ c a _ _ w) h2 hin (fun s a w hL => seqB_ready hL.1) _ s a w inv (Region.free_spec hi hf) hr' (.inl ⟨hw, fun w' e => hrun w' (e.sameK h)⟩)
            (ih (inv.set hr' hin) ho2 (h.put hrep o.dst hdo) hs)
        · exact anyE_first hi (Region.noSelect_spec h1) (fun c a w => hQ c a _ _ w) h2 hin (fun s a w hL => seqB_ready hL.1) _ s a w inv (Region.free_spec hi hf) hr' (.inr ⟨hw, rfl⟩)
            (ih (inv.set hr' hin) ho2 (h.put (.r th undef) o.dst hdo) hs)
      · simp only [decide_eq_true_eq] at ho1
        have hr' : i ∈ Region.ready .any ops s := by rw [ho1]; simp
        refine ⟨fun h0 => (by rw [h0] at hr'; cases hr'), fun j hj => ?_⟩
        rw [ho1] at hj
        obtain rfl : j = i := by simpa using hj
        refine ⟨hin, ?_⟩
        unfold wpOp
        simp only [hi]
        rcases guard with ⟨hw, hs⟩ | ⟨hw, hs⟩
        · rw [if_pos hw]
          exact .inl (stepG_sound h o hs hdo (fun x st' th' z' a' w' g1 g2 g3 => ⟨g3, ih (inv.set hr' hin) ho2 g2 g1⟩) (fun x v st' th' z' w' g1 g2 g3 => hp x v st' th' z' a w' g1 g2 g3))
        · rw [if_neg (by rw [hw]; exact Bool.false_ne_true)]
          exact ⟨Ext.refl w, ih (inv.set hr' hin) ho2 (h.put (.r th undef) o.dst hdo) hs⟩
end
end Go.AM
/- The abstract machine: calls of yield. -/
namespace Go.AM
open Go
section
variable {P : Program} {G : List (Nat × List Value)} {N : Nat} {m m' : List (Nat × AV)} {z z' : Zone} {a : Act} {w : World} {E : Env} {st : AS} {th : List NLoc} {o : List (Nat × Nd)} {k : Nat} {Q : Exit → Act → World → Prop} {ops : Array Oper}
theorem run_yieldOp {l : Nat} {f x : Nat} {d : Option Nat} {ts : Array TypeId} {ty : TypeId} {pos : String} {aft : Array Edge} (hf : a.eval (.tmp f) = .func (.yield l) #[] #[]) :
    (execOp a.eval ⟨d, .call { callee := .value (.tmp f), args := #[.tmp x], argTypes := ts }, ty, pos, aft, none⟩).run P w = (Instr.yield l #[a.eval (.tmp x)]).run P w := by
  simp [execOp, resolve, hf, Deferred.ofValue, Sem.run_bind, Sem.run_pure, Result.andThen_ok, invoke]
/-- A region that draws the order of its head, then calls yield, then goes on. -/
theorem wp_yield {id : Nat} {ds : List (Option Nat)} {l0 rest : List Oper} {d f x : Nat} {ts : Array TypeId} {ty : TypeId} {pos : String} {aft : Array Edge} {KM : List (Nat × AV) → Prop} (hm : P.follows .mixedOrders = true) (n : Nat) (ord : List Nat)
    (hA : At G N m z a w) (hO : ¬ LetsOut Q) (hP : ∀ c a w, ¬ Q (.panic c) a w)
    (hB : okDraw ops n ord = true) (hd : dstOK N ops = true) (hnd : (ops.toList.all fun o => noDefer o.op) = true) (hg : ((ordOf ops ord).all fun o => isG o.op) = true) (hds : dsOf ops = ds) (hh : ordOf ops ord = l0)
    (ht : ops.toList.drop n = ⟨some d, .call { callee := .value (.tmp f), args := #[.tmp x], argTypes := ts }, ty, pos, aft, none⟩ :: rest)
    (hx : ∀ E : Env, E.G = G → E.th0.length = 0 → ∀ (K : AS → Prop) (kp : AV → AS → Prop), (∀ st', clean E N (fun e m1 => e = .normal ∧ KM m1) .normal st' → K st') → (∀ x st', False → kp x st') → exD P E N ds kp [] l0 ⟨m, [], 0⟩ K)
    (hy : ∀ m1 a1 w1 z1, KM m1 → At G N m1 z1 a1 w1 → Since w z w1 z1 → ∃ l, a1.eval (.tmp f) = .func (.yield l) #[] #[] ∧ YieldAt Fence.wide k P l #[a1.eval (.tmp x)] w1 (fun e w2 => ∃ v, e = .returned v ∧ wpListIn Fence.wide (k + 1) P ops Q rest (a1.put (some d) v) w2)) :
    (Code.region id ops true).wp P Q a w := by
  subst hds hh
  simp only [okDraw, Bool.and_eq_true, decide_eq_true_eq] at hB
  obtain ⟨⟨⟨b1, b2⟩, b5⟩, b6⟩ := hB
  have hlt : ∀ s, HeadInv .any ops n s → ∀ i, i < n → s.getD i true = false → ∀ j ∈ Region.ready .any ops s, j < n := by
    intro s inv i hi hs j hj
    rcases Bool.or_eq_true _ _ ▸ b2 with b2 | b2
    · have := of_decide_eq_true b2
      obtain ⟨_, oj, hoj, _⟩ := mem_ready.1 hj
      rw [this]; exact (Array.getElem?_eq_some_iff.1 hoj).1
    · simp only [Bool.and_eq_true, decide_eq_true_eq] at b2
      by_cases h : j < n
      · exact h
      · exact absurd hj (tail_waits b2.1.1 b2.1.2 b2.2 inv _ i rfl hi hs j (by omega))
  have hle : n ≤ ops.size := by
    rcases Bool.or_eq_true _ _ ▸ b2 with b2 | b2
    · exact Nat.le_of_eq (of_decide_eq_true b2)
    · simp only [Bool.and_eq_true, decide_eq_true_eq] at b2; exact Nat.le_of_lt b2.2
  have inv0 : HeadInv .any ops n (Array.replicate ops.size false) :=
    ⟨by simp, fun j oj _ hl => (by rw [getD_replicate_false] at hl; cases hl), fun t _ ht => getD_in (by simpa using ht) (getD_replicate_false _ _)⟩
  refine (wpIn_wide (n := k + 1)).1 ?_
  refine wpIn_region_any hm ?_
  have hA' : Sim ⟨w, fun _ => False, z, G, [], []⟩ N ⟨m, [], 0⟩ [] z a w.drew := Sim.ext hA (ext_drew w)
  have key := execY_sound (Q := Q) (P := P) (kp := fun _ _ => False) (K := fun st => ∃ m1, KM m1 ∧ Emb ⟨w, fun _ => False, z, G, [], []⟩ N st ⟨m1, [], 0⟩) (fun c a d v w hq => absurd hq (hP c _ w)) (fun x v st' th' z' a' w' g1 => g1.elim)
    (dstOK_spec hd) b1 hlt ord inv0 b6 hA' (execD_of hg (hx _ rfl rfl _ _ (fun st' ⟨m1, ⟨_, h1⟩, h2⟩ => ⟨m1, h1, h2⟩) (fun _ _ h => h)))
  have := anyE_outIn (ro := none) (k := k + 1) (g := ops.size - n) hO hnd (fun s a1 w1 ⟨hs, st1, th1, z1, ⟨m1, hk, he⟩, hs1⟩ => by
    obtain ⟨th2, z2, hs2⟩ := he _ _ _ _ hs1
    obtain ⟨l, hf, fn, tmps, assign, body, hr, hR⟩ := hy m1 a1 w1 z2 hk (at_of_sim rfl rfl hs2) (since_of_mem hs2.mem)
    have h0 := anyIn_of_seq (P := P) (ops := ops) (F := rW none) (k := k + 1) (Q := Q) (ops.toList.drop n) n s a1 w1 (fun j => by simp [List.getElem?_drop]) (by simpa using hs) (by
      rw [ht]
      simp only [wpListIn]
      rw [if_pos (show Region.wanted _ _ = true from rfl)]
      refine ⟨fun _ _ => trivial, ?_⟩
      rw [Oper.semAt_plain (rW none) _ _ (fun c h => by cases h)]
      rw [run_yieldOp hf, hr, Oper.uponIn_round]
      refine ⟨fun h => (by cases h), ?_⟩
      refine RoundIn.mono hR ?_
      rintro e w2 ⟨v, rfl, h1⟩
      exact h1)
    simpa using h0) _ _ _ _ key
  rw [b5, show n + (ops.size - n) = ops.size by omega] at this
  exact this
/-- What stands behind the call of yield. -/
theorem rest_in {rest : List Oper} {KM : List (Nat × AV) → Prop} (hA : At G N m z a w) (hO : ¬ LetsOut Q) (hdo : ∀ o ∈ rest, ∀ i, o.dst = some i → i < N) (hnd : (rest.all fun o => noDefer o.op) = true)
    (hx : ∀ E : Env, E.G = G → E.th0.length = 0 → ∀ (K : AS → Prop) (kp : AV → AS → Prop), (∀ st', clean E N (fun e m1 => e = .normal ∧ KM m1) .normal st' → K st') → (∀ x st', False → kp x st') → ex P E N (dsOf ops) kp rest ⟨m, [], 0⟩ K)
    (hQ : ∀ m1 a1 w1 z1, KM m1 → At G N m1 z1 a1 w1 → Since w z w1 z1 → Q .normal a1 w1) : wpListIn Fence.wide k P ops Q rest a w := by
  refine list_in (ro := none) hO rest hnd ?_
  refine exec_sound (kp := fun _ _ => False) (K := fun st => ∃ m1, KM m1 ∧ Emb ⟨w, fun _ => False, z, G, [], []⟩ N st ⟨m1, [], 0⟩) (fun x v st' th' z' a' w' h => h.elim) (fun st' th' z' a' w' ⟨m1, h1, h2⟩ hs => ?_) rest hdo hA
    (exec_of (hx _ rfl rfl _ _ (fun st' ⟨m1, ⟨_, h1⟩, h2⟩ => ⟨m1, h1, h2⟩) (fun _ _ h => h)))
  obtain ⟨th2, z2, hs2⟩ := h2 _ _ _ _ hs
  exact hQ m1 a' w' z2 h1 (at_of_sim rfl rfl hs2) (since_of_mem hs2.mem)
/-- A loop: a datum that gets smaller. -/
theorem wp_loopI {ι : Type} (R : ι → Act → World → Prop) (μ : ι → Nat) (i0 : ι) {c : Code} (h0 : R i0 a w) (round : ∀ i a w, R i a w → c.wp P (Exit.then (fun a' w' => ∃ i', μ i' < μ i ∧ R i' a' w') Q) a w) : (Code.loop c).wp P Q a w := by
  classical
  let p : Act → World → Nat → Prop := fun a w n => ∃ i, R i a w ∧ μ i = n
  let mm : Act → World → Nat := fun a w => if h : ∃ n, p a w n then (exists_min (p a w) h.choose h.choose_spec).choose else 0
  have hm : ∀ a w n, p a w n → p a w (mm a w) ∧ mm a w ≤ n := by
    intro a w n hn
    have h : ∃ n, p a w n := ⟨n, hn⟩
    have := (exists_min (p a w) h.choose h.choose_spec).choose_spec
    simp only [mm, dif_pos h]
    exact ⟨this.1, this.2 n hn⟩
  refine wp_loop (fun a w => ∃ n, p a w n) mm ⟨μ i0, i0, h0, rfl⟩ (fun a w ⟨n, hn⟩ => ?_)
  obtain ⟨⟨i, hR, hμ⟩, _⟩ := hm a w n hn
  refine wp_mono (round i a w hR) (fun e a' w' h => ?_)
  cases e with
  | normal =>
    obtain ⟨i', hlt, hR'⟩ := h
    have hp : p a' w' (μ i') := ⟨i', hR', rfl⟩
    exact ⟨⟨μ i', hp⟩, by have := (hm a' w' _ hp).2; omega⟩
  | exit id => exact h
  | goto l => exact h
  | ret => exact h
  | panic ch => exact h
  | outgrown => exact h
/-- Somebody else has turned what is not known. -/
theorem At.turn {w' : World} (h : At G N m z a w) (hs : w.heap.size ≤ w'.heap.size) (hz : ∀ t b, z t b → w'.heap[b]? = w.heap[b]?) : At G N m z a w' := by
  refine ⟨mem_none (fun t b hb => Nat.lt_of_lt_of_le (h.mem.zlt t b hb) hs) (fun g cs hg => ?_), h.size, h.dfs, fun i x hi => ?_⟩
  · obtain ⟨h1, h2⟩ := h.mem.globs g cs hg
    exact ⟨h1, fun j v hv => (cell_heap (hz _ _ h1) j).trans (h2 j v hv)⟩
  · obtain ⟨y, hy, hr⟩ := h.slots i x hi
    exact ⟨y, hy, hr.on' ⟨fun _ _ h => h, hz⟩⟩
theorem at_entry {xs : List AV} {vs : List Value} (hz : ∀ t b, z t b → b < w.heap.size) (hG : ∀ g cs, (g, cs) ∈ G → z true g ∧ ∀ (j : Nat) v, cs[j]? = some v → w.cell? ⟨g, j, none⟩ = some v) (hr : Reps w z [] xs vs) (hN : xs.length ≤ N) :
    At G N (ent 0 xs) z { tmps := vs.toArray ++ Array.replicate (N - vs.toArray.size) undef, defers := [] } w := by
  refine ⟨mem_none hz hG, by simp; have := hr.1; omega, rfl, fun i x hi => ?_⟩
  obtain ⟨_, h2⟩ := lk_ent xs 0 i x hi
  rw [Nat.sub_zero] at h2
  obtain ⟨y, hy, hrep⟩ := hr.get h2
  refine ⟨y, ?_, hrep⟩
  have : i < vs.length := (List.getElem?_eq_some_iff.1 hy).1
  simp only [Array.getElem?_append, List.size_toArray, this, if_true]
  simpa using hy
theorem At.zlt (h : At G N m z a w) : ∀ t b, z t b → b < w.heap.size := h.mem.zlt
theorem At.slot (h : At G N m z a w) {i : Nat} {x : AV} (hi : lk m i = some x) : Rep w z [] x (a.eval (.tmp i)) := by
  obtain ⟨y, hy, hr⟩ := h.slots i x hi
  have : a.eval (.tmp i) = y := by simp [Act.eval, Array.getD_eq_getD_getElem?, hy]
  rw [this]; exact hr
theorem At.putb (h : At G N m z a w) (d : Nat) (hd : d < N) (v : Value) : At G N ((d, .r v) :: m) z (a.put (some d) v) w := Sim.put h (.r _ v) (some d) (fun i hi => by cases hi; exact hd)
end
end Go.AM
/- The abstract machine: a range over a function: the rounds. -/
namespace Go.AM
open Go
theorem Rep.later {w : World} {z : Zone} {th th' : List NLoc} {x : AV} {v : Value} (h : Rep w z th x v) (hf : ∀ (i : Nat) L, th[i]? = some L → th'[i]? = some L) : Rep w z th' x v := by
  induction h with
  | r th v => exact .r _ _
  | nil th t k a c => exact .nil _ _ _ _ _
  | ro th t k els b o c ys hz hc hk hy ho hx ih => exact .ro _ _ _ _ b o c ys hz hc hk hy ho hx
  | re th t c b o off ys hz hy hx ih => exact .re _ _ _ b o _ ys hz hy hx
  | s th n lo len c x L hL hp hl hc ho => exact .s _ _ _ _ c x L (hf _ _ hL) hp hl hc ho
  | sn th n lo L hL hp => exact .sn _ _ _ L (hf _ _ hL) hp
  | p th n i off L hL => exact .p _ _ _ _ L (hf _ _ hL)
  | agg th c ys hl hx ih => exact .agg _ _ ys hl (fun i x y h1 h2 => ih i x y h1 h2 hf)
  | tup th c ys hl hx ih => exact .tup _ _ ys hl (fun i x y h1 h2 => ih i x y h1 h2 hf)
  | fn th f c ys hl hx ih => exact .fn _ _ _ ys hl (fun i x y h1 h2 => ih i x y h1 h2 hf)
  | ifc th t x v hx ih => exact .ifc _ _ _ _ (ih hf)
  | q th n L hL => exact .q _ _ L (hf _ _ hL)
  | any th v => exact .any _ _
def rdB (D b : Nat) : Prop := b = D ∨ b = D + 1
/-- Where a round begins anew: what is known is kept, and the loop's own two blocks. -/
def EpR (D : Nat) (w0 : World) (G : List (Nat × List Value)) (th0 : List NLoc) (W : World) (zc : Zone) : Env := ⟨W, fun b => (∀ t, ¬ zc t b) ∧ ¬ rdB D b ∧ w0.heap.size ≤ b, zc, G, th0, []⟩
section
variable {P : Program} {G : List (Nat × List Value)} {N D : Nat} {w0 W w w' : World} {z0 zc z z' : Zone} {th0 th : List NLoc} {o : List (Nat × Nd)} {n : Nat} {m : List (Nat × AV)} {tmps : Array Value}
theorem Mem.epochG {E : Env} (h : Mem E o n th z w) (hG : E.G = G) (hpre : ∀ (i : Nat) L, th0[i]? = some L → th[i]? = some L) (hu : noUo o = true)
    (hnd : ∀ i nd L, lk o i = some nd → th[i]? = some L → L.ph = false → L.b < w.heap.size ∧ (∀ t, ¬ z t L.b) ∧ ¬ rdB D L.b ∧ w0.heap.size ≤ L.b) (hs : w.heap.size ≤ w'.heap.size) (hsame : ∀ b, b < w.heap.size → ¬ rdB D b → w'.heap[b]? = w.heap[b]?)
    (hzr : ∀ t b, z t b → ¬ rdB D b) (hzz : ∀ t b, z t b → z' t b) (hzn : ∀ t b, z' t b → z t b ∨ (t = true ∧ w.heap.size ≤ b ∧ b < w'.heap.size)) : Mem (EpR D w0 G th0 w' z') o n th z' w' := by
  have le : Le w z w' z' := ⟨hzz, fun t b hb => hsame b (h.zlt t b hb) (hzr t b hb)⟩
  refine ⟨h.len, fun i nd hi => ?_, h.inj, ?_, Nat.le_refl _, fun _ _ _ => rfl, fun _ _ h => h, fun b h => .inl h, fun b h => h, fun g cs hg => ?_, hpre, Sys.refl _, uls_none hu⟩
  · obtain ⟨L, h1, h2, h3⟩ := h.nds i nd hi
    refine ⟨L, h1, by simpa using h2.on le (fun hp => hsame _ (hnd i nd L hi h1 hp).1 (hnd i nd L hi h1 hp).2.2.1) [], fun hp => ?_⟩
    obtain ⟨k1, k2, k3, k4⟩ := hnd i nd L hi h1 hp
    have hz' : ∀ t, ¬ z' t L.b := fun t hz => by
      rcases hzn t L.b hz with q | ⟨_, q, _⟩
      · exact k2 t q
      · omega
    exact ⟨Nat.lt_of_lt_of_le k1 hs, hz', .inl ⟨hz', k3, k4⟩⟩
  · intro t b hb
    rcases hzn t b hb with q | ⟨_, _, q⟩
    · exact Nat.lt_of_lt_of_le (h.zlt t b q) hs
    · exact q
  · obtain ⟨h1, h2⟩ := h.globs g cs (by rw [hG]; exact hg)
    exact ⟨hzz _ _ h1, fun j v hv => (cell_heap (le.same _ _ h1) j).trans (h2 j v hv)⟩
theorem Mem.epoch (h : Mem (EpR D w0 G th0 W zc) o n th z w) (hu : noUo o = true) (h0 : w0.heap.size ≤ D) (hD : D + 1 < W.heap.size) (hs : w.heap.size ≤ w'.heap.size) (hsame : ∀ b, b < w.heap.size → ¬ rdB D b → w'.heap[b]? = w.heap[b]?)
    (hzr : ∀ t b, z t b → ¬ rdB D b) (hzz : ∀ t b, z t b → z' t b) (hzn : ∀ t b, z' t b → z t b ∨ (t = true ∧ w.heap.size ≤ b ∧ b < w'.heap.size)) : Mem (EpR D w0 G th0 w' z') o n th z' w' := by
  refine h.epochG rfl h.pre hu (fun i nd L hi hL hp => ?_) hs hsame hzr hzz hzn
  obtain ⟨L', h1, _, h3⟩ := h.nds i nd hi
  rw [hL] at h1; cases h1
  obtain ⟨k1, k2, k3⟩ := h3 hp
  refine ⟨k1, k2, ?_⟩
  rcases k3 with k3 | k3
  · exact k3.2
  · have k3 : W.heap.size ≤ L.b := k3
    exact ⟨by rintro (e | e) <;> omega, by omega⟩
/-- What a round leaves of what was known. -/
structure Bd (D : Nat) (w0 : World) (z0 : Zone) (th0 : List NLoc) (m : List (Nat × AV)) (tmps : Array Value) (W : World) (zc : Zone) : Prop where
  slots : ∀ i x, lk m i = some x → ∃ y, tmps[i]? = some y ∧ Rep W zc th0 x y
  zrd : ∀ t b, zc t b → ¬ rdB D b
  zlt : ∀ t b, zc t b → b < W.heap.size
  since : Since w0 z0 W zc
theorem Bd.go (h : Bd D w0 z0 th0 m tmps W zc) (h0 : w0.heap.size ≤ D) (hD : D + 1 < W.heap.size) (hs : W.heap.size ≤ w'.heap.size) (hsame : ∀ b, b < W.heap.size → (∃ t, zc t b) ∨ b < w0.heap.size → w'.heap[b]? = W.heap[b]?) (hsys : Sys W w')
    (hzz : ∀ t b, zc t b → z' t b) (hzn : ∀ t b, z' t b → zc t b ∨ (t = true ∧ w0.heap.size ≤ b ∧ b < w'.heap.size ∧ ¬ rdB D b)) : Bd D w0 z0 th0 m tmps w' z' := by
  have le : Le W zc w' z' := ⟨hzz, fun t b hb => hsame b (h.zlt t b hb) (.inl ⟨t, hb⟩)⟩
  refine ⟨fun i x hi => ?_, fun t b hb => ?_, fun t b hb => ?_, ⟨⟨Nat.le_trans h.since.ext.size hs, fun b hb => ?_, h.since.ext.sys.trans hsys⟩, fun t b hb => hzz t b (h.since.sub t b hb), fun t b hb => ?_⟩⟩
  · obtain ⟨y, hy, hr⟩ := h.slots i x hi
    exact ⟨y, hy, hr.on' le⟩
  · rcases hzn t b hb with q | q
    · exact h.zrd t b q
    · exact q.2.2.2
  · rcases hzn t b hb with q | q
    · exact Nat.lt_of_lt_of_le (h.zlt t b q) hs
    · exact q.2.2.1
  · exact (hsame b (Nat.lt_of_lt_of_le hb h.since.ext.size) (.inr hb)).trans (h.since.ext.same b hb)
  · rcases hzn t b hb with q | q
    · rcases h.since.new t b q with r | ⟨r1, r2, r3⟩
      · exact .inl r
      · exact .inr ⟨r1, r2, Nat.lt_of_lt_of_le r3 hs⟩
    · exact .inr ⟨q.1, q.2.1, q.2.2.1⟩
/-- The world behind a piece of a round. -/
theorem Bd.mem (h : Bd D w0 z0 th0 m tmps W zc) (h0 : w0.heap.size ≤ D) (hD : D + 1 < W.heap.size) (hm : Mem (EpR D w0 G th0 W zc) o n th z' w') : Bd D w0 z0 th0 m tmps w' z' := by
  refine h.go h0 hD hm.grow (fun b hb hk => hm.frame b hb (fun ho => ?_)) hm.sys hm.zin (fun t b hb => ?_)
  · rcases hk with ⟨t, hk⟩ | hk
    · exact ho.1 t hk
    · have := ho.2.2; omega
  · cases t with
    | false => exact .inl (hm.zb b hb)
    | true =>
      rcases hm.zout b hb with q | q | q
      · exact .inl q
      · exact .inr ⟨rfl, q.2.2, hm.zlt _ _ hb, q.2.1⟩
      · have q : W.heap.size ≤ b := q
        exact .inr ⟨rfl, by omega, hm.zlt _ _ hb, by rintro (e | e) <;> omega⟩
theorem Mem.rd (hm : Mem (EpR D w0 G th0 W zc) o n th z' w') (hD : D + 1 < W.heap.size) {b : Nat} (hb : rdB D b) : w'.heap[b]? = W.heap[b]? :=
  hm.frame b (show b < W.heap.size by rcases hb with rfl | rfl <;> omega) (fun ho => ho.2.1 hb)
/-- Between two rounds. -/
def JM (G : List (Nat × List Value)) (D : Nat) (w0 : World) (z0 : Zone) (th0 : List NLoc) (m : List (Nat × AV)) (tmps : Array Value) (o : List (Nat × Nd)) (n : Nat) (W : World) (z : Zone) : Prop :=
  D + 1 < W.heap.size ∧ ∃ th zc, Mem (EpR D w0 G th0 W zc) o n th zc W ∧ Bd D w0 z0 th0 m tmps W zc ∧ ∀ t b, z t b → zc t b
theorem JM.step (h : JM G D w0 z0 th0 m tmps o n W z) (hu : noUo o = true) (h0 : w0.heap.size ≤ D) (hs : W.heap.size ≤ w'.heap.size) (hsame : ∀ b, b < W.heap.size → ¬ rdB D b → w'.heap[b]? = W.heap[b]?) (hsys : Sys W w')
    (hzn : ∀ t b, z' t b → z t b ∨ (t = true ∧ W.heap.size ≤ b ∧ b < w'.heap.size)) : JM G D w0 z0 th0 m tmps o n w' z' := by
  obtain ⟨hD, th, zc, hm, hb, hz⟩ := h
  refine ⟨by omega, th, fun t b => zc t b ∨ (t = true ∧ W.heap.size ≤ b ∧ b < w'.heap.size), hm.epoch hu h0 hD hs hsame hb.zrd (fun t b h => .inl h) (fun t b h => h), ?_, fun t b hb' => ?_⟩
  · refine hb.go h0 hD hs (fun b hlt hk => hsame b hlt ?_) hsys (fun t b h => .inl h) (fun t b h => ?_)
    · rcases hk with ⟨t, hk⟩ | hk
      · exact hb.zrd t b hk
      · rintro (e | e) <;> omega
    · rcases h with h | ⟨h1, h2, h3⟩
      · exact .inl h
      · exact .inr ⟨h1, by omega, h3, by rintro (e | e) <;> omega⟩
  · rcases hzn t b hb' with q | q
    · exact .inl (hz t b q)
    · exact .inr q
/-- A piece of code within a round. -/
def AWR (P : Program) (l kk : Nat) (E : Env) (N : Nat) (c : Code) (st : AS) (AQ : AExit → AS → Prop) : Prop :=
  ∀ Q, QOK E N Q AQ → ¬ LetsOut Q → ∀ th z a w, Sim E N st th z a w → c.wpIn (rW (some l)) kk P Q a w
section
variable {l kk : Nat} {E : Env} {st : AS} {AQ : AExit → AS → Prop} {c x y : Code}
theorem awr_region {id : Nat} {ops : Array Oper} (h : ∀ (K : AS → Prop) (kp : AV → AS → Prop), (∀ st', AQ .normal st' → K st') → (∀ x st', AQ (.pan x) st' → kp x st') → ex P E N (dsOf ops) kp ops.toList st K) (hd : dstOK N ops = true := by kernel_rfl) (hnd : (ops.toList.all fun o => noDefer o.op) = true := by kernel_rfl) : AWR P l kk E N (.region id ops false) st AQ := by
  intro Q hQ hO th z a w hs
  refine wpIn_region_list (list_in hO _ hnd ?_)
  exact exec_sound (kp := fun x st => AQ (.pan x) st) (K := AQ .normal) (fun x v st' th' z' a' w' h1 h2 h3 => hQ.2.2.2 x v st' th' z' w' h1 h2.mem h3 a' h2.dfs) (fun st' th' z' a' w' h1 h2 => hQ.1 st' th' z' a' w' h1 h2) ops.toList (dstOK_spec hd) hs (exec_of (h _ _ (fun _ h => h) (fun _ _ h => h)))
theorem awr_skip (h : AQ .normal st) : AWR P l kk E N .skip st AQ := fun _ hQ _ th z a w hs => wpIn_skip (hQ.1 st th z a w h hs)
theorem awr_exit {id : Nat} (h : AQ (.exit id) st) : AWR P l kk E N (.exit id) st AQ := fun _ hQ _ th z a w hs => wpIn_exit (hQ.2.1 id st th z a w h hs)
theorem awr_ret (h : AQ .ret st) : AWR P l kk E N .ret st AQ := fun _ hQ _ th z a w hs => wpIn_ret (hQ.2.2.1 st th z a w h hs)
theorem awr_seq (h : AWR P l kk E N x st (thenA (fun st' => AWR P l kk E N y st' AQ) AQ)) : AWR P l kk E N (.seq x y) st AQ := by
  intro Q hQ hO th z a w hs
  refine wpIn_seq (h (Exit.then (y.wpIn (rW (some l)) kk P Q) Q) ⟨?_, ?_, ?_, ?_⟩ (by rintro ⟨a, w, h⟩; exact hO ⟨a, w, h⟩) th z a w hs)
  · intro st' th' z' a' w' h1 h2; exact h1 Q hQ hO th' z' a' w' h2
  · intro id st' th' z' a' w' h1 h2; exact hQ.2.1 id st' th' z' a' w' h1 h2
  · intro st' th' z' a' w' h1 h2; exact hQ.2.2.1 st' th' z' a' w' h1 h2
  · intro x v st' th' z' w' h1 h2 h3 a' h4; exact hQ.2.2.2 x v st' th' z' w' h1 h2 h3 a' h4
theorem awr_block {id : Nat} (h : AWR P l kk E N c st (blockA id AQ)) : AWR P l kk E N (.block id c) st AQ := by
  intro Q hQ hO th z a w hs
  refine wpIn_block (h (Exit.inBlock id Q) ⟨?_, ?_, ?_, ?_⟩ (by rintro ⟨a, w, h⟩; exact hO ⟨a, w, h⟩) th z a w hs)
  · intro st' th' z' a' w' h1 h2; exact hQ.1 st' th' z' a' w' h1 h2
  · intro id' st' th' z' a' w' h1 h2
    simp only [blockA] at h1
    simp only [Exit.inBlock]
    split at h1
    · rename_i e; rw [if_pos (Nat.eq_of_beq_eq_true e)]; exact hQ.1 st' th' z' a' w' h1 h2
    · rename_i e; rw [if_neg (Nat.ne_of_beq_eq_false e)]; exact hQ.2.1 id' st' th' z' a' w' h1 h2
  · intro st' th' z' a' w' h1 h2; exact hQ.2.2.1 st' th' z' a' w' h1 h2
  · intro x v st' th' z' w' h1 h2 h3 a' h4; exact hQ.2.2.2 x v st' th' z' w' h1 h2 h3 a' h4
theorem awr_cond_t {o : Operand} (hc : ev st E.G o = some (.r (.bool true))) (h : AWR P l kk E N x st AQ) : AWR P l kk E N (.cond o x y) st AQ := fun Q hQ hO th z a w hs => wpIn_cond_true (hs.eval_r hc) (h Q hQ hO th z a w hs)
theorem awr_cond_f {o : Operand} (hc : ev st E.G o = some (.r (.bool false))) (h : AWR P l kk E N y st AQ) : AWR P l kk E N (.cond o x y) st AQ := fun Q hQ hO th z a w hs => wpIn_cond_false (hs.eval_r hc) (h Q hQ hO th z a w hs)
theorem awr_emb {st' : AS} (h : Emb E N st st') (hc : AWR P l kk E N c st' AQ) : AWR P l kk E N c st AQ := fun Q hQ hO th z a w hs => let ⟨th', z', h1⟩ := h th z a w hs; hc Q hQ hO th' z' a w h1
end
end
end Go.AM
/- The abstract machine: a range over a function: the law. -/
namespace Go.AM
open Go Go.RowKit
/-- What a loop's body promises to an iterator. -/
structure Yld {α : Type} (eA : α → AV) (all : List α) (P : Program) (k l : Nat) (J Jx : List α → World → Zone → Prop) : Prop where
  grow : ∀ pre W W' z z', J pre W z → Since W z W' z' → J pre W' z'
  growx : ∀ pre W W' z z', Jx pre W z → Since W z W' z' → Jx pre W' z'
  call : ∀ pre x v W z, pre ++ [x] <+: all → J pre W z → (∀ t b, z t b → b < W.heap.size) → Rep W z [] (eA x) v → YieldAt Fence.wide k P l #[v] W fun e W' => (W.heap.size ≤ W'.heap.size ∧ (∀ t b, z t b → W'.heap[b]? = W.heap[b]?)) ∧
    ((e = .returned (.bool true) ∧ J (pre ++ [x]) W' z) ∨ (e = .returned (.bool false) ∧ Jx (pre ++ [x]) W' z))
def codeX : AExit → Code
  | .exit id => .exit id
  | _ => .ret
section
variable {P : Program} {G : List (Nat × List Value)} {N kk : Nat} {w0 w : World} {z0 zc : Zone} {th0 th : List NLoc} {m : List (Nat × AV)} {a : Act} {Q : Exit → Act → World → Prop} {α : Type} {eA : α → AV}
theorem put_same (w : World) (r : Nat) (o : Obj) {D : Nat} (hr : rdB D r) : ∀ b, b < w.heap.size → ¬ rdB D b → (w.putObj r o).heap[b]? = w.heap[b]? := fun b _ hb => World.putObj_heap_other (by rintro rfl; exact hb hr)
theorem wp_range {g : Operand} {p gf : Nat} {assign body : Code} {lb : Array Value} {all : List α} (I : List α → List (Nat × Nd)) (nI : Nat) (B : List α → α → AS) (Ix : AExit → List α → List (Nat × Nd)) (nX : Nat) (ok : List α → Prop) (X : AExit → List α → Prop)
    (hu : ∀ pre, noUo (I pre) = true) (huB : ∀ pre x, noUo (B pre x).o = true) (hux : ∀ e pre, noUo (Ix e pre) = true) (hXn : ∀ v pre, ¬ X (.pan v) pre) (hok : ok [])
    (hA : Mem ⟨w0, fun _ => False, z0, G, [], []⟩ (I []) nI th zc w) (hsl : ∀ i x, lk m i = some x → ∃ y, a.tmps[i]? = some y ∧ Rep w zc th0 x y) (hth : ∀ (i : Nat) L, th0[i]? = some L → th[i]? = some L)
    (htm : a.tmps.size = N) (hdf : a.defers = []) (hg : a.eval g = .func (.func gf) #[] lb) (hgf : okFn P gf = true) (hp : p < N) (hpm : lk m p = none)
    (hit : ∀ J Jx W z, Yld eA all P kk (w.heap.size + 1) J Jx → (∀ t b, z t b → b < W.heap.size) → Since w zc W z → J [] W z → CallsIn Fence.wide (kk + 1) P gf (#[.func (.yield (w.heap.size + 1)) #[] #[]] ++ lb) W fun e W' => (∃ v, e = .returned v) ∧ ∃ z', (∀ t b, z t b → z' t b) ∧ (J all W' z' ∨ ∃ pre, pre <+: all ∧ Jx pre W' z'))
    (hassign : ∀ E pre x, pre ++ [x] <+: all → ok pre → E.G = G → E.th0.length = th0.length → AWR P (w.heap.size + 1) kk E N assign ⟨(p, eA x) :: m, I pre, nI⟩ (fun e st => e = .normal ∧ Emb E N st (B pre x)))
    (hbody : ∀ E pre x, pre ++ [x] <+: all → ok pre → E.G = G → E.th0.length = th0.length → AWR P (w.heap.size + 1) kk E N body (B pre x) (fun e st => (e = .normal ∧ ok (pre ++ [x]) ∧ Emb E N st ⟨[], I (pre ++ [x]), nI⟩) ∨ (e ≠ .normal ∧ X e (pre ++ [x]) ∧ Emb E N st ⟨[], Ix e (pre ++ [x]), nX⟩)))
    (hdone : ∀ W z', ok all → JM G w.heap.size w0 z0 th0 m a.tmps (I all) nI W z' → W.heap[w.heap.size]? = some (.deferred (some [])) → Q .normal { a with defers := [{ target := .collected w.heap.size, args := #[] }] } W)
    (hstop : ∀ e pre W z', pre <+: all → X e pre → JM G w.heap.size w0 z0 th0 m a.tmps (Ix e pre) nX W z' → W.heap[w.heap.size]? = some (.deferred (some [])) → (codeX e).wp P Q { a with defers := [{ target := .collected w.heap.size, args := #[] }] } W) :
    (Code.rangeFunc g #[p] assign body).wp P Q a w := by
  obtain ⟨D, hDd⟩ : ∃ D, D = w.heap.size := ⟨_, rfl⟩
  have h0 : w0.heap.size ≤ D := by rw [hDd]; exact hA.grow
  refine (wpIn_wide (n := kk + 2)).1 (wpIn_rangeFunc ?_)
  intro fn _
  obtain ⟨rec, hrec⟩ : ∃ rec : LoopState → Option Code → Loop, rec = fun st pe => { state := st, pending := pe, fn, tmps := a.tmps, params := #[p], assign, body, defers := w.heap.size } := ⟨_, rfl⟩
  obtain ⟨W1, hW1⟩ : ∃ W1, (w.alloc (.deferred (some []))).alloc (.loop (rec .ready none)) = W1 := ⟨_, rfl⟩
  have hsz : W1.heap.size = w.heap.size + 2 := by rw [← hW1]; simp
  have hL1 : W1.heap[D + 1]? = some (.loop (rec .ready none)) := by
    rw [← hW1, hDd]; have := World.alloc_heap_new (w.alloc (.deferred (some []))) (.loop (rec .ready none)); rwa [World.size_alloc] at this
  have hK1 : W1.heap[D]? = some (.deferred (some [])) := by
    rw [← hW1, hDd]; exact (Below.heap_alloc _ _ _ (by simp)).trans (World.alloc_heap_new w _)
  have hsame1 : ∀ b, b < w.heap.size → W1.heap[b]? = w.heap[b]? := fun b hb => by
    rw [← hW1]; exact (Below.heap_alloc _ _ _ (by simp; omega)).trans (Below.heap_alloc _ _ _ hb)
  have hsys1 : Sys w W1 := by rw [← hW1]; exact ⟨rfl, rfl, rfl⟩
  have hzr0 : ∀ t b, zc t b → ¬ rdB D b := fun t b hb => by have := hA.zlt t b hb; rintro (e | e) <;> omega
  have hS1 : Since w zc W1 zc := ⟨⟨by omega, hsame1, hsys1⟩, fun _ _ h => h, fun _ _ h => .inl h⟩
  have hS0 : Since w0 z0 w zc := since_of_mem hA
  -- between rounds
  let J : List α → World → Zone → Prop := fun pre W z => ok pre ∧ JM G D w0 z0 th0 m a.tmps (I pre) nI W z ∧ W.heap[D + 1]? = some (.loop (rec .ready none)) ∧ W.heap[D]? = some (.deferred (some []))
  let Jx : List α → World → Zone → Prop := fun pre W z => ∃ e, X e pre ∧ JM G D w0 z0 th0 m a.tmps (Ix e pre) nX W z ∧ W.heap[D + 1]? = some (.loop (rec .done (some (codeX e)))) ∧ W.heap[D]? = some (.deferred (some []))
  have hJ1 : J [] W1 zc := by
    refine ⟨hok, ⟨by omega, th, zc, hA.epochG rfl hth (hu _) (fun i nd L hi hL hp => ?_) (by omega) (fun b hb _ => hsame1 b hb) hzr0 (fun _ _ h => h) (fun _ _ h => .inl h), ⟨fun i x hi => ?_, hzr0, fun t b hb => Nat.lt_of_lt_of_le (hA.zlt t b hb) (by omega), hS0.trans hS1⟩, fun _ _ h => h⟩, hL1, hK1⟩
    · obtain ⟨L', h1, _, h3⟩ := hA.nds i nd hi
      rw [hL] at h1; cases h1
      obtain ⟨k1, k2, k3⟩ := h3 hp
      refine ⟨k1, k2, by rintro (e | e) <;> omega, ?_⟩
      rcases k3 with k3 | k3
      · exact k3.elim
      · exact k3
    · obtain ⟨y, hy, hr⟩ := hsl i x hi
      exact ⟨y, hy, hr.on' ⟨fun _ _ h => h, fun t b hb => hsame1 b (hA.zlt t b hb)⟩⟩
  have Y : Yld eA all P kk (D + 1) J Jx := by
    refine ⟨?_, ?_, ?_⟩
    · rintro pre W W' z z' ⟨hk, hj, h1, h2⟩ s
      exact ⟨hk, hj.step (hu _) h0 s.ext.size (fun b hb _ => s.ext.same b hb) s.ext.sys s.new, (s.ext.same _ hj.1).trans h1, (s.ext.same _ (by have := hj.1; omega)).trans h2⟩
    · rintro pre W W' z z' ⟨e, hX, hj, h1, h2⟩ s
      exact ⟨e, hX, hj.step (hux _ _) h0 s.ext.size (fun b hb _ => s.ext.same b hb) s.ext.sys s.new, (s.ext.same _ hj.1).trans h1, (s.ext.same _ (by have := hj.1; omega)).trans h2⟩
    · rintro pre x v W z hpx ⟨hok1, ⟨hD, th1, z1, hm, hb, hz⟩, h1, h2⟩ hzlt hv
      have hy := run_yield (P := P) (args := #[v]) h1 (by rw [hrec]; rfl)
      rw [hrec] at hy
      refine ⟨fn, _, assign, body, hy, roundIn_of_wpIn trivial ?_⟩
      have hs1 : Sim (EpR D w0 G th0 W z1) N ⟨(p, eA x) :: m, I pre, nI⟩ th1 z1 { tmps := (#[p].zip #[v]).foldl (fun tmps (t, a) => tmps.setIfInBounds t a) a.tmps, defers := [] } W := by
        refine ⟨hm, by simp [htm], rfl, fun i y hi => ?_⟩
        have he : (#[p].zip #[v]).foldl (fun tmps (t, a) => tmps.setIfInBounds t a) a.tmps = a.tmps.setIfInBounds p v := by simp
        rw [he]
        simp only [lk] at hi
        by_cases hpi : p = i
        · subst hpi
          rw [if_pos rfl] at hi; cases hi
          exact ⟨v, by rw [Array.getElem?_setIfInBounds_self_of_lt]; rw [htm]; exact hp, (hv.on' ⟨hz, fun _ _ _ => rfl⟩).pure th1⟩
        · rw [if_neg hpi] at hi
          obtain ⟨u, hu', hr⟩ := hb.slots i y hi
          exact ⟨u, by rw [Array.getElem?_setIfInBounds_ne hpi]; exact hu', hr.later hm.pre⟩
      have hlets : ∀ K : Act → World → Prop, ¬ LetsOut (Exit.then K (fun _ _ _ => False)) := by rintro K ⟨a, w, h⟩; exact h
      rw [← hDd] at hassign hbody
      refine hassign (EpR D w0 G th0 W z1) pre x hpx hok1 rfl rfl _ ⟨?_, fun id st th' z' a' w' h => (by cases h.1), fun st th' z' a' w' h => (by cases h.1), fun x' v' st th' z' w' h => (by cases h.1)⟩ (hlets _) th1 z1 _ W hs1
      rintro st th2 z2 a2 w2 ⟨_, hemb⟩ hs2
      obtain ⟨th3, z3, hs3⟩ := hemb _ _ _ _ hs2
      have hb3 := hb.mem h0 hD hs3.mem
      have hr3 : w2.heap[D + 1]? = some (.loop (rec .ready none)) := (hs3.mem.rd hD (.inr rfl)).trans h1
      have hd3 : w2.heap[D]? = some (.deferred (some [])) := (hs3.mem.rd hD (.inl rfl)).trans h2
      have hD3 : D + 1 < w2.heap.size := (Array.getElem?_eq_some_iff.1 hr3).1
      obtain ⟨w3, hw3⟩ : ∃ w3, w3 = w2.putObj (D + 1) (.loop { rec .ready none with state := .busy }) := ⟨_, rfl⟩
      have hsz3 : w3.heap.size = w2.heap.size := by rw [hw3]; simp
      have hsm3 : ∀ b, b < w2.heap.size → ¬ rdB D b → w3.heap[b]? = w2.heap[b]? := by rw [hw3]; exact put_same _ _ _ (.inr rfl)
      refine ⟨w3, by rw [hw3]; exact run_beginRound hr3 (by rw [hrec]), ?_⟩
      have hsy3 : Sys w2 w3 := by rw [hw3]; exact ⟨rfl, rfl, rfl⟩
      have hbz : ∀ b, b < w2.heap.size → (∃ t, z3 t b) ∨ b < w0.heap.size → ¬ rdB D b := fun b _ hk => by
        rcases hk with ⟨t, hk⟩ | hk
        · exact hb3.zrd t b hk
        · rintro (e | e) <;> omega
      have hb4 : Bd D w0 z0 th0 m a.tmps w3 z3 := hb3.go h0 hD3 (by omega) (fun b hlt hk => hsm3 b hlt (hbz b hlt hk)) hsy3 (fun _ _ h => h) (fun _ _ h => .inl h)
      have hm4 := hs3.mem.epoch (w' := w3) (z' := z3) (huB pre x) h0 hD (by omega) hsm3 hb3.zrd (fun _ _ h => h) (fun _ _ h => .inl h)
      have hs4 : Sim (EpR D w0 G th0 w3 z3) N (B pre x) th3 z3 a2 w3 := ⟨hm4, hs3.size, hs3.dfs, fun i y hi => let ⟨u, hu', hr⟩ := hs3.slots i y hi; ⟨u, hu', hr.on' ⟨fun _ _ h => h, fun t b hb => hsm3 b (hb3.zlt t b hb) (hb3.zrd t b hb)⟩⟩⟩
      have hr4 : w3.heap[D + 1]? = some (.loop { rec .ready none with state := .busy }) := by rw [hw3]; exact World.putObj_heap_same hD3
      have hd4 : w3.heap[D]? = some (.deferred (some [])) := by rw [hw3]; exact (World.putObj_heap_other (by omega)).trans hd3
      -- a round's end
      have fin : ∀ (o' : List (Nat × Nd)) (n' : Nat) (st : AS) (th5 : List NLoc) (z5 : Zone) (a5 : Act) (w5 : World), noUo o' = true → Emb (EpR D w0 G th0 w3 z3) N st ⟨[], o', n'⟩ → Sim (EpR D w0 G th0 w3 z3) N st th5 z5 a5 w5 → ∀ jump : Option Code,
          (Instr.endRound (D + 1) jump).run P w5 = .ok (.bool jump.isNone) (w5.putObj (D + 1) (.loop (rec (if jump.isNone then .ready else .done) jump))) ∧
          (W.heap.size ≤ (w5.putObj (D + 1) (.loop (rec (if jump.isNone then .ready else .done) jump))).heap.size ∧ ∀ t b, z t b → (w5.putObj (D + 1) (.loop (rec (if jump.isNone then .ready else .done) jump))).heap[b]? = W.heap[b]?) ∧
          JM G D w0 z0 th0 m a.tmps o' n' (w5.putObj (D + 1) (.loop (rec (if jump.isNone then .ready else .done) jump))) z ∧
          (w5.putObj (D + 1) (.loop (rec (if jump.isNone then .ready else .done) jump))).heap[D + 1]? = some (.loop (rec (if jump.isNone then .ready else .done) jump)) ∧
          (w5.putObj (D + 1) (.loop (rec (if jump.isNone then .ready else .done) jump))).heap[D]? = some (.deferred (some [])) := by
        intro o' n' st th5 z5 a5 w5 hu' hemb5 hs5 jump
        obtain ⟨th6, z6, hs6⟩ := hemb5 _ _ _ _ hs5
        have hD4 : D + 1 < w3.heap.size := by omega
        have hb6 := hb4.mem h0 hD4 hs6.mem
        have hr6 := (hs6.mem.rd hD4 (.inr rfl)).trans hr4
        have hd6 := (hs6.mem.rd hD4 (.inl rfl)).trans hd4
        have hD6 : D + 1 < w5.heap.size := (Array.getElem?_eq_some_iff.1 hr6).1
        generalize hob : (Obj.loop (rec (if jump.isNone then .ready else .done) jump)) = ob
        have hsm6 : ∀ b, b < w5.heap.size → ¬ rdB D b → (w5.putObj (D + 1) ob).heap[b]? = w5.heap[b]? := put_same _ _ _ (.inr rfl)
        have hbz6 : ∀ b, b < w5.heap.size → (∃ t, z6 t b) ∨ b < w0.heap.size → ¬ rdB D b := fun b _ hk => by
          rcases hk with ⟨t, hk⟩ | hk
          · exact hb6.zrd t b hk
          · rintro (e | e) <;> omega
        have hrun := run_endRound (P := P) jump hr6
        rw [hrec] at hrun hob
        rw [← hrec] at hob
        refine ⟨?_, ⟨?_, fun t b hb' => ?_⟩, ⟨by simpa using hD6, th6, z6, hs6.mem.epoch hu' h0 hD4 (by simp) hsm6 hb6.zrd (fun _ _ h => h) (fun _ _ h => .inl h),
          hb6.go h0 hD6 (by simp) (fun b hlt hk => hsm6 b hlt (hbz6 b hlt hk)) ⟨rfl, rfl, rfl⟩ (fun _ _ h => h) (fun _ _ h => .inl h), fun t b hb' => hs6.mem.zin t b (hs3.mem.zin t b (hz t b hb'))⟩,
          World.putObj_heap_same hD6, (World.putObj_heap_other (by omega)).trans hd6⟩
        · rw [hrun, ← hob, hrec]
        · have e1 : W.heap.size ≤ w2.heap.size := hs3.mem.grow
          have e2 : w3.heap.size ≤ w5.heap.size := hs6.mem.grow
          rw [World.putObj_size]; omega
        · have k1 := hz t b hb'
          have k2 : w2.heap[b]? = W.heap[b]? := hs3.mem.frame b (hb.zlt t b k1) (fun ho => ho.1 t k1)
          have k3 := hs3.mem.zin t b k1
          have k4 : w5.heap[b]? = w3.heap[b]? := hs6.mem.frame b (hb4.zlt t b k3) (fun ho => ho.1 t k3)
          exact (hsm6 b (hb6.zlt t b (hs6.mem.zin t b k3)) (hb.zrd t b k1)).trans (k4.trans ((hsm3 b (hb3.zlt t b k3) (hb.zrd t b k1)).trans k2))
      refine hbody (EpR D w0 G th0 w3 z3) pre x hpx hok1 rfl rfl _ ⟨?_, ?_, ?_, ?_⟩ (by rintro ⟨a, w, h⟩; exact h) th3 z3 a2 w3 hs4
      · rintro st th5 z5 a5 w5 (⟨_, hok5, hemb5⟩ | ⟨hne, _⟩) hs5
        · obtain ⟨f1, f2, f3, f4, f5⟩ := fin _ _ st th5 z5 a5 w5 (hu _) hemb5 hs5 none
          exact ⟨_, _, f1, f2, .inl ⟨rfl, hok5, f3, f4, f5⟩⟩
        · exact absurd rfl hne
      · rintro id st th5 z5 a5 w5 (⟨he, _⟩ | ⟨_, hX, hemb5⟩) hs5
        · cases he
        · obtain ⟨f1, f2, f3, f4, f5⟩ := fin _ _ st th5 z5 a5 w5 (hux _ _) hemb5 hs5 (some (.exit id))
          exact ⟨_, _, f1, f2, .inr ⟨rfl, _, hX, f3, f4, f5⟩⟩
      · rintro st th5 z5 a5 w5 (⟨he, _⟩ | ⟨_, hX, hemb5⟩) hs5
        · cases he
        · obtain ⟨f1, f2, f3, f4, f5⟩ := fin _ _ st th5 z5 a5 w5 (hux _ _) hemb5 hs5 (some .ret)
          exact ⟨_, _, f1, f2, .inr ⟨rfl, _, hX, f3, f4, f5⟩⟩
      · rintro x' v' st th5 z5 w5 (⟨he, _⟩ | ⟨_, hX, _⟩)
        · cases he
        · exact absurd hX (hXn x' _)
  refine ⟨w.heap.size + 1, [{ target := .collected w.heap.size, args := #[] }], W1, { target := .fn (.func gf) lb, args := #[.func (.yield (w.heap.size + 1)) #[] #[]] }, W1, gf,
    #[.func (.yield (w.heap.size + 1)) #[] #[]] ++ lb, W1, ?_, ?_, fun _ _ => trivial, ?_, fun h => (by cases h), ?_⟩
  · rw [← hW1, hrec]; exact run_enterLoop_outer _ _ _ _ _
  · simp only [resolve, hg]
    simp [go_sem]
  · simp only [invoke]
    rw [run_callFunc hgf]
  · rw [hdf]
    have hitr := hit J Jx W1 zc (by rw [← hDd]; exact Y) (fun t b hb => Nat.lt_of_lt_of_le (hA.zlt t b hb) (by omega)) hS1 hJ1
    refine hitr.mono ?_
    rintro e W' ⟨⟨v, rfl⟩, z', _, (⟨hk, hj, hr, hd⟩ | ⟨pre, hpre, e, hX, hj, hr, hd⟩)⟩
    · refine ⟨none, W'.putObj (D + 1) (.loop { rec .ready none with state := .exhausted }), by rw [← hDd]; have := run_endLoop (P := P) hr (by rw [hrec]; simp); rw [hrec] at this ⊢; exact this, ?_⟩
      rw [hDd] at hj hd
      refine hdone _ z' hk (hj.step (hu _) (by omega) (by simp) (put_same _ _ _ (by rw [hDd]; exact .inr rfl)) ⟨rfl, rfl, rfl⟩ (fun _ _ h => .inl h)) ((World.putObj_heap_other (by omega)).trans hd)
    · refine ⟨some (codeX e), W'.putObj (D + 1) (.loop { rec .done (some (codeX e)) with state := .exhausted }), by rw [← hDd]; have := run_endLoop (P := P) hr (by rw [hrec]; simp); rw [hrec] at this ⊢; exact this, ?_⟩
      rw [hDd] at hj hd
      refine (wpIn_wide).2 (hstop e pre _ z' hpre hX (hj.step (hux _ _) (by omega) (by simp) (put_same _ _ _ (by rw [hDd]; exact .inr rfl)) ⟨rfl, rfl, rfl⟩ (fun _ _ h => .inl h)) ((World.putObj_heap_other (by omega)).trans hd))
end
end Go.AM
/- The abstract machine: a function that ranges over a function: its contract. -/
namespace Go.AM
open Go Go.RowKit
section
variable {P : Program} {G : List (Nat × List Value)} {N kk D : Nat} {w0 W w w' : World} {z0 zc z z' : Zone} {th0 th : List NLoc} {m : List (Nat × AV)} {a : Act} {Q : Exit → Act → World → Prop} {o : List (Nat × Nd)} {n : Nat} {st : AS} {tmps : Array Value} {E : Env}
theorem Mem.env {E E' : Env} (h : Mem E o n th z w) (e1 : E'.w0 = E.w0) (e2 : E'.own = E.own) (e3 : E'.z0 = E.z0) (e4 : E'.G = E.G) (e5 : E'.th0 = E.th0) : Mem E' o n th z w := by
  obtain ⟨a1, a2, a3, a4, a5, a6⟩ := E
  obtain ⟨b1, b2, b3, b4, b5, b6⟩ := E'
  dsimp only at e1 e2 e3 e4 e5
  subst e1 e2 e3 e4 e5
  obtain ⟨U, hU⟩ := h.uls
  exact ⟨h.len, h.nds, h.inj, h.zlt, h.grow, h.frame, h.zin, h.zout, h.zb, h.globs, h.pre, h.sys, U, hU.at_, hU.lt, hU.nz, hU.ow, hU.inj, hU.kn⟩
/-- As EpR; what is deferred is the loop's own mark. -/
def EpM (D : Nat) (w0 : World) (G : List (Nat × List Value)) (th0 : List NLoc) (W : World) (zc : Zone) : Env := { EpR D w0 G th0 W zc with ds := [{ target := .collected D, args := #[] }] }
/-- Behind the loop. -/
theorem JM.sim (h : JM G D w0 z0 th0 m tmps o n W z) (hN : tmps.size = N) : ∃ th zc, Sim (EpM D w0 G th0 W zc) N ⟨m, o, n⟩ th zc ⟨tmps, [{ target := .collected D, args := #[] }]⟩ W ∧ Bd D w0 z0 th0 m tmps W zc ∧ D + 1 < W.heap.size := by
  obtain ⟨hD, th, zc, hm, hb, hz⟩ := h
  exact ⟨th, zc, ⟨hm.env rfl rfl rfl rfl rfl, hN, rfl, fun i x hi => let ⟨y, hy, hr⟩ := hb.slots i x hi; ⟨y, hy, hr.later hm.pre⟩⟩, hb, hD⟩
def toS (E : Env) (N : Nat) (S1 : AS) : AExit → AS → Prop
  | .normal, st => Emb E N st S1
  | _, _ => False
/-- A piece of code that goes on as it is. -/
theorem segO {c : Code} {S1 : AS} (hA : AWP P E N c st (toS E N S1)) (h : Sim E N st th z a w) (hQ : ∀ th' z' a' w', Sim E N S1 th' z' a' w' → Q .normal a' w') : c.wp P Q a w := by
  refine hA Q ⟨?_, fun id st th z a w h => h.elim, fun st th z a w h => h.elim, fun v x st th z w h => h.elim⟩ th z a w h
  rintro st' th' z' a' w' he hs
  obtain ⟨th2, z2, h2⟩ := he _ _ _ _ hs
  exact hQ _ _ _ _ h2
/-- The return of a function that has ranged over a function. -/
theorem ret_range {fn : Func} {y : AV} {own : Nat → Prop} (hs : Sim (EpM D w0 G th0 W zc) N st th z a w) (hu : noUo st.o = true) (hb : Bd D w0 z0 th0 m tmps W zc) (h0 : w0.heap.size ≤ D) (hD : D + 1 < W.heap.size) (hd : W.heap[D]? = some (.deferred (some [])))
    (hG : ∀ g cs, (g, cs) ∈ G → z0 true g ∧ ∀ (j : Nat) v, cs[j]? = some v → w0.cell? ⟨g, j, none⟩ = some v) (hz0 : ∀ t b, z0 t b → b < w0.heap.size)
    (hret : ∀ E, E.th0.length = 0 → ∃ l, rvsA P st fn.results.toList = some l ∧ EmbS E N st (oneA l) [] 0 y) :
    bodyPostM Fence.wide kk P fn (fun e w' => ∃ v y' o' n' th' z', ((e = .returned v ∧ Is y [] 0 y' o' n') ∨ (e = .panicked [{ v := v, recovered := false }] ∧ No y' o' n')) ∧ Mem ⟨w0, own, z0, G, [], []⟩ o' n' th' z' w' ∧ Rep w' z' th' y' v) .ret a w := by
  have hm : Mem (EpR D w0 G th0 W zc) st.o st.n th z w := hs.mem.env rfl rfl rfl rfl rfl
  have hb2 := hb.mem h0 hD hm
  have hd2 : w.heap[D]? = some (.deferred (some [])) := (hm.rd hD (.inl rfl)).trans hd
  have hg : W.heap.size ≤ w.heap.size := hm.grow
  have hD2 : D + 1 < w.heap.size := by omega
  have hsm : ∀ b, b < w.heap.size → ¬ rdB D b → (w.putObj D (.deferred none)).heap[b]? = w.heap[b]? := put_same _ _ _ (.inl rfl)
  have hnd : ∀ i nd L, lk st.o i = some nd → th[i]? = some L → L.ph = false → L.b < w.heap.size ∧ (∀ t, ¬ z t L.b) ∧ ¬ rdB D L.b ∧ w0.heap.size ≤ L.b := by
    intro i nd L hi hL hp
    obtain ⟨L', h1, _, h3⟩ := hm.nds i nd hi
    rw [hL] at h1; cases h1
    obtain ⟨k1, k2, k3⟩ := h3 hp
    refine ⟨k1, k2, ?_⟩
    rcases k3 with k3 | k3
    · exact k3.2
    · have k3 : W.heap.size ≤ L.b := k3
      exact ⟨by rintro (e | e) <;> omega, by omega⟩
  have hb3 : Bd D w0 z0 th0 m tmps (w.putObj D (.deferred none)) z := hb2.go h0 hD2 (by simp) (fun b hlt hk => hsm b hlt (by
    rcases hk with ⟨t, hk⟩ | hk
    · exact hb2.zrd t b hk
    · rintro (e | e) <;> omega)) ⟨rfl, rfl, rfl⟩ (fun _ _ h => h) (fun _ _ h => .inl h)
  have hm3 := hm.epochG (G := G) (th0 := []) (D := D) (w0 := w0) (w' := w.putObj D (.deferred none)) (z' := z) rfl (fun i L h => by simp at h) hu hnd (by simp) hsm hb2.zrd (fun _ _ h => h) (fun _ _ h => .inl h)
  have hs3 : Sim (EpR D w0 G [] (w.putObj D (.deferred none)) z) N st th z ⟨a.tmps, []⟩ (w.putObj D (.deferred none)) :=
    ⟨hm3, hs.size, rfl, fun i x hi => let ⟨u, hu', hr⟩ := hs.slots i x hi; ⟨u, hu', hr.on' ⟨fun _ _ h => h, fun t b hb' => hsm b (hb2.zlt t b hb') (hb2.zrd t b hb')⟩⟩⟩
  obtain ⟨l, hl, he⟩ := hret (EpR D w0 G [] (w.putObj D (.deferred none)) z) rfl
  obtain ⟨v, hv, hrun⟩ := results_sound (P := P) hs3 hl
  obtain ⟨th4, z4, hm4, hr4⟩ := he _ _ _ _ v hs3 hv
  have hth : th4 = [] := List.length_eq_zero_iff.1 hm4.len
  subst hth
  have hb3' : Bd D w0 z0 [] [] #[] (w.putObj D (.deferred none)) z := ⟨fun i x hi => (by simp [lk] at hi), hb3.zrd, hb3.zlt, hb3.since⟩
  have hb4 := hb3'.mem h0 (by simpa using hD2) hm4
  have hdf : a.defers = [{ target := .collected D, args := #[] }] := hs.dfs
  show LeavesInM Fence.wide kk P fn a.tmps _ a.defers .returning w
  rw [hdf]
  refine ⟨by simp, .inl ⟨D, _, rfl, run_takeDeferred hd2, ?_⟩⟩
  refine ⟨v, hrun, v, y, [], 0, [], z4, .inl ⟨rfl, rfl, rfl, rfl⟩, ?_, hr4⟩
  have hsc := hb4.since
  refine ⟨rfl, fun i nd hi => by simp [lk] at hi, fun i j x y L M hi => by simp [lk] at hi, hb4.zlt, hsc.ext.size, fun b hb _ => hsc.ext.same b hb, hsc.sub, fun b hb => ?_, fun b hb => ?_, fun g cs hg => ?_, fun i L hi => by simp at hi, hsc.ext.sys, uls_none rfl⟩
  · rcases hsc.new _ _ hb with q | q
    · exact .inl q
    · exact .inr (.inr q.2.1)
  · rcases hsc.new _ _ hb with q | q
    · exact q
    · cases q.1
  · obtain ⟨h1, h2⟩ := hG g cs hg
    exact ⟨hsc.sub _ _ h1, fun j v hv => (cell_heap (hsc.ext.same g (hz0 _ _ h1)) j).trans (h2 j v hv)⟩
/-- What is given back, said otherwise. -/
theorem Con.res {f : Nat} {xs : List AV} {o o' : List (Nat × Nd)} {n n' : Nat} {y y' : AV} {R : AV → List (Nat × Nd) → Nat → Prop} (hc : Con P G f xs o n (Is y o' n') R) (h : ∀ (w : World) (z : Zone) (th : List NLoc) (v : Value), Rep w z th y v → Rep w z th y' v) : Con P G f xs o n (Is y' o' n') R := by
  refine ⟨hc.1, fun w th z own vs h1 h2 h3 => (hc.2 w th z own vs h1 h2 h3).mono ?_⟩
  rintro e w' ⟨v, u, o2, n2, th', z', hh, hm, hr⟩
  rcases hh with ⟨rfl, rfl, rfl, rfl⟩ | ⟨rfl, hR⟩
  · exact ⟨v, y', _, _, th', z', .inl ⟨rfl, rfl, rfl, rfl⟩, hm, h _ _ _ _ hr⟩
  · exact ⟨v, u, o2, n2, th', z', .inr ⟨rfl, hR⟩, hm, hr⟩
/-- What is given back, with its own things said otherwise. -/
theorem Con.emb {f : Nat} {xs : List AV} {o o' o2 : List (Nat × Nd)} {n n' n2 : Nat} {y y2 : AV} (hc : Con P G f xs o n (Is y o' n') No) (he : ∀ E : Env, E.th0.length = n → Emb E 1 ⟨[(0, y)], o', n'⟩ ⟨[(0, y2)], o2, n2⟩) : Con P G f xs o n (Is y2 o2 n2) No := by
  refine ⟨hc.1, fun w th z own vs h1 h2 h3 => (hc.2 w th z own vs h1 h2 h3).mono ?_⟩
  rintro e w' ⟨v, u, o3, n3, th', z', hh, hm, hr⟩
  rcases hh with ⟨rfl, rfl, rfl, rfl⟩ | ⟨rfl, hR⟩
  · have hs : Sim ⟨w, own, z, G, th, []⟩ 1 ⟨[(0, u)], o3, n3⟩ th' z' ⟨#[v], []⟩ w' := ⟨hm, rfl, rfl, fun i x hi => by
      simp only [lk] at hi
      split at hi
      · rename_i q; subst q; cases hi; exact ⟨v, rfl, hr⟩
      · cases hi⟩
    obtain ⟨th2, z2, hs2⟩ := he _ h2.len _ _ _ _ hs
    obtain ⟨v2, hv2, hr2⟩ := hs2.slots 0 y2 rfl
    obtain rfl : v = v2 := by simpa using hv2
    exact ⟨v, y2, _, _, th2, z2, .inl ⟨rfl, rfl, rfl, rfl⟩, hs2.mem, hr2⟩
  · exact hR.elim
theorem rep_tupnil {w : World} {z : Zone} {th : List NLoc} {t : Bool} {k : Nat} {x : AV} {v : Value} (h : Rep w z th (.tup [.r (.slice none 0 0), x]) v) : Rep w z th (.tup [.ro t k [], x]) v := by
  cases h with
  | tup _ c ys hl hx =>
    refine .tup _ _ ys hl (fun i u y h1 h2 => ?_)
    cases i with
    | zero =>
      have := hx 0 _ y rfl h2
      cases h1
      cases this with
      | r => exact .nil _ _ _ _ _
    | succ i => exact hx (i + 1) u y h1 h2
end
end Go.AM
/- The abstract machine: contracts of old walks that give back an own row. -/
namespace Go.AM
open Go Go.RowKit
/-- A contract of the old form: an own row; what was there is as it was. -/
theorem con_of_owns {P : Program} {f : Nat} {G : List (Nat × List Value)} {xs : List AV} {T : TypeId} {k : Nat} {els : List (List AV)} {fl : List Value} (hok : okFn P f = true)
    (hel : ∀ (i : Nat) e, els[i]? = some e → e.length = k ∧ ∀ (j : Nat) x, e[j]? = some x → ∃ u, x = .r u ∧ fl[i * k + j]? = some u ∧ u.oneCell' = true)
    (h : ∀ (w : World) (z : Zone) (vs : List Value), (∀ t b, z t b → b < w.heap.size) → Reps w z [] xs vs → Globs G w → Calls P f vs.toArray w (fun e w' => (∃ v, e = .returned v ∧ w'.ownsRow w.heap.size T k v els.length fl) ∧ Below w.heap.size w w')) :
    Con P G f xs [] 0 (Is (.s 0 0 els.length) [(0, .lst T k els)] 1) No := by
  refine ⟨hok, fun w th z own vs ho hm hr => ?_⟩
  have hth : th = [] := List.length_eq_zero_iff.1 hm.len
  subst hth
  refine (h w z vs hm.zlt hr (fun g cs hg => ⟨hm.zlt _ _ (hm.globs g cs hg).1, (hm.globs g cs hg).2⟩)).mono ?_
  rintro e w' ⟨⟨v, rfl, row⟩, hb⟩
  have mk : ∀ L : NLoc, NdAt w' z [L] L (.lst T k els) → (L.ph = false → L.b < w'.heap.size ∧ w.heap.size ≤ L.b) → Mem ⟨w, own, z, G, [], []⟩ [(0, .lst T k els)] 1 [L] z w' := by
    intro L hn hL
    refine ⟨rfl, fun i nd hi => ?_, fun i j x y A B hi hj _ _ _ _ _ => ?_, fun t b hz => Nat.lt_of_lt_of_le (hm.zlt t b hz) hb.size, hb.size, fun b hlt _ => hb.block b hlt, fun t b h => h, fun b h => .inl h, fun b h => h, ?_, fun i L hi => by simp at hi, ⟨hb.os, hb.tape, hb.output⟩, uls_none rfl⟩
    · simp only [lk] at hi
      split at hi
      · rename_i q; subst q; cases hi
        exact ⟨L, rfl, hn, fun hp => ⟨(hL hp).1, fun t hz => by have := hm.zlt t L.b hz; have h2 := (hL hp).2; exact absurd this (by omega), .inr (hL hp).2⟩⟩
      · cases hi
    · simp only [lk] at hi hj
      split at hi
      · split at hj
        · omega
        · cases hj
      · cases hi
    · intro g cs hg
      obtain ⟨h1, h2⟩ := hm.globs g cs hg
      exact ⟨h1, fun j u hu => (cell_heap (hb.block g (hm.zlt _ _ h1)) j).trans (h2 j u hu)⟩
  rcases row.2 with ⟨rfl, h0⟩ | ⟨g, cap, cur, rfl, hB, hh, hn', hc, hs, ht⟩
  · have he : els = [] := List.length_eq_zero_iff.1 h0
    subst he
    exact ⟨_, .s 0 0 0, _, 1, [⟨0, 0, 0, 0, true⟩], z, .inl ⟨rfl, rfl, rfl, rfl⟩, mk _ (.inl ⟨rfl, rfl⟩) (fun hp => by cases hp), .sn _ 0 0 _ rfl rfl⟩
  · have hg : g < w'.heap.size := (Array.getElem?_eq_some_iff.1 hh).1
    refine ⟨_, .s 0 0 els.length, _, 1, [⟨g, 0, k, cap, false⟩], z, .inl ⟨rfl, rfl, rfl, rfl⟩, mk _ (.inr ⟨rfl, cur, (0, 0), hh, fun i hi h => by simp only at h; omega, rfl, by simp [hs], hn', fun i e he => ?_⟩) (fun _ => ⟨hg, hB⟩), .s _ 0 0 _ cap 0 ⟨g, 0, k, cap, false⟩ rfl rfl hn' (by simp) (fun _ => by simp)⟩
    obtain ⟨q1, q2⟩ := hel i e he
    refine ⟨q1, fun j x hj => ?_⟩
    obtain ⟨u, rfl, q3, q4⟩ := q2 j x hj
    refine ⟨u, ?_, .r _ _, q4⟩
    have hjk : j < k := by rw [← q1]; exact (List.getElem?_eq_some_iff.1 hj).1
    have hi : i < els.length := (List.getElem?_eq_some_iff.1 he).1
    have hlt : i * k + j < els.length * k := by
      have : (i + 1) * k ≤ els.length * k := Nat.mul_le_mul_right _ hi
      rw [Nat.add_mul] at this; omega
    rw [← ht, List.getElem?_take_of_lt hlt, Array.getElem?_toList] at q3
    simpa using q3
end Go.AM
/- slices.Clone of keys and of numbers, as own rows. -/
namespace Go.AM
open Go Go.RowKit
attribute [local irreducible] AWP retA
set_option maxRecDepth 100000 in
set_option maxHeartbeats 2000000 in
theorem cloneB_any (w : World) (a : Option Addr) (c : Nat) : Calls Go.Proofs.Try.prog 46 #[.slice a 0 c] w fun e w' => (∃ a' c', e = .returned (.slice a' 0 c')) ∧ Below w.heap.size w w' := by
  have hq : ∀ w, (binOp .eql 30 (.slice a 0 c) (.slice none 0 0)).run Go.Proofs.Try.prog w = .ok (.bool a.isNone) w := fun w => Lib.run_eql_slice_nil w 30 5 a 0 c 0 0 Go.Proofs.Try.underlying30
  go_enter Go.Proofs.Try.func46, Go.Proofs.Try.ntmps46
  cases a with
  | none =>
    go_wp2
    go_ret
    exact ⟨⟨_, _, rfl⟩, Below.refl _ _⟩
  | some p =>
    go_wp2
    go_ret
    exact ⟨⟨_, _, rfl⟩, (Below.refl _ w).alloc (Nat.le_refl _) _⟩
theorem ro_nil_inv {w : World} {z : Zone} {t : Bool} {k : Nat} {v : Value} (h : Rep w z [] (.ro t k []) v) : ∃ a c, v = .slice a 0 c := by
  cases h with
  | nil _ _ _ a c => exact ⟨a, c, rfl⟩
  | ro _ _ _ _ b o c => exact ⟨_, c, rfl⟩
theorem cloneB0_con (G : List (Nat × List Value)) (t : Bool) : Con Go.Proofs.Try.prog G 46 [.ro t 1 []] [] 0 (Is (.ro true 1 []) [] 0) No := by
  refine ⟨by kernel_rfl, fun w th z own vs ho hm hr => ?_⟩
  have hth : th = [] := List.length_eq_zero_iff.1 hm.len
  subst hth
  obtain ⟨v, r, rfl, h1, h2⟩ := hr.head
  obtain rfl := h2.of_nil
  obtain ⟨a, c, rfl⟩ := ro_nil_inv h1
  refine (cloneB_any w a c).mono ?_
  rintro e w' ⟨⟨a', c', rfl⟩, hb⟩
  refine ⟨_, .ro true 1 [], [], 0, [], z, .inl ⟨rfl, rfl, rfl, rfl⟩, hm.ext ⟨hb.size, fun b hlt => hb.block b hlt, ⟨hb.os, hb.tape, hb.output⟩⟩, .nil _ _ _ _ _⟩
theorem cloneK_any (G : List (Nat × List Value)) (t : Bool) (l : Ky) (hl : l.length ≤ 1048576) : Con Go.Proofs.Try.prog G 46 [.ro t 1 (l.map eByte)] [] 0 (Is (.ro true 1 (l.map eByte)) [] 0) No := by
  cases l with
  | nil => exact cloneB0_con G t
  | cons x r => exact cloneB_con G t x r (by simp only [List.length_cons] at hl; omega)
set_option maxRecDepth 100000 in
set_option maxHeartbeats 2000000 in
theorem cloneI_any (w : World) (a : Option Addr) (c : Nat) : Calls Go.Proofs.Try.prog 57 #[.slice a 0 c] w fun e w' => (∃ v, e = .returned v ∧ w'.ownsRow w.heap.size 3 1 v 0 []) ∧ Below w.heap.size w w' := by
  have hq : ∀ w, (binOp .eql 50 (.slice a 0 c) (.slice none 0 0)).run Go.Proofs.Try.prog w = .ok (.bool a.isNone) w := fun w => Lib.run_eql_slice_nil w 50 3 a 0 c 0 0 Go.Proofs.Try.underlying50
  go_enter Go.Proofs.Try.func57, Go.Proofs.Try.ntmps57
  cases a with
  | none =>
    go_wp2
    go_ret
    exact ⟨⟨.slice none 0 0, rfl, World.ownsRow_nil _ _ _ _⟩, Below.refl _ _⟩
  | some p =>
    go_wp2
    go_ret
    exact ⟨⟨.slice (some ⟨w.heap.size, 0, none⟩) 0 0, rfl, rfl, .inr ⟨w.heap.size, 0, #[], rfl, Nat.le_refl _, World.alloc_heap_new w _, Nat.le_refl _, Nat.zero_le _, rfl, rfl⟩⟩, (Below.refl _ w).alloc (Nat.le_refl _) _⟩
set_option maxRecDepth 100000 in
theorem cloneI1_con (G : List (Nat × List Value)) (t : Bool) (x : Int) (l : List Int) (hl : l.length ≤ 1048576) : Con Go.Proofs.Try.prog G 57 [.ro t 1 ((x :: l).map eI)] [] 0 (Is (.s 0 0 (x :: l).length) [(0, .lst 3 1 ((x :: l).map eI))] 1) No := by
  refine con_of_awp Go.Proofs.Try.func57 rfl (by kernel_rfl) (of_decide_eq_true (by kernel_rfl)) ?_; intro E hG hE; subst hG; simp only [ent]
  (repeat' (first | refine awp_seq ?_ | refine awp_block ?_ | refine awp_skip ?_ | refine awp_exit ?_ | ((first | refine rR (fun K kp hK hkp => ?_) | refine iG ?_); simp (implicitDefEqProofs := false) (maxSteps := 2000000) (disch := omega) only [go_sem]; (repeat' (first | (refine hK _ ?_; clear hK hkp kp K) | (with_reducible refine And.intro ?_ ?_) | omega))) | ((first | refine aG (fun h => ?_) (fun h => ?_) | refine aD (fun h => ?_) (fun h => ?_) | refine aX (fun h => ?_) (fun h => ?_)) <;> simp only [h]) | refine awp_cond_t rfl ?_ | refine awp_cond_f rfl ?_ | ((refine awp_cond rfl (fun h => ?_) (fun h => ?_) <;> try simp only [ifs] at h) <;> (try (exfalso; omega))) | refine awp_ret ?_))
  (refine retA_is (by (simp (implicitDefEqProofs := false) (maxSteps := 2000000) (disch := omega) only [go_sem, Go.Proofs.Try.results57]); rfl) ?_; refine (embV [1] ?_ ?_ ?_ ?_ ?_ ?_).s <;> simp [oneA, okO, lk, ren, renL, renNd, by_, hE] <;> (try (intro i hi; first | (rcases i with _ | _ | i; rfl; rfl; (exfalso; omega)) | (rcases i with _ | _ | _ | i; rfl; rfl; rfl; (exfalso; omega)) | (rcases i with _ | _ | _ | _ | i; rfl; rfl; rfl; rfl; (exfalso; omega)) | (rcases i with _ | _ | _ | _ | _ | i; rfl; rfl; rfl; rfl; rfl; (exfalso; omega)) | (rcases i with _ | _ | _ | _ | _ | _ | i; rfl; rfl; rfl; rfl; rfl; rfl; (exfalso; omega)))))
theorem cloneI_own (G : List (Nat × List Value)) (t : Bool) (l : List Int) (hl : l.length ≤ 1048576) : Con Go.Proofs.Try.prog G 57 [.ro t 1 (l.map eI)] [] 0 (Is (.s 0 0 l.length) [(0, .lst 3 1 (l.map eI))] 1) No := by
  cases l with
  | cons x r => exact cloneI1_con G t x r (by simp only [List.length_cons] at hl; omega)
  | nil =>
    exact con_of_owns (P := Go.Proofs.Try.prog) (T := 3) (k := 1) (els := []) (fl := []) (by kernel_rfl) (fun i e h => by simp at h) (fun w z vs hz hr hG => by
      obtain ⟨v, r, rfl, h1, h2⟩ := hr.head
      obtain rfl := h2.of_nil
      obtain ⟨a, c, rfl⟩ := ro_nil_inv h1
      exact cloneI_any w a c)
theorem cloneI_ul (G : List (Nat × List Value)) (t : Bool) (l : List Int) (hl : l.length ≤ 1048576) : Con Go.Proofs.Try.prog G 57 [.ro t 1 (l.map eI)] [] 0 (Is (.s 0 0 l.length) [(0, .ul 3 1 (l.map eI) [])] 1) No :=
  (cloneI_own G t l hl).emb fun E hE => by
    refine Emb.trans (emb_toU 0 rfl) ?_
    simp only [setNd]
    (refine emb [0] ?_ ?_ rfl ?_ ?_ ?_ ?_ <;> simp [okM, okO, lk, ren, renL, renNd, by_, hE, renOp] <;> (try omega) <;> (try (intro i hi; first | (rcases i with _ | _ | i; rfl; rfl; (exfalso; omega)) | (rcases i with _ | _ | _ | i; rfl; rfl; rfl; (exfalso; omega)) | (rcases i with _ | _ | _ | _ | i; rfl; rfl; rfl; rfl; (exfalso; omega)) | (rcases i with _ | _ | _ | _ | _ | i; rfl; rfl; rfl; rfl; rfl; (exfalso; omega)) | (rcases i with _ | _ | _ | _ | _ | _ | i; rfl; rfl; rfl; rfl; rfl; rfl; (exfalso; omega)))))
end Go.AM
/- tree.own: a tree of its own. -/
namespace Go.AM
open Go Go.RowKit
attribute [local irreducible] AWP retA
/-- A page whose keys and kids nothing else stands for. -/
def uP (p : PG) : List AV := [.r (.bool p.leaf), .u 30 1 (p.keys.map eKy), .u 3 1 (p.kids.map eI), .ro true 1 (p.high.map eByte), .r (.int .i64 p.next)]
@[simp] theorem ptA_uP (a : PG) : (∀ x, x ∈ uP a → PT x) = True := eq_true (by
  intro x hx; simp [uP] at hx
  rcases hx with rfl | rfl | rfl | rfl | rfl
  · simp
  · exact .u _ _ _ (pt_map _ _)
  · exact .u _ _ _ (pt_map _ _)
  · simp
  · simp)
instance : PTf uP := ⟨fun a => of_eq_true (ptA_uP a)⟩
theorem at_end {α : Type} {a : List α} {i : Nat} (x : α) (h : a.length = i) : (a ++ [x])[i]? = some x := by subst h; simp
theorem set_end {α : Type} {a : List α} {i : Nat} (x y : α) (h : a.length = i) : (a ++ [x]).set i y = a ++ [y] := by
  subst h
  rw [List.set_append_right _ _ (Nat.le_refl _)]; simp
set_option maxRecDepth 100000 in
set_option maxHeartbeats 8000000 in
theorem ownT_con (G : List (Nat × List Value)) (t : Bool) (ps : List PG) (root : Int) (ho : okPs2 ps) : Con Go.Proofs.Try.prog G 41 [.agg [.ro t 5 (ps.map eP), .r (.int .i64 root)]] [] 0 (Is (.agg [.s 0 0 ps.length, .r (.int .i64 root)]) [(0, .ul 52 5 (ps.map uP) [])] 1) No := by
  have hn := ho.1
  refine con_of_awp Go.Proofs.Try.func41 rfl (by kernel_rfl) (of_decide_eq_true (by kernel_rfl)) ?_; intro E hG hE; subst hG; simp only [ent]
  (repeat' (first | refine awp_seq ?_ | refine awp_block ?_ | refine awp_skip ?_ | refine awp_exit ?_ | ((first | refine rR (fun K kp hK hkp => ?_) | refine rD (id := 11) mixed 15 [0,1,2,3,4,5,6,8,9,11,12,7,10,13,14] (fun K kp hK hkp => ?_) | refine iG ?_ | refine iD ?_); simp (implicitDefEqProofs := false) (maxSteps := 2000000) (disch := omega) only [go_sem, eP]; (repeat' (first | (refine hK _ ?_; clear hK hkp kp K) | (with_reducible refine And.intro ?_ ?_) | omega))) | ((first | refine aG (fun h => ?_) (fun h => ?_) | refine aD (fun h => ?_) (fun h => ?_) | refine aX (fun h => ?_) (fun h => ?_)) <;> simp only [h]) | refine awp_cond_t rfl ?_ | refine awp_cond_f rfl ?_ | ((refine awp_cond rfl (fun h => ?_) (fun h => ?_) <;> try simp only [ifs] at h) <;> (try (exfalso; omega))) | refine awp_ret ?_))
  (refine AWP.emb (emb_nilB 2 0 52 5 rfl rfl (by simp)) ?_; simp only [List.set_cons_zero, List.set_cons_succ, lk, ↓reduceIte, Nat.reduceAdd])
  (refine AWP.emb (emb_toU (T := ?z1T) (k := ?z1k) (els := ?z1e) 3 ?z1h) ?z1g; (case z1h => rfl); simp only [setNd])
  refine awp_loop (fun i : Nat => ⟨[(15, .r (.int .i64 i)), (14, .r (.int .i64 ps.length)), (13, .ro t 5 (ps.map eP)), (3, .p 2 0 0), (2, .p 1 0 0)], [(0, .box 24 [.ro t 5 (ps.map eP), .r (.int .i64 root)]), (1, .box 24 [.r (.slice none 0 0), .r (.int .i64 0)]), (2, .box 24 [.s 3 0 i, .r (.int .i64 root)]), (3, .ul 52 5 ((ps.take i).map uP) [])], 4⟩) (fun i => i ≤ ps.length) (fun i => ps.length - i) 0 ?_ ?_ ?_
  · exact Nat.zero_le _
  · (refine emb [0, 1, 2, 3] ?_ ?_ rfl ?_ ?_ ?_ ?_ <;> simp [okM, okO, lk, ren, renL, renNd, by_, hE, renOp] <;> (try omega) <;> (try (intro i hi; first | (rcases i with _ | _ | i; rfl; rfl; (exfalso; omega)) | (rcases i with _ | _ | _ | i; rfl; rfl; rfl; (exfalso; omega)) | (rcases i with _ | _ | _ | _ | i; rfl; rfl; rfl; rfl; (exfalso; omega)) | (rcases i with _ | _ | _ | _ | _ | i; rfl; rfl; rfl; rfl; rfl; (exfalso; omega)) | (rcases i with _ | _ | _ | _ | _ | _ | i; rfl; rfl; rfl; rfl; rfl; rfl; (exfalso; omega)))))
  intro i hi
  by_cases hlt : i < ps.length
  · have zi : ((i : Int) < (ps.length : Int)) = True := eq_true (by omega)
    obtain ⟨p, hp⟩ : ∃ p, ps[i]? = some p := ⟨ps[i], by simp [hlt]⟩
    obtain ⟨h1, h2, h3, h4⟩ := ho.2 p (List.mem_of_getElem? hp)
    have bc := cloneK_any E.G true p.high h3
    have ic := cloneI_ul E.G true p.kids h2
    (repeat' (first | refine awp_seq ?_ | refine awp_block ?_ | refine awp_skip ?_ | refine awp_exit ?_ | ((first | refine rR (fun K kp hK hkp => ?_) | refine rD (id := 11) mixed 15 [0,1,2,3,4,5,6,8,9,11,12,7,10,13,14] (fun K kp hK hkp => ?_) | refine iG ?_ | refine iD ?_); simp (implicitDefEqProofs := false) (maxSteps := 2000000) (disch := omega) only [go_sem, zi, hp, eP]; (repeat' (first | (refine hK _ ?_; clear hK hkp kp K) | (with_reducible refine And.intro ?_ ?_) | omega))) | ((first | refine aG (fun h => ?_) (fun h => ?_) | refine aD (fun h => ?_) (fun h => ?_) | refine aX (fun h => ?_) (fun h => ?_)) <;> simp only [h]) | refine awp_cond_t rfl ?_ | refine awp_cond_f rfl ?_ | ((refine awp_cond rfl (fun h => ?_) (fun h => ?_) <;> try simp only [ifs] at h) <;> (try (exfalso; omega))) | refine awp_ret ?_))
    (refine AWP.emb (emb_nil 6 30 1 ?_) ?_; (· rfl); dsimp only)
    refine awp_loop (fun k : Nat => ⟨[(22, .r (.int .i64 k)), (21, .r (.int .i64 p.keys.length)), (20, .ro true 1 (p.keys.map eKy)), (6, .s 5 0 k), (5, .p 4 0 0), (15, .r (.int .i64 i)), (14, .r (.int .i64 ps.length)), (13, .ro t 5 (ps.map eP)), (3, .p 2 0 0), (2, .p 1 0 0)], [(0, .box 24 [.ro t 5 (ps.map eP), .r (.int .i64 root)]), (1, .box 24 [.r (.slice none 0 0), .r (.int .i64 0)]), (2, .box 24 [.s 3 0 i, .r (.int .i64 root)]), (3, .ul 52 5 ((ps.take i).map uP) []), (4, .box 52 (eP p)), (5, .lst 30 1 ((p.keys.take k).map eKy))], 6⟩) (fun k => k ≤ p.keys.length) (fun k => p.keys.length - k) 0 ?_ ?_ ?_
    · exact Nat.zero_le _
    · (refine emb [0, 1, 2, 3, 4, 5] ?_ ?_ rfl ?_ ?_ ?_ ?_ <;> simp [okM, okO, lk, ren, renL, renNd, by_, hE, eP, renOp] <;> (try omega) <;> (try (intro i hi; first | (rcases i with _ | _ | i; rfl; rfl; (exfalso; omega)) | (rcases i with _ | _ | _ | i; rfl; rfl; rfl; (exfalso; omega)) | (rcases i with _ | _ | _ | _ | i; rfl; rfl; rfl; rfl; (exfalso; omega)) | (rcases i with _ | _ | _ | _ | _ | i; rfl; rfl; rfl; rfl; rfl; (exfalso; omega)) | (rcases i with _ | _ | _ | _ | _ | _ | i; rfl; rfl; rfl; rfl; rfl; rfl; (exfalso; omega)))))
    intro k hk
    by_cases hkl : k < p.keys.length
    · have zk : ((k : Int) < (p.keys.length : Int)) = True := eq_true (by omega)
      obtain ⟨x, hx⟩ : ∃ x, p.keys[k]? = some x := ⟨p.keys[k], by simp [hkl]⟩
      have xc := cloneK_any E.G true x (h4 x (List.mem_of_getElem? hx))
      have htk : p.keys.take (k + 1) = p.keys.take k ++ [x] := by rw [List.take_add_one, hx]; rfl
      have hl : (p.keys.take k).length = k := by rw [List.length_take]; omega
      (repeat' (first | refine awp_seq ?_ | refine awp_block ?_ | refine awp_skip ?_ | refine awp_exit ?_ | ((first | refine rR (fun K kp hK hkp => ?_) | refine rD (id := 11) mixed 15 [0,1,2,3,4,5,6,8,9,11,12,7,10,13,14] (fun K kp hK hkp => ?_) | refine cR xc ?_ | refine cD xc ?_ | refine iG ?_ | refine iD ?_); simp (implicitDefEqProofs := false) (maxSteps := 2000000) (disch := omega) only [go_sem, zk, hx, eP, eKy, hl]; (repeat' (first | (refine hK _ ?_; clear hK hkp kp K) | (with_reducible refine And.intro ?_ ?_) | omega))) | ((first | refine aG (fun h => ?_) (fun h => ?_) | refine aD (fun h => ?_) (fun h => ?_) | refine aX (fun h => ?_) (fun h => ?_)) <;> simp only [h]) | refine awp_cond_t rfl ?_ | refine awp_cond_f rfl ?_ | ((refine awp_cond rfl (fun h => ?_) (fun h => ?_) <;> try simp only [ifs] at h) <;> (try (exfalso; omega))) | refine awp_ret ?_))
      ((first | (refine nextB (k + 1) ?_ ?_ ?_) | (refine nextA (k + 1) ?_ ?_ ?_) | (refine nextE (k + 1) ?_ ?_ ?_)); rotate_left; (· (try dsimp only); (first | omega | (simp only [List.length_drop, List.length_cons, List.length_append]; omega) | (simp; done) | (simp; omega))); (· (refine emb [0, 1, 2, 3, 4, 7] ?_ ?_ rfl ?_ ?_ ?_ ?_ <;> simp [okM, okO, lk, ren, renL, renNd, by_, hE, htk, eKy, eP, renOp, List.take_take, Nat.min_self] <;> (try omega) <;> (try (intro i hi; first | (rcases i with _ | _ | i; rfl; rfl; (exfalso; omega)) | (rcases i with _ | _ | _ | i; rfl; rfl; rfl; (exfalso; omega)) | (rcases i with _ | _ | _ | _ | i; rfl; rfl; rfl; rfl; (exfalso; omega)) | (rcases i with _ | _ | _ | _ | _ | i; rfl; rfl; rfl; rfl; rfl; (exfalso; omega)) | (rcases i with _ | _ | _ | _ | _ | _ | i; rfl; rfl; rfl; rfl; rfl; rfl; (exfalso; omega)))))))
      omega
    · obtain rfl : k = p.keys.length := by omega
      rw [List.take_length]
      have hl : (ps.take i).length = i := by rw [List.length_take]; omega
      have ht : ps.take (i + 1) = ps.take i ++ [p] := by rw [List.take_add_one, hp]; rfl
      have zk : ((p.keys.length : Int) < (p.keys.length : Int)) = False := eq_false (by omega)
      refine awp_seq ?_
      (refine rR (fun K kp hK hkp => ?_); simp (implicitDefEqProofs := false) (maxSteps := 2000000) (disch := omega) only [go_sem, zk]; (repeat' (first | (refine hK _ ?_; clear hK hkp kp K) | (with_reducible refine And.intro ?_ ?_) | omega)))
      refine awp_seq ?_
      refine awp_cond_f rfl ?_
      refine awp_exit ?_
      (refine AWP.emb (emb_toU (T := ?z2T) (k := ?z2k) (els := ?z2e) 5 ?z2h) ?z2g; (case z2h => rfl); simp only [setNd])
      (repeat' (first | refine awp_seq ?_ | refine awp_block ?_ | refine awp_skip ?_ | refine awp_exit ?_ | ((first | refine rR (fun K kp hK hkp => ?_) | refine rD (id := 11) mixed 15 [0,1,2,3,4,5,6,8,9,11,12,7,10,13,14] (fun K kp hK hkp => ?_) | refine cR ic ?_ | refine cD ic ?_ | refine cR bc ?_ | refine cD bc ?_ | refine iG ?_ | refine iD ?_); simp (implicitDefEqProofs := false) (maxSteps := 2000000) (disch := omega) only [go_sem, eP, hl, ne_eq, reduceCtorEq, not_false_eq_true, Option.some.injEq, Nat.reduceEqDiff]; (repeat' (first | (refine hK _ ?_; clear hK hkp kp K) | (with_reducible refine And.intro ?_ ?_) | omega))) | ((first | refine aG (fun h => ?_) (fun h => ?_) | refine aD (fun h => ?_) (fun h => ?_) | refine aX (fun h => ?_) (fun h => ?_)) <;> simp only [h]) | refine awp_cond_t rfl ?_ | refine awp_cond_f rfl ?_ | ((refine awp_cond rfl (fun h => ?_) (fun h => ?_) <;> try simp only [ifs] at h) <;> (try (exfalso; omega))) | refine awp_ret ?_))
      have hll : ((ps.take i).map uP).length = i := by rw [List.length_map, hl]
      have hs3 : ((ps.take i).map uP ++ [uP p]) = (ps.take (i + 1)).map uP := by rw [ht, List.map_append]; rfl
      refine nextA (i + 1) ?_ ?_ ?_
      · show i + 1 ≤ ps.length
        omega
      · show ps.length - (i + 1) < ps.length - i
        omega
      have htk1 : (p.keys.map eKy).take p.keys.length = p.keys.map eKy := List.take_of_length_le (by simp)
      have htk2 : (p.kids.map eI).take p.kids.length = p.kids.map eI := List.take_of_length_le (by simp)
      (refine Emb.trans (emb_close (T := ?z3T) (k := ?z3k) (els := ?z3e) (T' := ?z3T1) (k' := ?z3k1) (els' := ?z3e1) (op := ?z3op) (e := ?z3ee) (m := ?z3m) (lo := ?z3lo) (len := ?z3len) 8 i 1 ?z3h ?z3ho ?z3hm ?z3hn ?z3hl ?z3he ?z3hj) ?z3g; (case z3h => rfl); (case z3he => exact at_end _ hll); (case z3ho => (simp only [lk2, and_self, if_true, ↓reduceIte, List.length_map, htk1, set_end _ _ hll, true_and, Nat.reduceLeDiff, Nat.reduceAdd, Nat.lt_irrefl, and_false]; rfl)); (case z3hm => rfl); (case z3hn => simp); (case z3hl => simp [List.length_map, htk1, set_end _ _ hll, true_and, Nat.reduceLeDiff, Nat.reduceAdd, Nat.lt_irrefl, and_false]); (case z3hj => simp [List.length_map, htk1, set_end _ _ hll, true_and, Nat.reduceLeDiff, Nat.reduceAdd, Nat.lt_irrefl, and_false]); simp only [rm, rm2, and_self, Nat.le_refl, Nat.zero_add, Nat.lt_add_one, Nat.reduceLT, Nat.reduceEqDiff, ↓reduceIte, if_true, List.drop_zero, List.set_cons_zero, List.set_cons_succ, List.length_map, htk1, set_end _ _ hll, true_and, Nat.reduceLeDiff, Nat.reduceAdd, Nat.lt_irrefl, and_false])
      (refine Emb.trans (emb_close (T := ?z4T) (k := ?z4k) (els := ?z4e) (T' := ?z4T1) (k' := ?z4k1) (els' := ?z4e1) (op := ?z4op) (e := ?z4ee) (m := ?z4m) (lo := ?z4lo) (len := ?z4len) 8 i 2 ?z4h ?z4ho ?z4hm ?z4hn ?z4hl ?z4he ?z4hj) ?z4g; (case z4h => rfl); (case z4he => exact at_end _ hll); (case z4ho => (simp only [lk2, and_self, if_true, ↓reduceIte, List.length_map, htk2, set_end _ _ hll, true_and, Nat.reduceLeDiff, Nat.reduceAdd, Nat.lt_irrefl, and_false]; rfl)); (case z4hm => rfl); (case z4hn => simp); (case z4hl => simp [List.length_map, htk2, set_end _ _ hll, true_and, Nat.reduceLeDiff, Nat.reduceAdd, Nat.lt_irrefl, and_false]); (case z4hj => simp [List.length_map, htk2, set_end _ _ hll, true_and, Nat.reduceLeDiff, Nat.reduceAdd, Nat.lt_irrefl, and_false]); simp only [rm, rm2, and_self, Nat.le_refl, Nat.zero_add, Nat.lt_add_one, Nat.reduceLT, Nat.reduceEqDiff, ↓reduceIte, if_true, List.drop_zero, List.set_cons_zero, List.set_cons_succ, List.length_map, htk2, set_end _ _ hll, true_and, Nat.reduceLeDiff, Nat.reduceAdd, Nat.lt_irrefl, and_false])
      change Emb _ _ ⟨_, (8, .ul _ _ (_ ++ [uP p]) _) :: _, _⟩ _
      rw [hs3]
      (refine emb [0, 1, 2, 8] ?_ ?_ rfl ?_ ?_ ?_ ?_ <;> simp [okM, okO, lk, ren, renL, renNd, by_, hE, renOp] <;> (try omega) <;> (try (intro i hi; first | (rcases i with _ | _ | i; rfl; rfl; (exfalso; omega)) | (rcases i with _ | _ | _ | i; rfl; rfl; rfl; (exfalso; omega)) | (rcases i with _ | _ | _ | _ | i; rfl; rfl; rfl; rfl; (exfalso; omega)) | (rcases i with _ | _ | _ | _ | _ | i; rfl; rfl; rfl; rfl; rfl; (exfalso; omega)) | (rcases i with _ | _ | _ | _ | _ | _ | i; rfl; rfl; rfl; rfl; rfl; rfl; (exfalso; omega)))))
  · obtain rfl : i = ps.length := by omega
    rw [List.take_length]
    (repeat' (first | refine awp_seq ?_ | refine awp_block ?_ | refine awp_skip ?_ | refine awp_exit ?_ | ((first | refine rR (fun K kp hK hkp => ?_) | refine rD (id := 11) mixed 15 [0,1,2,3,4,5,6,8,9,11,12,7,10,13,14] (fun K kp hK hkp => ?_) | refine iG ?_ | refine iD ?_); simp (implicitDefEqProofs := false) (maxSteps := 2000000) (disch := omega) only [go_sem]; (repeat' (first | (refine hK _ ?_; clear hK hkp kp K) | (with_reducible refine And.intro ?_ ?_) | omega))) | ((first | refine aG (fun h => ?_) (fun h => ?_) | refine aD (fun h => ?_) (fun h => ?_) | refine aX (fun h => ?_) (fun h => ?_)) <;> simp only [h]) | refine awp_cond_t rfl ?_ | refine awp_cond_f rfl ?_ | ((refine awp_cond rfl (fun h => ?_) (fun h => ?_) <;> try simp only [ifs] at h) <;> (try (exfalso; omega))) | refine awp_ret ?_))
    (refine retA_is (by (simp (implicitDefEqProofs := false) (maxSteps := 2000000) (disch := omega) only [go_sem, Go.Proofs.Try.results41, renOp]); rfl) ?_; refine (embV [3] ?_ ?_ ?_ ?_ ?_ ?_).s <;> simp [oneA, okO, lk, ren, renL, renNd, by_, hE, renOp] <;> (try (intro i hi; first | (rcases i with _ | _ | i; rfl; rfl; (exfalso; omega)) | (rcases i with _ | _ | _ | i; rfl; rfl; rfl; (exfalso; omega)) | (rcases i with _ | _ | _ | _ | i; rfl; rfl; rfl; rfl; (exfalso; omega)) | (rcases i with _ | _ | _ | _ | _ | i; rfl; rfl; rfl; rfl; rfl; (exfalso; omega)) | (rcases i with _ | _ | _ | _ | _ | _ | i; rfl; rfl; rfl; rfl; rfl; rfl; (exfalso; omega)))))
end Go.AM
/- find in a tree whose pages bear what is read for good or not. -/
namespace Go.AM
open Go Go.RowKit
attribute [local irreducible] AWP retA
def ePf (f : Bool) (p : PG) : List AV := [.r (.bool p.leaf), .ro f 1 (p.keys.map eKy), .ro f 1 (p.kids.map eI), .ro true 1 (p.high.map eByte), .r (.int .i64 p.next)]
theorem eP_f : eP = ePf true := rfl
@[simp] theorem dfzC_uP (t : Bool) (a : PG) : dfzC t (uP a) = ePf t a := by
  simp only [uP, ePf, dfzC, dfz]
  congr 2
  · congr 1; rw [dfzR_map t eKy eKy (fun _ => rfl)]
  · congr 2; rw [dfzR_map t eI eI (fun _ => rfl)]
set_option maxRecDepth 100000 in
set_option maxHeartbeats 4000000 in
theorem place_conf (G : List (Nat × List Value)) (f t : Bool) (p : PG) (k : Ky) (hs : SrtK p.keys) (hl : p.keys.length ≤ 4) : Con Go.Proofs.Try.prog G 47 [.agg (ePf f p), .ro t 1 (k.map eByte)] [] 0 (Is (.r (.int .i64 (placeM p k))) [] 0) No := by
  have sc := search_con G f t p.keys k hs hl
  have hb := lowB_le k p.keys
  refine con_of_awp Go.Proofs.Try.func47 rfl (by kernel_rfl) (of_decide_eq_true (by kernel_rfl)) ?_; intro E hG hE; subst hG; simp only [ent]
  cases hlf : p.leaf
  · by_cases hx : p.keys[lowB k p.keys]? = some k
    · have hp : placeM p k = lowB k p.keys + 1 := if_pos ⟨hlf, hx⟩
      rw [decide_eq_true hx] at sc
      (repeat' (first | refine awp_seq ?_ | refine awp_block ?_ | refine awp_skip ?_ | refine awp_exit ?_ | ((first | refine rR (fun K kp hK hkp => ?_) | refine cR sc ?_ | refine iG ?_); simp (implicitDefEqProofs := false) (maxSteps := 2000000) (disch := omega) only [go_sem, ePf, hlf]; (repeat' (first | (refine hK _ ?_; clear hK hkp kp K) | (with_reducible refine And.intro ?_ ?_) | omega))) | ((first | refine aG (fun h => ?_) (fun h => ?_) | refine aD (fun h => ?_) (fun h => ?_) | refine aX (fun h => ?_) (fun h => ?_)) <;> simp only [h]) | refine awp_cond_t rfl ?_ | refine awp_cond_f rfl ?_ | ((refine awp_cond rfl (fun h => ?_) (fun h => ?_) <;> try simp only [ifs] at h) <;> (try (exfalso; omega))) | refine awp_ret ?_))
      (refine retA_is (by (simp (implicitDefEqProofs := false) (maxSteps := 2000000) (disch := omega) only [go_sem, Go.Proofs.Try.results47, hp]); rfl) ?_; refine eN hE ?_; simp [oneA, ren, renL, hp])
    · have hp : placeM p k = lowB k p.keys := if_neg fun h => hx h.2
      rw [decide_eq_false hx] at sc
      (repeat' (first | refine awp_seq ?_ | refine awp_block ?_ | refine awp_skip ?_ | refine awp_exit ?_ | ((first | refine rR (fun K kp hK hkp => ?_) | refine cR sc ?_ | refine iG ?_); simp (implicitDefEqProofs := false) (maxSteps := 2000000) (disch := omega) only [go_sem, ePf, hlf]; (repeat' (first | (refine hK _ ?_; clear hK hkp kp K) | (with_reducible refine And.intro ?_ ?_) | omega))) | ((first | refine aG (fun h => ?_) (fun h => ?_) | refine aD (fun h => ?_) (fun h => ?_) | refine aX (fun h => ?_) (fun h => ?_)) <;> simp only [h]) | refine awp_cond_t rfl ?_ | refine awp_cond_f rfl ?_ | ((refine awp_cond rfl (fun h => ?_) (fun h => ?_) <;> try simp only [ifs] at h) <;> (try (exfalso; omega))) | refine awp_ret ?_))
      (refine retA_is (by (simp (implicitDefEqProofs := false) (maxSteps := 2000000) (disch := omega) only [go_sem, Go.Proofs.Try.results47, hp]); rfl) ?_; refine eN hE ?_; simp [oneA, ren, renL, hp])
  · have hp : placeM p k = lowB k p.keys := if_neg fun h => by rw [hlf] at h; cases h.1
    by_cases hx : p.keys[lowB k p.keys]? = some k
    · rw [decide_eq_true hx] at sc
      (repeat' (first | refine awp_seq ?_ | refine awp_block ?_ | refine awp_skip ?_ | refine awp_exit ?_ | ((first | refine rR (fun K kp hK hkp => ?_) | refine cR sc ?_ | refine iG ?_); simp (implicitDefEqProofs := false) (maxSteps := 2000000) (disch := omega) only [go_sem, ePf, hlf]; (repeat' (first | (refine hK _ ?_; clear hK hkp kp K) | (with_reducible refine And.intro ?_ ?_) | omega))) | ((first | refine aG (fun h => ?_) (fun h => ?_) | refine aD (fun h => ?_) (fun h => ?_) | refine aX (fun h => ?_) (fun h => ?_)) <;> simp only [h]) | refine awp_cond_t rfl ?_ | refine awp_cond_f rfl ?_ | ((refine awp_cond rfl (fun h => ?_) (fun h => ?_) <;> try simp only [ifs] at h) <;> (try (exfalso; omega))) | refine awp_ret ?_))
      (refine retA_is (by (simp (implicitDefEqProofs := false) (maxSteps := 2000000) (disch := omega) only [go_sem, Go.Proofs.Try.results47, hp]); rfl) ?_; refine eN hE ?_; simp [oneA, ren, renL, hp])
    · rw [decide_eq_false hx] at sc
      (repeat' (first | refine awp_seq ?_ | refine awp_block ?_ | refine awp_skip ?_ | refine awp_exit ?_ | ((first | refine rR (fun K kp hK hkp => ?_) | refine cR sc ?_ | refine iG ?_); simp (implicitDefEqProofs := false) (maxSteps := 2000000) (disch := omega) only [go_sem, ePf, hlf]; (repeat' (first | (refine hK _ ?_; clear hK hkp kp K) | (with_reducible refine And.intro ?_ ?_) | omega))) | ((first | refine aG (fun h => ?_) (fun h => ?_) | refine aD (fun h => ?_) (fun h => ?_) | refine aX (fun h => ?_) (fun h => ?_)) <;> simp only [h]) | refine awp_cond_t rfl ?_ | refine awp_cond_f rfl ?_ | ((refine awp_cond rfl (fun h => ?_) (fun h => ?_) <;> try simp only [ifs] at h) <;> (try (exfalso; omega))) | refine awp_ret ?_))
      (refine retA_is (by (simp (implicitDefEqProofs := false) (maxSteps := 2000000) (disch := omega) only [go_sem, Go.Proofs.Try.results47, hp]); rfl) ?_; refine eN hE ?_; simp [oneA, ren, renL, hp])
theorem beyond_conf (G : List (Nat × List Value)) (f t : Bool) (p : PG) (k : Ky) (h : p.high = [] ∨ ltK k p.high = true) : Con Go.Proofs.Try.prog G 58 [.agg (ePf f p), .ro t 1 (k.map eByte)] [] 0 (Is (.r (.bool false)) [] 0) No := by
  refine con_of_awp Go.Proofs.Try.func58 rfl (by kernel_rfl) (of_decide_eq_true (by kernel_rfl)) ?_; intro E hG hE; subst hG; simp only [ent]
  by_cases h1 : p.high = []
  · have z1 : ((p.high.length : Int) > 0) = False := eq_false (by rw [h1]; simp)
    (repeat' (first | refine awp_seq ?_ | refine awp_block ?_ | refine awp_skip ?_ | refine awp_exit ?_ | ((first | refine rR (fun K kp hK hkp => ?_) | refine cR (bcmp_con _ _ _ _ _) ?_ | refine iG ?_); simp (implicitDefEqProofs := false) (maxSteps := 2000000) (disch := omega) only [go_sem, ePf, z1]; (repeat' (first | (refine hK _ ?_; clear hK hkp kp K) | (with_reducible refine And.intro ?_ ?_) | omega))) | ((first | refine aG (fun h => ?_) (fun h => ?_) | refine aD (fun h => ?_) (fun h => ?_) | refine aX (fun h => ?_) (fun h => ?_)) <;> simp only [h]) | refine awp_cond_t rfl ?_ | refine awp_cond_f rfl ?_ | ((refine awp_cond rfl (fun h => ?_) (fun h => ?_) <;> try simp only [ifs] at h) <;> (try (exfalso; omega))) | refine awp_ret ?_))
    (refine retA_is (by (simp (implicitDefEqProofs := false) (maxSteps := 2000000) (disch := omega) only [go_sem, Go.Proofs.Try.results58]); rfl) ?_; refine eN hE ?_; simp [oneA, ren, renL])
  · have z1 : ((p.high.length : Int) > 0) = True := eq_true (by have := List.length_pos_iff.2 h1; omega)
    have h2 : ltK k p.high = true := by
      rcases h with h | h
      · exact absurd h h1
      · exact h
    (repeat' (first | refine awp_seq ?_ | refine awp_block ?_ | refine awp_skip ?_ | refine awp_exit ?_ | ((first | refine rR (fun K kp hK hkp => ?_) | refine cR (bcmp_con _ _ _ _ _) ?_ | refine iG ?_); simp (implicitDefEqProofs := false) (maxSteps := 2000000) (disch := omega) only [go_sem, ePf, z1, cmp_ge, h2]; (repeat' (first | (refine hK _ ?_; clear hK hkp kp K) | (with_reducible refine And.intro ?_ ?_) | omega))) | ((first | refine aG (fun h => ?_) (fun h => ?_) | refine aD (fun h => ?_) (fun h => ?_) | refine aX (fun h => ?_) (fun h => ?_)) <;> simp only [h]) | refine awp_cond_t rfl ?_ | refine awp_cond_f rfl ?_ | ((refine awp_cond rfl (fun h => ?_) (fun h => ?_) <;> try simp only [ifs] at h) <;> (try (exfalso; omega))) | refine awp_ret ?_))
    (refine retA_is (by (simp (implicitDefEqProofs := false) (maxSteps := 2000000) (disch := omega) only [go_sem, Go.Proofs.Try.results58]); rfl) ?_; refine eN hE ?_; simp [oneA, ren, renL])
set_option maxRecDepth 100000 in
set_option maxHeartbeats 4000000 in
theorem path_conf (G : List (Nat × List Value)) (f t u : Bool) (ps : List PG) (root d : Nat) (k : Ky) (hp : AllOK ps) (hin : ∀ i x, x ∈ kidsOf ps i → x < ps.length) (hg : Good ps d root [] []) (hr : root < ps.length) (hn : ps.length ≤ 4000) (hd : d < ps.length) :
    Con Go.Proofs.Try.prog G 45 [.agg [.ro t 5 (ps.map (ePf f)), .r (.int .i64 root)], .ro u 1 (k.map eByte)] [] 0 (Is (.ro true 1 ((pathF ps k d root).map eNt)) [] 0) No := by
  have hps := path_step hp k d root [] [] hg (.inl rfl)
  have hpl := path_len ps k d root
  refine con_of_awp Go.Proofs.Try.func45 rfl (by kernel_rfl) (of_decide_eq_true (by kernel_rfl)) ?_; intro E hG hE; subst hG; simp only [ent]
  (repeat' (first | refine awp_seq ?_ | refine awp_block ?_ | refine awp_skip ?_ | refine awp_exit ?_ | ((first | refine rR (fun K kp hK hkp => ?_) | refine rD (id := 8) mixed 9 [0,1,2,3,4,5,6,7,8] (fun K kp hK hkp => ?_) | refine iG ?_ | refine iD ?_); simp (implicitDefEqProofs := false) (maxSteps := 2000000) (disch := omega) only [go_sem]; (repeat' (first | (refine hK _ ?_; clear hK hkp kp K) | (with_reducible refine And.intro ?_ ?_) | omega))) | ((first | refine aG (fun h => ?_) (fun h => ?_) | refine aD (fun h => ?_) (fun h => ?_) | refine aX (fun h => ?_) (fun h => ?_)) <;> simp only [h]) | refine awp_cond_t rfl ?_ | refine awp_cond_f rfl ?_ | ((refine awp_cond rfl (fun h => ?_) (fun h => ?_) <;> try simp only [ifs] at h) <;> (try (exfalso; omega))) | refine awp_ret ?_))
  refine awp_loop (fun j : Nat => ⟨[(5, .s 1 0 (j + 1)), (2, .p 0 0 0), (1, .ro u 1 (k.map eByte))], [(0, .box 24 [.ro t 5 (ps.map (ePf f)), .r (.int .i64 root)]), (1, .lst 3 1 (((pathF ps k d root).take (j + 1)).map eNt))], 2⟩) (fun j => j ≤ d) (fun j => d - j) 0 ?_ ?_ ?_
  · exact Nat.zero_le _
  · have h0 : (pathF ps k d root).take (0 + 1) = [root] := by cases d <;> simp [pathF]
    (refine emb [0, 1] ?_ ?_ rfl ?_ ?_ ?_ ?_ <;> simp [okM, okO, lk, ren, renL, renNd, by_, hE, h0, eNt] <;> (try omega) <;> (try (intro i hi; first | (rcases i with _ | _ | i; rfl; rfl; (exfalso; omega)) | (rcases i with _ | _ | _ | i; rfl; rfl; rfl; (exfalso; omega)) | (rcases i with _ | _ | _ | _ | i; rfl; rfl; rfl; rfl; (exfalso; omega)) | (rcases i with _ | _ | _ | _ | _ | i; rfl; rfl; rfl; rfl; rfl; (exfalso; omega)) | (rcases i with _ | _ | _ | _ | _ | _ | i; rfl; rfl; rfl; rfl; rfl; rfl; (exfalso; omega)))))
  intro j hj
  obtain ⟨x, hx⟩ : ∃ x, (pathF ps k d root)[j]? = some x := ⟨_, List.getElem?_eq_getElem (by omega)⟩
  obtain ⟨b1, b2, b3, b4⟩ := hps j x hx
  have hxl : x < ps.length := by
    rcases b4 with rfl | ⟨y, hy⟩
    · exact hr
    · exact hin y x hy
  have hpx := pg_in hxl
  have kv := fun h => kid_val hp (x := x) h k
  have hok := hp x _ hpx
  generalize hP : pg ps x = p at hpx b1 b2 kv hok
  have htj : ((pathF ps k d root).take (j + 1))[j]? = some x := by rw [List.getElem?_take_of_lt (by omega), hx]
  have hl : ((pathF ps k d root).take (j + 1)).length = j + 1 := by rw [List.length_take]; omega
  have e1 : ((j + 1 : Nat) : Int) - 1 = (j : Int) := by omega
  have zj : ((j : Int) < ((j + 1 : Nat) : Int)) = True := eq_true (by omega)
  have bc := beyond_conf E.G f u p k b1
  have pc := place_conf E.G f u p k (srt_page hok) hok.nk
  by_cases hjd : j = d
  · subst hjd
    have b2 : p.leaf = true := by rw [b2]; simp
    simp only [ePf, b2] at bc pc
    (repeat' (first | refine awp_seq ?_ | refine awp_block ?_ | refine awp_skip ?_ | refine awp_exit ?_ | ((first | refine rR (fun K kp hK hkp => ?_) | refine rD (id := 8) mixed 9 [0,1,2,3,4,5,6,7,8] (fun K kp hK hkp => ?_) | refine cR bc ?_ | refine cD bc ?_ | refine cR pc ?_ | refine cD pc ?_ | refine iG ?_ | refine iD ?_); simp (implicitDefEqProofs := false) (maxSteps := 2000000) (disch := omega) only [go_sem, e1, zj, htj, hl, hpx, b2, ePf, eNt]; (repeat' (first | (refine hK _ ?_; clear hK hkp kp K) | (with_reducible refine And.intro ?_ ?_) | omega))) | ((first | refine aG (fun h => ?_) (fun h => ?_) | refine aD (fun h => ?_) (fun h => ?_) | refine aX (fun h => ?_) (fun h => ?_)) <;> simp only [h]) | refine awp_cond_t rfl ?_ | refine awp_cond_f rfl ?_ | ((refine awp_cond rfl (fun h => ?_) (fun h => ?_) <;> try simp only [ifs] at h) <;> (try (exfalso; omega))) | refine awp_ret ?_))
    have htk : (pathF ps k j root).take (j + 1) = pathF ps k j root := List.take_of_length_le (by omega)
    rw [htk]
    (refine retA_is (by (simp (implicitDefEqProofs := false) (maxSteps := 2000000) (disch := omega) only [go_sem, Go.Proofs.Try.results45, hpl]); rfl) ?_; refine embS_frz (by simp only [oneA]; simp (implicitDefEqProofs := false) (maxSteps := 2000000) (disch := omega) only [go_sem, hpl]; rfl) ?_; refine (embV_nil hE (by simp) ?_).s; simp [oneA, ren, renL, hpl])
    exact List.take_of_length_le (by simp [hpl])
  · have b2 : p.leaf = false := by rw [b2]; simp [hjd]
    have b3 := b3 (by omega)
    have kv := kv b2
    simp only [ePf, b2] at bc pc
    have htk : (pathF ps k d root).take (j + 1 + 1) = (pathF ps k d root).take (j + 1) ++ [kidM ps k x] := by rw [List.take_add_one (i := j + 1), b3]; rfl
    (repeat' (first | refine awp_seq ?_ | refine awp_block ?_ | refine awp_skip ?_ | refine awp_exit ?_ | ((first | refine rR (fun K kp hK hkp => ?_) | refine rD (id := 8) mixed 9 [0,1,2,3,4,5,6,7,8] (fun K kp hK hkp => ?_) | refine cR bc ?_ | refine cD bc ?_ | refine cR pc ?_ | refine cD pc ?_ | refine iG ?_ | refine iD ?_); simp (implicitDefEqProofs := false) (maxSteps := 2000000) (disch := omega) only [go_sem, e1, zj, htj, hl, hpx, b2, kv, ePf, eI, eNt]; (repeat' (first | (refine hK _ ?_; clear hK hkp kp K) | (with_reducible refine And.intro ?_ ?_) | omega))) | ((first | refine aG (fun h => ?_) (fun h => ?_) | refine aD (fun h => ?_) (fun h => ?_) | refine aX (fun h => ?_) (fun h => ?_)) <;> simp only [h]) | refine awp_cond_t rfl ?_ | refine awp_cond_f rfl ?_ | ((refine awp_cond rfl (fun h => ?_) (fun h => ?_) <;> try simp only [ifs] at h) <;> (try (exfalso; omega))) | refine awp_ret ?_))
    ((first | (refine nextB (j + 1) ?_ ?_ ?_) | (refine nextA (j + 1) ?_ ?_ ?_) | (refine nextE (j + 1) ?_ ?_ ?_)); rotate_left; (· (try dsimp only); (first | omega | (simp only [List.length_drop, List.length_cons, List.length_append]; omega) | (simp; done) | (simp; omega))); (· (refine emb [0, 4] ?_ ?_ rfl ?_ ?_ ?_ ?_ <;> simp [okM, okO, lk, ren, renL, renNd, by_, hE, htk, eNt, List.take_take, Nat.min_self] <;> (try omega) <;> (try (intro i hi; first | (rcases i with _ | _ | i; rfl; rfl; (exfalso; omega)) | (rcases i with _ | _ | _ | i; rfl; rfl; rfl; (exfalso; omega)) | (rcases i with _ | _ | _ | _ | i; rfl; rfl; rfl; rfl; (exfalso; omega)) | (rcases i with _ | _ | _ | _ | _ | i; rfl; rfl; rfl; rfl; rfl; (exfalso; omega)) | (rcases i with _ | _ | _ | _ | _ | _ | i; rfl; rfl; rfl; rfl; rfl; rfl; (exfalso; omega)))))))
    omega
set_option maxRecDepth 100000 in
set_option maxHeartbeats 4000000 in
theorem find_conf (G : List (Nat × List Value)) (f t u : Bool) (ps : List PG) (root d : Nat) (k : Ky) (hp : AllOK ps) (hin : ∀ i x, x ∈ kidsOf ps i → x < ps.length) (hg : Good ps d root [] []) (hr : root < ps.length) (hn : ps.length ≤ 4000) (hd : d < ps.length) :
    Con Go.Proofs.Try.prog G 35 [.agg [.ro t 5 (ps.map (ePf f)), .r (.int .i64 root)], .ro u 1 (k.map eByte)] [] 0 (Is (.tup [.r (.int .i64 (leafF ps k d root)), .r (.int .i64 (placeM (pg ps (leafF ps k d root)) k)), .r (.bool (thereM (pg ps (leafF ps k d root)) k))]) [] 0) No := by
  have hpl := path_len ps k d root
  have hlast := path_last ps k d root
  obtain ⟨_, _, _, b4⟩ := path_step hp k d root [] [] hg (.inl rfl) d _ hlast
  have hxl : leafF ps k d root < ps.length := by
    rcases b4 with h | ⟨y, hy⟩
    · rw [h]; exact hr
    · exact hin y _ hy
  have pc := path_conf G f t u ps root d k hp hin hg hr hn hd
  have hpx := pg_in hxl
  have hok := hp _ _ hpx
  generalize leafF ps k d root = x at *
  generalize hP : pg ps x = p at hpx hok
  have lc := place_conf G f u p k (srt_page hok) hok.nk
  have e1 : ((d + 1 : Nat) : Int) - 1 = (d : Int) := by omega
  have zd : ((d : Int) < ((d + 1 : Nat) : Int)) = True := eq_true (by omega)
  have hple := place_le p k
  have h4 := hok.nk
  simp only [ePf] at lc
  refine con_of_awp Go.Proofs.Try.func35 rfl (by kernel_rfl) (of_decide_eq_true (by kernel_rfl)) ?_; intro E hG hE; subst hG; simp only [ent]
  by_cases hat : placeM p k < p.keys.length
  · have zi : ((placeM p k : Int) < (p.keys.length : Int)) = True := eq_true (by omega)
    obtain ⟨y, hy⟩ : ∃ y, p.keys[placeM p k]? = some y := ⟨_, List.getElem?_eq_getElem hat⟩
    have ht : thereM p k = (y == k) := by rw [thereM, hy, Bool.eq_iff_iff, decide_eq_true_eq, beq_iff_eq]; exact ⟨fun h => Option.some.inj h, fun h => by rw [h]⟩
    (repeat' (first | refine awp_seq ?_ | refine awp_block ?_ | refine awp_skip ?_ | refine awp_exit ?_ | ((first | refine rR (fun K kp hK hkp => ?_) | refine cR pc ?_ | refine cR lc ?_ | refine cR (bEq_con _ _ _ _ _) ?_ | refine iG ?_); simp (implicitDefEqProofs := false) (maxSteps := 2000000) (disch := omega) only [go_sem, e1, zd, zi, hlast, hpl, hpx, hy, ePf, eKy, eNt]; (repeat' (first | (refine hK _ ?_; clear hK hkp kp K) | (with_reducible refine And.intro ?_ ?_) | omega))) | ((first | refine aG (fun h => ?_) (fun h => ?_) | refine aD (fun h => ?_) (fun h => ?_) | refine aX (fun h => ?_) (fun h => ?_)) <;> simp only [h]) | refine awp_cond_t rfl ?_ | refine awp_cond_f rfl ?_ | ((refine awp_cond rfl (fun h => ?_) (fun h => ?_) <;> try simp only [ifs] at h) <;> (try (exfalso; omega))) | refine awp_ret ?_))
    (refine retA_is (by (simp (implicitDefEqProofs := false) (maxSteps := 2000000) (disch := omega) only [go_sem, Go.Proofs.Try.results35, hP, ht]); rfl) ?_; refine eN hE ?_; simp [oneA, ren, renL, hP, ht])
  · have zi : ((placeM p k : Int) < (p.keys.length : Int)) = False := eq_false (by omega)
    have ht : thereM p k = false := by rw [thereM, List.getElem?_eq_none (by omega)]; rfl
    (repeat' (first | refine awp_seq ?_ | refine awp_block ?_ | refine awp_skip ?_ | refine awp_exit ?_ | ((first | refine rR (fun K kp hK hkp => ?_) | refine cR pc ?_ | refine cR lc ?_ | refine cR (bEq_con _ _ _ _ _) ?_ | refine iG ?_); simp (implicitDefEqProofs := false) (maxSteps := 2000000) (disch := omega) only [go_sem, e1, zd, zi, hlast, hpl, hpx, ePf, eKy, eNt]; (repeat' (first | (refine hK _ ?_; clear hK hkp kp K) | (with_reducible refine And.intro ?_ ?_) | omega))) | ((first | refine aG (fun h => ?_) (fun h => ?_) | refine aD (fun h => ?_) (fun h => ?_) | refine aX (fun h => ?_) (fun h => ?_)) <;> simp only [h]) | refine awp_cond_t rfl ?_ | refine awp_cond_f rfl ?_ | ((refine awp_cond rfl (fun h => ?_) (fun h => ?_) <;> try simp only [ifs] at h) <;> (try (exfalso; omega))) | refine awp_ret ?_))
    (refine retA_is (by (simp (implicitDefEqProofs := false) (maxSteps := 2000000) (disch := omega) only [go_sem, Go.Proofs.Try.results35, hP, ht]); rfl) ?_; refine eN hE ?_; simp [oneA, ren, renL, hP, ht])
end Go.AM
/- The abstract machine: calls of the library that rewrite one own row of plain cells. -/
namespace Go.AM
open Go Go.RowKit Go.Sort
/-- One own thing, rewritten in its place. -/
theorem mem_one {w w' : World} {own : Nat → Prop} {z : Zone} {G : List (Nat × List Value)} {L : NLoc} {nd nd' : Nd} (hm : Mem ⟨w, own, z, G, [L], []⟩ [(0, nd)] 1 [L] z w) (ho : own L.b) (hp : L.ph = false) (hs : w.heap.size ≤ w'.heap.size)
    (hb : ∀ b, b < w.heap.size → b ≠ L.b → w'.heap[b]? = w.heap[b]?) (hy : Sys w w') (hn : NdAt w' z [L] L nd') (hu : nd'.isU = false := by rfl) : Mem ⟨w, own, z, G, [L], []⟩ [(0, nd')] 1 [L] z w' := by
  obtain ⟨M, e1, _, e3⟩ := hm.nds 0 nd rfl
  obtain rfl : L = M := by simpa using e1
  obtain ⟨e4, e5, _⟩ := e3 hp
  refine ⟨rfl, fun i x hi => ?_, fun i j x y A B hi hj hA hB _ _ _ => ?_, fun t b hz => Nat.lt_of_lt_of_le (hm.zlt t b hz) hs, hs, fun b hb1 hb2 => hb b hb1 (fun e => hb2 (e ▸ ho)), fun t b h => h, fun b h => .inl h, fun b h => h, fun g cs hg => ?_, fun i M h => h, hy, uls_none (by simp [noUo, hu])⟩
  · simp only [lk] at hi
    by_cases h0 : 0 = i
    · subst h0; rw [if_pos rfl] at hi; cases hi
      exact ⟨L, rfl, hn, fun _ => ⟨Nat.lt_of_lt_of_le e4 hs, e5, .inl ho⟩⟩
    · rw [if_neg h0] at hi; cases hi
  · simp only [lk] at hi hj
    by_cases h0 : 0 = i
    · by_cases h1 : 0 = j
      · omega
      · rw [if_neg h1] at hj; cases hj
    · rw [if_neg h0] at hi; cases hi
  · obtain ⟨h1, h2⟩ := hm.globs g cs hg
    exact ⟨h1, fun j u hu => (cell_heap (hb g (hm.zlt _ _ h1) (fun e => e5 true (e ▸ h1))) j).trans (h2 j u hu)⟩
theorem reps_r {w : World} {z : Zone} {th : List NLoc} : ∀ {us vs : List Value}, Reps w z th (us.map .r) vs → vs = us
  | [], vs, h => h.of_nil
  | u :: r, vs, h => by
    obtain ⟨y, ys, rfl, h1, h2⟩ := h.head
    rw [h1.r_inv, reps_r h2]
theorem putRow_at {α : Type} [Inhabited α] {enc : α → Value} {w : World} {b off n : Nat} {d : Array α} {os : Array Obj} {cells : Array Value} {T : TypeId} {fr : Nat × Nat} (h : w.heap[b]? = some (.cells cells T fr)) :
    (grow (putRow enc (Go.Sort.ahead w n) b off d) os).heap[b]? = some (.cells (putCells enc off d cells) T fr) := by
  have hb : b < w.heap.size := (Array.getElem?_eq_some_iff.1 h).1
  simp only [grow]
  rw [Array.getElem?_append_left (by simpa [putRow, mapBlock] using hb)]
  simp [putRow, mapBlock, Array.getElem?_modify, h, onCells]
theorem putRow_else {α : Type} [Inhabited α] {enc : α → Value} {w : World} {b off n : Nat} {d : Array α} {os : Array Obj} {k : Nat} (hk : k < w.heap.size) (hn : k ≠ b) :
    (grow (putRow enc (Go.Sort.ahead w n) b off d) os).heap[k]? = w.heap[k]? := by
  simp only [grow]
  rw [Array.getElem?_append_left (by simpa [putRow, mapBlock] using hk)]
  simp [putRow, mapBlock, Array.getElem?_modify, Ne.symm hn]
theorem putRow_size {α : Type} [Inhabited α] {enc : α → Value} {w : World} {b off n : Nat} {d : Array α} {os : Array Obj} : w.heap.size ≤ (grow (putRow enc (Go.Sort.ahead w n) b off d) os).heap.size := by
  simp [grow, putRow, mapBlock]
def eEnc {α : Type} (enc : α → Value) (x : α) : List AV := [.r (enc x)]
/-- A call that rewrites an own row of plain cells in its place and gives back a head of it (or what else a function of the slice says). -/
theorem con_put {α : Type} [Inhabited α] {P : Program} {G : List (Nat × List Value)} {f : Nat} {T : TypeId} (hok : okFn P f = true) (enc : α → Value) (h1 : ∀ x, (enc x).oneCell' = true) (us : List Value) (l l' lr : List α) (hl : l'.length = l.length) (hlr : ∀ (i : Nat) y, lr[i]? = some y → l'[i]? = some y) (m : Nat) (hm : m ≤ l.length) (y : AV) (rv : Option Addr → Nat → Value) (hy : (y = .s 0 0 m ∧ rv = fun a c => .slice a m c) ∨ ∃ u, y = .r u ∧ rv = fun _ _ => u)
    (h0 : l = [] → ∀ w, Calls P f (.slice none 0 0 :: us).toArray w fun e w' => e = .returned (rv none 0) ∧ w' = w)
    (h : ∀ (w : World) (b off c : Nat), Holds enc w b off l.toArray → b < w.heap.size → l.length ≤ c → Calls P f (.slice (some ⟨b, off, none⟩) l.length c :: us).toArray w fun e w' => e = .returned (rv (some ⟨b, off, none⟩) c) ∧ ∃ n os, w' = grow (putRow enc (Go.Sort.ahead w n) b off l'.toArray) os) :
    Con P G f (.s 0 0 l.length :: us.map .r) [(0, .lst T 1 (l.map (eEnc enc)))] 1 (Is y [(0, .lst T 1 (lr.map (eEnc enc)))] 1) No := by
  refine ⟨hok, fun w th z own vs ho hmem hr => ?_⟩
  obtain ⟨v, r, rfl, g1, g2⟩ := hr.head
  obtain rfl := reps_r g2
  obtain ⟨L, rfl⟩ : ∃ L, th = [L] := List.length_eq_one_iff.1 hmem.len
  obtain ⟨M, e1, e2, e3⟩ := hmem.nds 0 _ rfl
  obtain rfl : L = M := by simpa using e1
  rcases e2 with ⟨hp, he⟩ | ⟨hp, cells, fr, hb, hf, hk, hsz, hle, hcl⟩
  · have hl0 : l = [] := by simpa using he
    subst hl0
    obtain rfl : l' = [] := List.length_eq_zero_iff.1 (by simpa using hl)
    obtain rfl : m = 0 := by simpa using hm
    obtain rfl : lr = [] := by
      cases lr with
      | nil => rfl
      | cons a r => have := hlr 0 a rfl; simp at this
    have hv : v = .slice none 0 0 := by
      cases g1 with
      | s _ _ _ _ c x M hL hp' => obtain rfl : L = M := by simpa using hL
                                  rw [hp] at hp'; cases hp'
      | sn => rfl
    subst hv
    refine (h0 rfl w).mono ?_
    rintro e w' ⟨rfl, rfl⟩
    refine ⟨_, y, _, 1, [L], z, .inl ⟨rfl, rfl, rfl, rfl⟩, by simpa using hmem, ?_⟩
    rcases hy with ⟨rfl, rfl⟩ | ⟨u, rfl, rfl⟩
    · exact .sn _ 0 0 L rfl hp
    · exact .r _ _
  · have hown : own L.b := ho _ ⟨0, _, L, rfl, rfl, hp, rfl⟩
    have hlt := (e3 hp).1
    obtain ⟨c, x, rfl, hc1, hc2, hx⟩ : ∃ c x, v = .slice (some ⟨L.b, x, none⟩) l.length c ∧ l.length ≤ c ∧ c ≤ L.cap ∧ (0 < c → x = L.o) := by
      generalize hq : l.length = q at g1
      cases g1 with
      | s _ _ _ _ c x M hL hp' h3 h4 h5 =>
        obtain rfl : L = M := by simpa using hL
        exact ⟨c, x, rfl, h3, by omega, fun hc => by simpa using h5 hc⟩
      | sn _ _ _ M hL hp' => obtain rfl : L = M := by simpa using hL
                             rw [hp] at hp'; cases hp'
    have hx' : 0 < l.length → x = L.o := fun hh => hx (by omega)
    have H : Holds enc w L.b x l.toArray := by
      intro j hj
      have hj : j < l.length := by simpa using hj
      obtain rfl := hx' (by omega)
      obtain ⟨_, q2⟩ := hcl j (eEnc enc l[j]) (by rw [List.getElem?_map, List.getElem?_eq_getElem hj]; rfl)
      obtain ⟨y, q3, q4, _⟩ := q2 0 _ rfl
      rw [hk] at q3
      obtain rfl := q4.r_inv
      have q5 : cells[L.o + j]? = some (enc l[j]) := by simpa using q3
      have q6 : L.o + j < cells.size := (Array.getElem?_eq_some_iff.1 q5).1
      refine ⟨?_, ?_⟩
      · simp only [World.cell?, hb]
        simpa [hj] using q5
      · simp only [World.frozen?, hb]
        have := hf (L.o + j) q6
        simpa using this
    refine (h w L.b x c H hlt hc1).mono ?_
    rintro e w' ⟨rfl, n, os, rfl⟩
    have hcell : ∀ j, j < l.length → (putCells enc x l'.toArray cells)[L.o + j]? = (l'[j]?).map enc := by
      intro j hj
      obtain rfl := hx' (by omega)
      have hsz' : L.o + j < cells.size := by rw [hk] at hsz; have : l.length ≤ L.cap := by omega
                                             omega
      simp only [putCells, Array.getElem?_mapIdx, Array.getElem?_eq_getElem hsz', Option.map_some]
      have hj' : j < l'.length := by omega
      rw [if_pos (by simp; omega)]
      simp [show L.o + j - L.o = j by omega, hj']
    have hN : NdAt (grow (putRow enc (Go.Sort.ahead w n) L.b x l'.toArray) os) z [L] L (.lst T 1 (lr.map (eEnc enc))) := by
      have hlen : lr.length ≤ l'.length := by
        rcases Nat.lt_or_ge l'.length lr.length with hh | hh
        · have h1 := hlr l'.length lr[l'.length] (by simp [hh])
          simp at h1
        · exact hh
      refine .inr ⟨hp, _, fr, putRow_at hb, ?_, hk, ?_, ?_, ?_⟩
      · intro i hi; exact hf i (by simpa [putCells] using hi)
      · simpa [putCells] using hsz
      · simp only [List.length_map] at hle ⊢; omega
      · intro i e he
        rw [List.getElem?_map] at he
        obtain ⟨y, hy, rfl⟩ := Option.map_eq_some_iff.1 he
        have hy := hlr i y hy
        refine ⟨by simp [eEnc, hk], fun j a ha => ?_⟩
        have hi : i < l'.length := (List.getElem?_eq_some_iff.1 hy).1
        have hj0 : j = 0 := by
          have := (List.getElem?_eq_some_iff.1 ha).1
          simp [eEnc] at this; omega
        subst hj0
        simp [eEnc] at ha
        subst ha
        refine ⟨enc y, ?_, .r _ _, h1 y⟩
        have := hcell i (by omega)
        rw [hk]
        simpa [hy] using this
    refine ⟨_, y, _, 1, [L], z, .inl ⟨rfl, rfl, rfl, rfl⟩, mem_one hmem hown hp putRow_size (fun b hb1 hb2 => putRow_else hb1 hb2) ⟨rfl, rfl, rfl⟩ hN, ?_⟩
    rcases hy with ⟨rfl, rfl⟩ | ⟨u, rfl, rfl⟩
    · exact .s _ 0 0 m c x L rfl hp (by omega) (by omega) (fun hc => by simpa using hx hc)
    · exact .r _ _
end Go.AM
/- slices.Delete of one element of a row of one-cell elements (keys, numbers). -/
namespace Go.Proofs.Yteebiklebedneaa
open Go.RowKit Go.Lib
theorem dinfo_I : (Try.prog.info? 3).map (fun i => (i.zero, i.size, i.bytes)) = some (some (.int .i64 0), 1, 8) := by kernel_rfl
set_option maxHeartbeats 4000000 in
set_option maxRecDepth 1000000 in
theorem delI_any (b off c i j : Nat) (hij : j = i + 1) (l : List Value) (h1 : ∀ x ∈ l, x.oneCell' = true) (w : World) (hH : ∀ (m : Nat) x, l[m]? = some x → w.cell? ⟨b, off + m, none⟩ = some x ∧ w.frozen? ⟨b, off + m, none⟩ = false) (hn : l.length ≤ 1048576) (hcap : l.length ≤ c) (hi : i < l.length) :
    Calls Try.prog 43 #[.slice (some ⟨b, off, none⟩) l.length c, .int .i64 i, .int .i64 j] w fun e w' => e = .returned (.slice (some ⟨b, off, none⟩) (l.length - 1) c) ∧
      w' = (w.drew.setCells b (off + i) (l.drop (i + 1))).setCells b (off + (l.length - 1)) [.int .i64 0] := by
  obtain ⟨news, hnews⟩ : ∃ news, news = l.drop (i + 1) := ⟨_, rfl⟩
  have hlen : news.length = l.length - (i + 1) := by rw [hnews]; simp
  have hget : ∀ t u, news[t]? = some u → w.cell? ⟨b, off + (i + 1) + t, none⟩ = some u := by
    intro t u hu
    rw [hnews, List.getElem?_drop] at hu
    have := (hH _ u hu).1
    rw [← this]; congr 2; omega
  obtain ⟨A, hA, hsrc⟩ : ∃ A : Addr, (if c = j then some (⟨b, off, none⟩ : Addr) else some ⟨b, off + j, none⟩) = some A ∧ Hid (∀ t u, news[t]? = some u → w.drew.cell? (A.add t) = some u) := by
    subst hij
    by_cases h : c = i + 1
    · refine ⟨⟨b, off, none⟩, by simp [h], fun t u hu => ?_⟩
      have h0 : news.length = 0 := by rw [hlen]; omega
      rw [List.length_eq_zero_iff.1 h0] at hu
      simp at hu
    · refine ⟨⟨b, off + (i + 1), none⟩, by simp [h], fun t u hu => ?_⟩
      rw [Addr.add_lit]
      exact hget t u hu
  have s1 : Hid (news.length = (l.length - j) * 1) := Lib.hid (by rw [hij]; omega)
  have s2 : Hid (∀ u ∈ news, u.oneCell' = true) := Lib.hid (by rw [hnews]; exact fun u hu => h1 u (List.mem_of_mem_drop hu))
  have hold : ∀ m, m < l.length → (w.cell? ⟨b, off + m, none⟩).isSome = true ∧ w.frozen? ⟨b, off + m, none⟩ = false := by
    intro m hm
    have := hH m l[m] (List.getElem?_eq_getElem hm)
    exact ⟨by rw [this.1]; rfl, this.2⟩
  have s3 : Hid (∀ t, t < news.length → (w.drew.cell? ⟨b, off + i * 1 + t, none⟩).isSome = true ∧ w.drew.frozen? ⟨b, off + i * 1 + t, none⟩ = false) := Lib.hid (fun t ht => by
    rw [hlen] at ht
    have := hold (i + t) (by omega)
    rw [show off + (i + t) = off + i * 1 + t by omega] at this
    exact this)
  obtain ⟨W1, hW1⟩ : ∃ W1, W1 = w.drew.setCells b (off + i) news := ⟨_, rfl⟩
  have hst := run_storeCells_cells (P := Try.prog) b (off + (l.length - 1)) [.int .i64 0] 0 W1 (fun j hj => by
    have h3 : j < 1 := hj
    rw [hW1]
    refine isSome_setCells b news _ _ _ ?_
    have := (hold (l.length - 1) (by omega)).1
    rw [show off + (l.length - 1) = off + (l.length - 1) + 0 + j by omega] at this
    exact this) (fun j hj => by
    have h3 : j < 1 := hj
    rw [hW1, World.frozen?_setCells]
    have := (hold (l.length - 1) (by omega)).2
    rw [show off + (l.length - 1) = off + (l.length - 1) + 0 + j by omega] at this
    exact this) (by intro u hu; simp at hu; subst hu; rfl)
  simp only [Nat.add_zero] at hst
  have hcl : ∀ ty, (Builtin.clear_ #[50] ty #[.slice (some ⟨b, off + (l.length - 1), none⟩) 1 (c - (l.length - 1))]).run Try.prog W1 = .ok (.tuple #[]) (W1.setCells b (off + (l.length - 1)) [.int .i64 0]) := fun ty => by
    have hz : (Builtin.zeroCells (Value.cells (.int .i64 0)) 1).toList = [.int .i64 0] := by kernel_rfl
    simp [Builtin.clear_, run_underlying Try.underlying50, Try.zeroValue3, hz, hst]
  have hW : Hid (W1 = w.drew.setCells b (off + i) news) := Lib.hid hW1
  have hic : i ≤ c := by omega
  have hjc : j ≤ c := by omega
  have mixed : Try.prog.follows .mixedOrders = true := by kernel_rfl
  obtain ⟨i0, hi0, hz0, hz1, hz2⟩ := info_parts dinfo_I
  have b1 : ((i : Int) == (j : Int)) = false := by rw [beq_eq_false_iff_ne]; omega
  have l1 : ((l.length : Int) - 1) = ((l.length - 1 : Nat) : Int) := by omega
  have x1 : i + (l.length - j) = l.length - 1 := by omega
  have x3 : (l.length - 1 : Nat) ≤ l.length := by omega
  have x4 : j ≤ l.length := by omega
  have x5 : i ≤ j := by omega
  have HN := Lib.hid hnews
  have x2 : l.length - (l.length - 1) = 1 := by omega
  clear hget hH hold hst hnews hlen hW1 hij h1
  go_enter Try.func43, Try.ntmps43
  go_wp2_with fail
  go_region_law_o (refine step_append_room rfl (.tmp 22) (.tmp 25) 50 rfl 3 i0 1 Try.underlying50 hi0 hz1 b off i c (by simp [Act.eval, Act.put]) A (l.length - j) (c - j) news (by simp [Act.eval, Act.put]) s1.out hsrc.out s2.out (by omega) s3.out ?_; rw [Nat.mul_one, ← hW.out])
  go_wp2
  all_goals
    go_ret
    exact ⟨rfl, by rw [hW.out, HN.out]⟩
end Go.Proofs.Yteebiklebedneaa
namespace Go.Proofs.Yteebiklebedneaa
open Go.RowKit Go.Lib
theorem dinfo_K : (Try.prog.info? 30).map (fun i => (i.zero, i.size, i.bytes)) = some (some (.slice none 0 0), 1, 24) := by kernel_rfl
set_option maxHeartbeats 4000000 in
set_option maxRecDepth 1000000 in
theorem delK_any (b off c i j : Nat) (hij : j = i + 1) (l : List Value) (h1 : ∀ x ∈ l, x.oneCell' = true) (w : World) (hH : ∀ (m : Nat) x, l[m]? = some x → w.cell? ⟨b, off + m, none⟩ = some x ∧ w.frozen? ⟨b, off + m, none⟩ = false) (hn : l.length ≤ 1048576) (hcap : l.length ≤ c) (hi : i < l.length) :
    Calls Try.prog 42 #[.slice (some ⟨b, off, none⟩) l.length c, .int .i64 i, .int .i64 j] w fun e w' => e = .returned (.slice (some ⟨b, off, none⟩) (l.length - 1) c) ∧
      w' = (w.drew.setCells b (off + i) (l.drop (i + 1))).setCells b (off + (l.length - 1)) [.slice none 0 0] := by
  obtain ⟨news, hnews⟩ : ∃ news, news = l.drop (i + 1) := ⟨_, rfl⟩
  have hlen : news.length = l.length - (i + 1) := by rw [hnews]; simp
  have hget : ∀ t u, news[t]? = some u → w.cell? ⟨b, off + (i + 1) + t, none⟩ = some u := by
    intro t u hu
    rw [hnews, List.getElem?_drop] at hu
    have := (hH _ u hu).1
    rw [← this]; congr 2; omega
  obtain ⟨A, hA, hsrc⟩ : ∃ A : Addr, (if c = j then some (⟨b, off, none⟩ : Addr) else some ⟨b, off + j, none⟩) = some A ∧ Hid (∀ t u, news[t]? = some u → w.drew.cell? (A.add t) = some u) := by
    subst hij
    by_cases h : c = i + 1
    · refine ⟨⟨b, off, none⟩, by simp [h], fun t u hu => ?_⟩
      have h0 : news.length = 0 := by rw [hlen]; omega
      rw [List.length_eq_zero_iff.1 h0] at hu
      simp at hu
    · refine ⟨⟨b, off + (i + 1), none⟩, by simp [h], fun t u hu => ?_⟩
      rw [Addr.add_lit]
      exact hget t u hu
  have s1 : Hid (news.length = (l.length - j) * 1) := Lib.hid (by rw [hij]; omega)
  have s2 : Hid (∀ u ∈ news, u.oneCell' = true) := Lib.hid (by rw [hnews]; exact fun u hu => h1 u (List.mem_of_mem_drop hu))
  have hold : ∀ m, m < l.length → (w.cell? ⟨b, off + m, none⟩).isSome = true ∧ w.frozen? ⟨b, off + m, none⟩ = false := by
    intro m hm
    have := hH m l[m] (List.getElem?_eq_getElem hm)
    exact ⟨by rw [this.1]; rfl, this.2⟩
  have s3 : Hid (∀ t, t < news.length → (w.drew.cell? ⟨b, off + i * 1 + t, none⟩).isSome = true ∧ w.drew.frozen? ⟨b, off + i * 1 + t, none⟩ = false) := Lib.hid (fun t ht => by
    rw [hlen] at ht
    have := hold (i + t) (by omega)
    rw [show off + (i + t) = off + i * 1 + t by omega] at this
    exact this)
  obtain ⟨W1, hW1⟩ : ∃ W1, W1 = w.drew.setCells b (off + i) news := ⟨_, rfl⟩
  have hst := run_storeCells_cells (P := Try.prog) b (off + (l.length - 1)) [.slice none 0 0] 0 W1 (fun j hj => by
    have h3 : j < 1 := hj
    rw [hW1]
    refine isSome_setCells b news _ _ _ ?_
    have := (hold (l.length - 1) (by omega)).1
    rw [show off + (l.length - 1) = off + (l.length - 1) + 0 + j by omega] at this
    exact this) (fun j hj => by
    have h3 : j < 1 := hj
    rw [hW1, World.frozen?_setCells]
    have := (hold (l.length - 1) (by omega)).2
    rw [show off + (l.length - 1) = off + (l.length - 1) + 0 + j by omega] at this
    exact this) (by intro u hu; simp at hu; subst hu; rfl)
  simp only [Nat.add_zero] at hst
  have hcl : ∀ ty, (Builtin.clear_ #[49] ty #[.slice (some ⟨b, off + (l.length - 1), none⟩) 1 (c - (l.length - 1))]).run Try.prog W1 = .ok (.tuple #[]) (W1.setCells b (off + (l.length - 1)) [.slice none 0 0]) := fun ty => by
    have hz : (Builtin.zeroCells (Value.cells (.slice none 0 0)) 1).toList = [.slice none 0 0] := by kernel_rfl
    simp [Builtin.clear_, run_underlying Try.underlying49, Try.zeroValue30, hz, hst]
  have hW : Hid (W1 = w.drew.setCells b (off + i) news) := Lib.hid hW1
  have hic : i ≤ c := by omega
  have hjc : j ≤ c := by omega
  have mixed : Try.prog.follows .mixedOrders = true := by kernel_rfl
  obtain ⟨i0, hi0, hz0, hz1, hz2⟩ := info_parts dinfo_K
  have b1 : ((i : Int) == (j : Int)) = false := by rw [beq_eq_false_iff_ne]; omega
  have l1 : ((l.length : Int) - 1) = ((l.length - 1 : Nat) : Int) := by omega
  have x1 : i + (l.length - j) = l.length - 1 := by omega
  have x3 : (l.length - 1 : Nat) ≤ l.length := by omega
  have x4 : j ≤ l.length := by omega
  have x5 : i ≤ j := by omega
  have HN := Lib.hid hnews
  have x2 : l.length - (l.length - 1) = 1 := by omega
  clear hget hH hold hst hnews hlen hW1 hij h1
  go_enter Try.func42, Try.ntmps42
  go_wp2_with fail
  go_region_law_o (refine step_append_room rfl (.tmp 22) (.tmp 25) 49 rfl 30 i0 1 Try.underlying49 hi0 hz1 b off i c (by simp [Act.eval, Act.put]) A (l.length - j) (c - j) news (by simp [Act.eval, Act.put]) s1.out hsrc.out s2.out (by omega) s3.out ?_; rw [Nat.mul_one, ← hW.out])
  go_wp2
  all_goals
    go_ret
    exact ⟨rfl, by rw [hW.out, HN.out]⟩
end Go.Proofs.Yteebiklebedneaa
/- slices.Delete of one element of an own row of one-cell elements, as a contract. -/
namespace Go.AM
open Go Go.RowKit
def delX {α : Type} (l : List α) (i : Nat) : List α := l.take i ++ l.drop (i + 1)
theorem delX_len {α : Type} {l : List α} {i : Nat} (h : i < l.length) : (delX l i).length = l.length - 1 := by
  unfold delX; rw [List.length_append, List.length_take, List.length_drop]; omega
theorem delX_get {α : Type} {l : List α} {i : Nat} (h : i < l.length) (q : Nat) : (delX l i)[q]? = if q < i then l[q]? else l[q + 1]? := by
  unfold delX
  by_cases hq : q < i
  · rw [if_pos hq, List.getElem?_append_left (by rw [List.length_take]; omega), List.getElem?_take_of_lt hq]
  · rw [if_neg hq, List.getElem?_append_right (by rw [List.length_take]; omega), List.getElem?_drop, List.length_take]; congr 1; omega
theorem delX_map {α β : Type} (f : α → β) (l : List α) (i : Nat) : (delX l i).map f = delX (l.map f) i := by
  simp [delX, List.map_append, List.map_take, List.map_drop]
def sg (x : AV) : List AV := [x]
set_option maxHeartbeats 2000000 in
theorem del_con {P : Program} {f T : Nat} (G : List (Nat × List Value)) (zv : Value) (hok : okFn P f = true) (xs : List AV) (i : Nat) (hi : i < xs.length) (hn : xs.length ≤ 1048576)
    (H : ∀ (b off c i j : Nat), j = i + 1 → ∀ (l : List Value), (∀ x ∈ l, x.oneCell' = true) → ∀ (w : World), (∀ (m : Nat) x, l[m]? = some x → w.cell? ⟨b, off + m, none⟩ = some x ∧ w.frozen? ⟨b, off + m, none⟩ = false) → l.length ≤ 1048576 → l.length ≤ c → i < l.length →
      Calls P f #[.slice (some ⟨b, off, none⟩) l.length c, .int .i64 i, .int .i64 j] w fun e w' => e = .returned (.slice (some ⟨b, off, none⟩) (l.length - 1) c) ∧ w' = (w.drew.setCells b (off + i) (l.drop (i + 1))).setCells b (off + (l.length - 1)) [zv]) :
    Con P G f [.s 0 0 xs.length, .r (.int .i64 i), .r (.int .i64 ((i : Int) + 1))] [(0, .lst T 1 (xs.map sg))] 1 (Is (.s 0 0 (xs.length - 1)) [(0, .lst T 1 ((delX xs i).map sg))] 1) No := by
  refine ⟨hok, fun w th z own vs ho hmem hr => ?_⟩
  obtain ⟨v, r, rfl, g1, g2⟩ := hr.head
  obtain ⟨v2, r2, rfl, g3, g4⟩ := g2.head
  obtain ⟨v3, r3, rfl, g5, g6⟩ := g4.head
  obtain rfl := g3.r_inv
  obtain rfl := g5.r_inv
  obtain rfl := g6.of_nil
  obtain ⟨L, rfl⟩ : ∃ L, th = [L] := List.length_eq_one_iff.1 hmem.len
  obtain ⟨M, e1, e2, e3⟩ := hmem.nds 0 _ rfl
  obtain rfl : L = M := by simpa using e1
  rcases e2 with ⟨hp, he⟩ | ⟨hp, cells, fr, hb, hf, hk, hsz, hle, hcl⟩
  · have hl0 : xs = [] := by simpa using he
    subst hl0; simp at hi
  have hown : own L.b := ho _ ⟨0, _, L, rfl, rfl, hp, rfl⟩
  have hlt := (e3 hp).1
  obtain ⟨c, x, rfl, hc1, hc2, hx⟩ : ∃ c x, v = .slice (some ⟨L.b, x, none⟩) xs.length c ∧ xs.length ≤ c ∧ c ≤ L.cap ∧ (0 < c → x = L.o) := by
    generalize hq : xs.length = q at g1
    cases g1 with
    | s _ _ _ _ c x M hL hp' h3 h4 h5 =>
      obtain rfl : L = M := by simpa using hL
      exact ⟨c, x, rfl, h3, by omega, fun hc => by simpa using h5 hc⟩
    | sn _ _ _ M hL hp' => obtain rfl : L = M := by simpa using hL
                           rw [hp] at hp'; cases hp'
  obtain rfl := hx (by omega)
  rw [hk] at hsz
  have hold : ∀ (j : Nat) a, xs[j]? = some a → ∃ y, cells[L.o + j]? = some y ∧ Rep w z [] a y ∧ y.oneCell' = true := by
    intro j a hj
    obtain ⟨_, q2⟩ := hcl j (sg a) (by rw [List.getElem?_map, hj]; rfl)
    obtain ⟨y, q3, q4, q5⟩ := q2 0 a rfl
    rw [hk] at q3
    exact ⟨y, by simpa using q3, q4, q5⟩
  have hcs : L.o + xs.length ≤ cells.size := by omega
  obtain ⟨l, hl⟩ : ∃ l, l = (cells.toList.drop L.o).take xs.length := ⟨_, rfl⟩
  have hll : l.length = xs.length := by
    have : cells.toList.length = cells.size := rfl
    rw [hl, List.length_take, List.length_drop]; omega
  have hlg : ∀ m, m < xs.length → l[m]? = cells[L.o + m]? := by
    intro m hm
    rw [hl, List.getElem?_take_of_lt hm, List.getElem?_drop, Array.getElem?_toList]
  have hlx : ∀ (m : Nat) y, l[m]? = some y → ∃ a, xs[m]? = some a ∧ cells[L.o + m]? = some y ∧ Rep w z [] a y ∧ y.oneCell' = true := by
    intro m y hy
    have hm : m < xs.length := by rw [← hll]; exact (List.getElem?_eq_some_iff.1 hy).1
    obtain ⟨y', h1, h2, h3⟩ := hold m xs[m] (List.getElem?_eq_getElem hm)
    rw [hlg m hm] at hy
    rw [hy] at h1
    cases h1
    exact ⟨_, List.getElem?_eq_getElem hm, hy, h2, h3⟩
  have h1c : ∀ y ∈ l, y.oneCell' = true := by
    intro y hy
    obtain ⟨m, hm⟩ := List.mem_iff_getElem?.1 hy
    obtain ⟨_, _, _, _, h⟩ := hlx m y hm
    exact h
  have hH : ∀ (m : Nat) y, l[m]? = some y → w.cell? ⟨L.b, L.o + m, none⟩ = some y ∧ w.frozen? ⟨L.b, L.o + m, none⟩ = false := by
    intro m y hm
    obtain ⟨_, _, h, _, _⟩ := hlx m y hm
    exact ⟨by rw [cell_of hb]; exact h, frozen_of hb hf (Array.getElem?_eq_some_iff.1 h).1⟩
  have hrun := H L.b L.o c i (i + 1) rfl l h1c w hH (by omega) (by omega) (by omega)
  rw [hll, show ((i + 1 : Nat) : Int) = (i : Int) + 1 by omega] at hrun
  refine hrun.mono ?_
  rintro e w' ⟨rfl, rfl⟩
  obtain ⟨a1, a2, a3⟩ := heap_setCells L.b (l.drop (i + 1)) (L.o + i) w.drew cells T fr hb
  obtain ⟨b1, b2, b3⟩ := heap_setCells L.b [zv] (L.o + (xs.length - 1)) (w.drew.setCells L.b (L.o + i) (l.drop (i + 1))) _ T fr a3
  have hd : w.drew.heap = w.heap := rfl
  have hflen : (l.drop (i + 1)).length = xs.length - (i + 1) := by rw [List.length_drop, hll]
  have hS1 := setMany_get (l.drop (i + 1)) (L.o + i) cells (by rw [hflen]; omega)
  have hS2 := setMany_get [zv] (L.o + (xs.length - 1)) (setMany cells (L.o + i) (l.drop (i + 1))) (by rw [setMany_size, List.length_singleton]; omega)
  have hnz := (e3 hp).2.1
  have hLe : Le w z ((w.drew.setCells L.b (L.o + i) (l.drop (i + 1))).setCells L.b (L.o + (xs.length - 1)) [zv]) z :=
    ⟨fun _ _ h => h, fun t b hz => by rw [b2 b (fun e => hnz t (e ▸ hz)), a2 b (fun e => hnz t (e ▸ hz)), hd]⟩
  have hN : NdAt ((w.drew.setCells L.b (L.o + i) (l.drop (i + 1))).setCells L.b (L.o + (xs.length - 1)) [zv]) z [L] L (.lst T 1 ((delX xs i).map sg)) := by
    refine .inr ⟨hp, _, fr, b3, fun k hk' => ?_, hk, ?_, ?_, fun q el hq => ?_⟩
    · rw [setMany_size, setMany_size] at hk'; exact hf k hk'
    · rw [setMany_size, setMany_size, hk]; exact hsz
    · rw [List.length_map, delX_len hi]; rw [List.length_map] at hle; omega
    rw [List.getElem?_map] at hq
    obtain ⟨a, ha, rfl⟩ := Option.map_eq_some_iff.1 hq
    have hql : q < xs.length - 1 := by rw [← delX_len hi]; exact (List.getElem?_eq_some_iff.1 ha).1
    rw [delX_get hi] at ha
    refine ⟨by rw [hk]; rfl, fun j a' ha' => ?_⟩
    have hj : j = 0 := by
      have : j < 1 := (List.getElem?_eq_some_iff.1 ha').1
      omega
    subst hj
    obtain rfl : a = a' := by simpa [sg] using ha'
    rw [hk, Nat.mul_one, Nat.add_zero, hS2, List.length_singleton, if_neg (by omega), hS1]
    by_cases hqi : q < i
    · rw [if_pos hqi] at ha
      rw [if_neg (by omega)]
      obtain ⟨y, y1, y2, y3⟩ := hold q a ha
      exact ⟨y, y1, y2.on' hLe, y3⟩
    · rw [if_neg hqi] at ha
      rw [if_pos (by rw [hflen]; omega)]
      obtain ⟨y, y1, y2, y3⟩ := hold (q + 1) a ha
      refine ⟨y, ?_, y2.on' hLe, y3⟩
      rw [List.getElem?_drop, show i + 1 + (L.o + q + 0 - (L.o + i)) = q + 1 by omega, hlg _ (by omega)]
      exact y1
  refine ⟨_, .s 0 0 (xs.length - 1), _, 1, [L], z, .inl ⟨rfl, rfl, rfl, rfl⟩, mem_one hmem hown hp (by rw [b1, a1, hd]; exact Nat.le_refl _) (fun k _ hk' => by rw [b2 k hk', a2 k hk', hd]) ?_ hN, .s _ 0 0 _ c L.o L rfl hp (by omega) (by omega) (fun _ => by simp)⟩
  have s1 := sys_setCells L.b (l.drop (i + 1)) (L.o + i) w.drew
  have s2 := sys_setCells L.b [zv] (L.o + (xs.length - 1)) (w.drew.setCells L.b (L.o + i) (l.drop (i + 1)))
  exact (show Sys w w.drew from ⟨rfl, rfl, rfl⟩).trans (s1.trans s2)
theorem delK_con (G : List (Nat × List Value)) (l : List Ky) (i : Nat) (hi : i < l.length) (hn : l.length ≤ 1048576) :
    Con Go.Proofs.Try.prog G 42 [.s 0 0 l.length, .r (.int .i64 i), .r (.int .i64 ((i : Int) + 1))] [(0, .lst 30 1 (l.map eKy))] 1 (Is (.s 0 0 (l.length - 1)) [(0, .lst 30 1 ((delX l i).map eKy))] 1) No := by
  have h := del_con (P := Go.Proofs.Try.prog) (T := 30) G (.slice none 0 0) (f := 42) (by kernel_rfl) (l.map fun k => .ro true 1 (k.map eByte)) i (by simpa using hi) (by simpa using hn) Go.Proofs.Yteebiklebedneaa.delK_any
  rw [← delX_map, List.map_map, List.map_map, List.length_map] at h
  exact h
theorem delI_con (G : List (Nat × List Value)) (l : List Int) (i : Nat) (hi : i < l.length) (hn : l.length ≤ 1048576) :
    Con Go.Proofs.Try.prog G 43 [.s 0 0 l.length, .r (.int .i64 i), .r (.int .i64 ((i : Int) + 1))] [(0, .lst 3 1 (l.map eI))] 1 (Is (.s 0 0 (l.length - 1)) [(0, .lst 3 1 ((delX l i).map eI))] 1) No := by
  have h := del_con (P := Go.Proofs.Try.prog) (T := 3) G (.int .i64 0) (f := 43) (by kernel_rfl) (l.map fun k => .r (.int .i64 k)) i (by simpa using hi) (by simpa using hn) Go.Proofs.Yteebiklebedneaa.delI_any
  rw [← delX_map, List.map_map, List.map_map, List.length_map] at h
  exact h
end Go.AM
/- What Delete answers. -/
namespace Go.AM
open Go Go.RowKit
theorem rep_treenil {w : World} {z : Zone} {th : List NLoc} {t : Bool} {k : Nat} {x y : AV} {v : Value} (h : Rep w z th (.tup [.agg [.r (.slice none 0 0), x], y]) v) : Rep w z th (.tup [.agg [.ro t k [], x], y]) v := by
  cases h with
  | tup _ c ys hl hx =>
    refine .tup _ _ ys hl (fun i u q h1 h2 => ?_)
    cases i with
    | zero =>
      have := hx 0 _ q rfl h2
      cases h1
      cases this with
      | agg _ c2 us hl2 hx2 =>
        refine .agg _ _ us hl2 (fun j u2 q2 h3 h4 => ?_)
        cases j with
        | zero =>
          have := hx2 0 _ q2 rfl h4
          cases h3
          cases this with
          | r => exact .nil _ _ _ _ _
        | succ j => exact hx2 (j + 1) u2 q2 h3 h4
    | succ i => exact hx (i + 1) u q h1 h2
/-- What Delete answers: pages, root, error. -/
noncomputable def delA (R : List PG × Int × Int) : AV := .tup [.agg [.ro true 5 (R.1.map eP), .r (.int .i64 R.2.1)], .r (.int .i64 R.2.2)]
def cut (p : PG) (i : Nat) : PG := { p with keys := delX p.keys i, kids := delX p.kids i }
theorem dfzR_uP (t : Bool) (ps : List PG) : dfzR t (ps.map uP) = ps.map (ePf t) := dfzR_map t uP (ePf t) (dfzC_uP t) ps
attribute [go_sem] dfzR_uP
end Go.AM
/- The abstract machine: regions that draw their order, with calls that are given own things; moves that may come late are taken first. -/
namespace Go.AM
open Go
section
variable {P : Program} {ops : Array Oper} {Q : Exit → Act → World → Prop} {n : Nat} {L : Array Bool → Act → World → Prop} {X : Nat → Prop}
theorem anyX_firstF {fs : List Nat} {i : Nat} {oi : Oper} {v : Value} (hi : ops[i]? = some oi) (hsel : ∀ (j : Nat) (o : Oper) cs b, ops[j]? = some o → o.op ≠ .select cs b)
    (hQ : ∀ c a w, Q (.panic c) (a.put oi.dst v) w → Q (.panic c) a w) (hlt : ∀ s, HeadInv .any ops n s → Did fs s → ∀ i, i < n → s.getD i true = false → ∀ j ∈ Region.ready .any ops s, j < n) (hin : i < n)
    (hdone : ∀ s a w, L s a w → ∀ j ∈ Region.ready .any ops s, n ≤ j) : ∀ (f : Nat) (s : Array Bool) (a : Act) (w : World), HeadInv .any ops n s → Did fs s →
      (∀ j oj, ops[j]? = some oj → j ≠ i → s.getD j true = false → (∀ e ∈ oj.after, Region.binds .any e = true → e.on ≠ i) → oi.apart ops oj = true) →
      i ∈ Region.ready .any ops s → YieldsIf P ops (ExtX X w) oi v a → anyX P ops Q n X L f (s.setIfInBounds i true) (a.put oi.dst v) w → anyX P ops Q n X L (f + 1) s a w := by
  intro f
  induction f with
  | zero =>
    intro s a w inv did _ hr hy H
    refine ⟨fun h => (by rw [h] at hr; cases hr), fun j hj => ?_⟩
    have hjn : j < n := hlt s inv did i hin (mem_ready.1 hr).1 j hj
    by_cases hji : j = i
    · subst hji; exact ⟨hjn, hy.wpOp hi (ExtX.refl X w) ⟨ExtX.refl X w, H⟩⟩
    · have := hdone _ _ _ H j (ready_mono hj hji)
      omega
  | succ f ih =>
    intro s a w inv did hfree hr hy H
    refine ⟨fun h => (by rw [h] at hr; cases hr), fun j hj => ?_⟩
    have hjn : j < n := hlt s inv did i hin (mem_ready.1 hr).1 j hj
    refine ⟨hjn, ?_⟩
    by_cases hji : j = i
    · subst hji; exact hy.wpOp hi (ExtX.refl X w) ⟨ExtX.refl X w, H⟩
    · have h1 := (H.2 j (ready_mono hj hji)).2
      obtain ⟨hjun, oj, hoj, hall⟩ := mem_ready.1 hj
      have hiun := (mem_ready.1 hr).1
      have hnot : ∀ e ∈ oj.after, Region.binds .any e = true → e.on ≠ i := fun e he hb heq => by
        have h2 := hall e he hb
        rw [heq, getD_both hiun] at h2
        cases h2
      have h2 := wpOp_putIf hoj (hfree j oj hoj hji hjun hnot) (fun cs b => hsel i oi cs b hi) (fun cs b => hsel j oj cs b hoj) hQ hy h1
      refine wpOp_mono (fun a' w' h3 => ⟨h3.2.1, ih _ a' w' (inv.set hj hjn) (did.set j) (fun k ok hk hki hun hno => hfree k ok hk hki ?_ hno) (ready_mono hr (Ne.symm hji)) (yields_extX h3.1 h3.2.1) ?_⟩) h2
      · by_cases hjk : j = k
        · subst hjk; exact hjun
        · rwa [getD_set_ne true hjk] at hun
      · rw [Array.setIfInBounds_comm _ _ hji]
        exact h3.2.2
end
section
variable {P : Program} {E : Env} {N : Nat} {st : AS} {th : List NLoc} {z : Zone} {a : Act} {w : World} {AQ : AExit → AS → Prop}
theorem exX_soundF {fs : List Nat} {ops : Array Oper} {kp : AV → AS → Prop} {Q : Exit → Act → World → Prop} {K : AS → Prop} {n : Nat} {ws : List Nat} {th0 : List NLoc} (hpre : ∀ i ∈ ws, ∃ L, th0[i]? = some L) (hQ : ∀ c a d v w, Q (.panic c) (a.put d v) w → Q (.panic c) a w)
    (hp : ∀ x v st' th' z' a' w', kp x st' → Sim E N st' th' z' a' w' → Rep w' z' th' x v → Q (.panic [{ v := v, recovered := false }]) a' w')
    (hK : ∀ st' th' z' a' w', K st' → Sim E N st' th' z' a' w' → Q .normal a' w') (hd : ∀ o ∈ ops.toList, ∀ i, o.dst = some i → i < N)
    (h1 : Region.noSelect ops = true) (h2 : ∀ s, HeadInv .any ops n s → Did fs s → ∀ i, i < n → s.getD i true = false → ∀ j ∈ Region.ready .any ops s, j < n) :
    ∀ (ord : List Nat) {s : Array Bool} {st : AS} {th : List NLoc} {z : Zone} {a : Act} {w : World}, HeadInv .any ops n s → Did fs s → okOrd ops n ord s = true → Sim E N st th z a w → Later th0 th → exX P E N ws (dsOf ops) kp (ops.toList.drop n) (ordOf ops ord) st K → anyX P ops Q n (Xs ws th0) (tailE P ops Q n) ord.length s a w
  | [], s, st, th, z, a, w, inv, did, ho, h, hl, hx => ⟨ho, exec_sound hp hK _ (fun o ho => hd o (List.mem_of_mem_drop ho)) h (exec_of hx)⟩
  | i :: rest, s, st, th, z, a, w, inv, did, ho, h, hl, hx => by
    simp only [okOrd, Bool.and_eq_true, decide_eq_true_eq] at ho
    obtain ⟨⟨hin, ho1⟩, ho2⟩ := ho
    cases hi : ops[i]? with
    | none => rw [hi] at ho1; simp at ho1
    | some o =>
      simp only [ordOf, List.filterMap_cons, hi] at hx
      unfold exX at hx
      have hmem : o ∈ ops.toList := Array.mem_toList_iff.2 (Array.mem_of_getElem? hi)
      have hdo := hd o hmem
      simp only [hi] at ho1
      have ih : ∀ {s : Array Bool} {st : AS} {th : List NLoc} {z : Zone} {a : Act} {w : World}, HeadInv .any ops n s → Did fs s → okOrd ops n rest s = true → Sim E N st th z a w → Later th0 th → exX P E N ws (dsOf ops) kp (ops.toList.drop n) (ordOf ops rest) st K → anyX P ops Q n (Xs ws th0) (tailE P ops Q n) rest.length s a w :=
        exX_soundF hpre hQ hp hK hd h1 h2 rest
      have hx' : branch (gvOf (dsOf ops) st o.guard) (match isQ o.op with
          | true => prs ws st = true ∧ runQ (stepR P E.G (hid ws st) o.op) st (fun v st' => exX P E N ws (dsOf ops) kp (ops.toList.drop n) (ordOf ops rest) (st'.put o.dst v) K)
          | false => runX P E N ws (tch st E.G o.op) (stepR P E.G st o.op) st (fun v st' => exX P E N ws (dsOf ops) kp (ops.toList.drop n) (ordOf ops rest) (st'.put o.dst v) K) kp) (exX P E N ws (dsOf ops) kp (ops.toList.drop n) (ordOf ops rest) (st.put o.dst (.r (.tuple #[]))) K) := by
        split at hx
        · rename_i e; rw [e]; exact hx
        · rename_i e; rw [e]; exact hx
        · exact hx.elim
        · rename_i e; rw [e]; exact hx
      have guard := guard_sound h hx'
      split at ho1
      · rename_i hq
        simp only [Bool.and_eq_true] at ho1
        obtain ⟨hr, hf⟩ := ho1
        have hr' : i ∈ Region.ready .any ops s := by simpa using hr
        rcases guard with ⟨hw, hs⟩ | ⟨hw, hs⟩
        · rw [hq] at hs
          obtain ⟨hprs, hs⟩ := hs
          obtain ⟨x, hqv, hs⟩ := runQ_spec hq hs
          obtain ⟨v, hrep, hrun⟩ := qv_sound (sim_hid h ws) o hqv
          refine anyX_firstF hi (Region.noSelect_spec h1) (fun c a w => hQ c a _ _ w) h2 hin (fun s a w hL => seqB_ready hL.1) _ s a w inv did (Region.free_spec hi hf) hr' (.inl ⟨hw, fun w' e => hrun w' (fun b hb => e.same b (hb.lt (sim_hid h ws)) (kn_hid h hl hprs hb))⟩)
            (ih (inv.set hr' hin) (did.set i) ho2 (h.put hrep o.dst hdo) hl hs)
        · exact anyX_firstF hi (Region.noSelect_spec h1) (fun c a w => hQ c a _ _ w) h2 hin (fun s a w hL => seqB_ready hL.1) _ s a w inv did (Region.free_spec hi hf) hr' (.inr ⟨hw, rfl⟩)
            (ih (inv.set hr' hin) (did.set i) ho2 (h.put (.r th undef) o.dst hdo) hl hs)
      · rename_i hq
        have hq : isQ o.op = false := by simpa using hq
        simp only [decide_eq_true_eq] at ho1
        have hr' : i ∈ Region.ready .any ops s := by rw [ho1]; simp
        refine ⟨fun h0 => (by rw [h0] at hr'; cases hr'), fun j hj => ?_⟩
        rw [ho1] at hj
        obtain rfl : j = i := by simpa using hj
        refine ⟨hin, ?_⟩
        unfold wpOp
        simp only [hi]
        rcases guard with ⟨hw, hs⟩ | ⟨hw, hs⟩
        · rw [if_pos hw]
          rw [hq] at hs
          exact .inl (stepX_sound h o hs hdo (fun x st' th' z' a' w' ts g1 g2 g3 g4 g5 => ⟨extX_of_t hl hpre g5 g4, ih (inv.set hr' hin) (did.set _) ho2 g2 (hl.trans g3) g1⟩) (fun x v st' th' z' w' g1 g2 g3 => hp x v st' th' z' a w' g1 g2 g3))
        · rw [if_neg (by rw [hw]; exact Bool.false_ne_true)]
          exact ⟨ExtX.refl _ w, ih (inv.set hr' hin) (did.set _) ho2 (h.put (.r th undef) o.dst hdo) hl hs⟩
theorem awp_dxf {id : Nat} {ops : Array Oper} {AQ : AExit → AS → Prop} {ds : List (Option Nat)} {l l' lf : List Oper} {st1 : AS} (hm : P.follows .mixedOrders = true) (ws : List Nat) (n : Nat) (fs ord : List Nat) (hB : okDrawF ops n fs ord = true) (hd : dstOK N ops = true)
    (hds : dsOf ops = ds) (ht : ops.toList.drop n = l') (hh : ordOf ops ord = l) (hf : ordOf ops fs = lf) (hv : movF E.G lf st = some st1) (hws : prs ws st = true) (h : ∀ (K : AS → Prop) (kp : AV → AS → Prop), (∀ st', AQ .normal st' → K st') → (∀ x st', AQ (.pan x) st' → kp x st') → exX P E N ws ds kp l' l st1 K) : AWP P E N (.region id ops true) st AQ := by
  subst hds ht hh hf
  have h := h (AQ .normal) (fun x st => AQ (.pan x) st) (fun _ h => h) (fun _ _ h => h)
  intro Q hQ th z a w hs
  simp only [okDrawF, Bool.and_eq_true, decide_eq_true_eq] at hB
  obtain ⟨⟨⟨⟨⟨⟨b1, b2⟩, b3⟩, b4⟩, b5⟩, b6⟩, b7⟩ := hB
  have hlt : ∀ s, HeadInv .any ops n s → Did fs s → ∀ i, i < n → s.getD i true = false → ∀ j ∈ Region.ready .any ops s, j < n := by
    intro s inv did i hi hs j hj
    by_cases h : j < n
    · exact h
    · have hz : i ∉ fs := fun hz => by rw [did i hz] at hs; cases hs
      exact absurd hj (tail_waitsZ b2 b3 b4 inv _ i rfl hi hz hs j (by omega))
  let Q' : Exit → Act → World → Prop := fun e a w => match e with
    | .panic c => ∀ a' : Act, a'.defers = a.defers → Q (.panic c) a' w
    | e => Q e a w
  refine wp_mono (Q := Q') ?_ (fun e a w hq => by
    cases e
    case panic c => exact hq a rfl
    all_goals exact hq)
  have hQ' : ∀ c a d v w, Q' (.panic c) (a.put d v) w → Q' (.panic c) a w := fun c a d v w hq a' ha => hq a' (by rw [ha]; cases d <;> rfl)
  have inv0 : HeadInv .any ops n (Array.replicate ops.size false) :=
    ⟨by simp, fun j oj _ hl => (by rw [getD_replicate_false] at hl; cases hl), fun t _ ht => getD_in (by simpa using ht) (getD_replicate_false _ _)⟩
  refine wp_region_any hm ?_
  have hpre : ∀ i ∈ ws, ∃ L, th[i]? = some L := by
    intro i hi
    obtain ⟨nd, hnd⟩ := Option.isSome_iff_exists.1 (List.all_eq_true.1 hws i hi)
    obtain ⟨L, h1, _⟩ := hs.mem.nds i nd hnd
    exact ⟨L, h1⟩
  rw [show ops.size = fs.length + (ord.length + (ops.size - n)) by omega]
  refine take_F (P := P) (n := n) (E := E) (N := N) (th := th) (z := z) (g := ord.length + (ops.size - n)) hQ' b1 (dstOK_spec hd) fs (st1 := st1) (by rw [show fs.length + (ord.length + (ops.size - n)) = ops.size by omega]; exact b6) (by rw [show fs.length + (ord.length + (ops.size - n)) = ops.size by omega]; exact inv0) (hs.ext (ext_drew w)) hv (fun a' inv hsim => ?_)
  have did : Did fs (allF fs (Array.replicate ops.size false)) := allF_did fun f hf => .inl hf
  rw [show fs.length + (ord.length + (ops.size - n)) = ops.size by omega] at inv ⊢
  have key := exX_soundF (Q := Q') (K := AQ .normal) (kp := fun x st => AQ (.pan x) st) (P := P) (th0 := th) (fs := fs) hpre hQ' (fun x v st' th' z' a' w' g1 g2 g3 a2 ha => hQ.2.2.2 x v st' th' z' w' g1 g2.mem g3 a2 (ha.trans g2.dfs))
    (fun st' th' z' a' w' g1 g2 => hQ.1 st' th' z' a' w' g1 g2) (dstOK_spec hd) b1 hlt ord inv did b7 hsim (Later.refl th) h
  exact anyX_out (g := ops.size - n) (fun s a w hL => by
    have := wpAny_of_seq (md := .any) (Q' := Q') (ops.toList.drop n) n s a w (fun j => by simp [List.getElem?_drop]) (by simpa using hL.1) hL.2
    simpa using this) _ _ _ _ key
end
section
variable {P : Program} {E : Env} {N : Nat} {st : AS} {AQ : AExit → AS → Prop}
theorem rXF {id : Nat} {ops : Array Oper} {ds : List (Option Nat)} {l l' lf : List Oper} {st1 : AS} (hm : P.follows .mixedOrders = true) (ws : List Nat) (n : Nat) (fs ord : List Nat)
    (h : ∀ (K : AS → Prop) (kp : AV → AS → Prop), (∀ st', AQ .normal st' → K st') → (∀ x st', AQ (.pan x) st' → kp x st') → exX P E N ws ds kp l' l st1 K)
    (hB : okDrawF ops n fs ord = true := by kernel_rfl) (hd : dstOK N ops = true := by kernel_rfl)
    (hds : dsOf ops = ds := by simp only [go_sem]; rfl) (ht : ops.toList.drop n = l' := by simp only [go_sem]; rfl) (hh : ordOf ops ord = l := by simp only [go_sem]; rfl) (hf : ordOf ops fs = lf := by simp only [go_sem]; rfl)
    (hv : movF E.G lf st = some st1 := by simp only [go_sem]; rfl) (hws : prs ws st = true := by rfl) : AWP P E N (.region id ops true) st AQ :=
  awp_dxf hm ws n fs ord hB hd hds ht hh hf hv hws h
end
end Go.AM
/- tree.Delete. -/
namespace Go.AM
open Go Go.RowKit
attribute [local irreducible] AWP retA
set_option maxRecDepth 100000 in
set_option maxHeartbeats 4000000 in
theorem delT_con (G : List (Nat × List Value)) (t : Bool) (ps : List PG) (root : Int) (k : Ky) (ho : okPs2 ps) (R : List PG × Int × Int)
    (h1 : askM ps root k ≠ 0 → R = ([], 0, askM ps root k))
    (hR : askM ps root k = 0 → ∀ r d : Nat, root = r → Trd ps r d → R = if (pg ps (leafF ps k d r)).keys[placeM (pg ps (leafF ps k d r)) k]? = some k then (ps.set (leafF ps k d r) (cut (pg ps (leafF ps k d r)) (placeM (pg ps (leafF ps k d r)) k)), root, 0) else ([], 0, 8)) :
    Con Go.Proofs.Try.prog G 22 [.agg [.ro true 5 (ps.map eP), .r (.int .i64 root)], .ro t 1 (k.map eByte)] [] 0 (Is (delA R) [] 0) No := by
  have cc := checked_con G t ps root k ho
  rw [delA]
  by_cases h0 : askM ps root k = 0
  · obtain ⟨r, d, rfl, h⟩ := trd_of (ask_chk h0)
    have hR := hR h0 r d rfl h
    clear h1
    rw [h0] at cc
    have oc := ownT_con G true ps r ho
    have fc := find_conf G false false t ps r d k h.ok h.kin h.good h.rl h.n h.dl
    have hl := h.leaf k
    have hpx := pg_in hl
    have hok := h.ok _ _ hpx
    obtain ⟨A, B, e, hA, hB, lo, hi, hgl, _⟩ := leaf_split h.ok k d r [] [] h.good (.inl rfl)
    have hlf := hgl.1
    clear hA hB hgl e
    generalize leafF ps k d r = x at *
    generalize pg ps x = p at *
    have hkl := hok.kl hlf
    have hk4 := hok.nk
    by_cases ht : p.keys[placeM p k]? = some k
    · rw [thereM, decide_eq_true ht] at fc
      rw [if_pos ht] at hR
      have hlt := (List.getElem?_eq_some_iff.1 ht).1
      generalize placeM p k = i at *
      subst hR
      have dk := delK_con G p.keys i hlt (by omega)
      have di := delI_con G p.kids i (by omega) (by omega)
      have zx : ((x : Int) < (ps.length : Int)) = True := eq_true (by omega)
      have hpu : (ps.map uP)[x]? = some (uP p) := by rw [List.getElem?_map, hpx]; rfl
      refine con_of_awp Go.Proofs.Try.func22 rfl (by kernel_rfl) (of_decide_eq_true (by kernel_rfl)) ?_; intro E hG hE; subst hG; simp only [ent]
      (repeat' (first | refine awp_seq ?_ | refine awp_block ?_ | refine awp_skip ?_ | refine awp_exit ?_ | ((first | refine rR (fun K kp hK hkp => ?_) | refine rX (id := 9) mixed [4,5] 24 [0,1,2,3,4,5,6,7,8,10,11,12,13,14,15,16,9,17,18,19,20,21,22,23] (fun K kp hK hkp => ?_) | refine cR cc ?_ | refine cD cc ?_ | refine cX cc ?_ | refine cR oc ?_ | refine cD oc ?_ | refine cX oc ?_ | refine cR fc ?_ | refine cD fc ?_ | refine cX fc ?_ | refine iG ?_ | refine iD ?_ | refine iX ?_); simp (implicitDefEqProofs := false) (maxSteps := 2000000) (disch := omega) only [go_sem, bne_self_eq_false, zx]; (repeat' (first | (refine hK _ ?_; clear hK hkp kp K) | (with_reducible refine And.intro ?_ ?_) | omega))) | ((first | refine aG (fun h => ?_) (fun h => ?_) | refine aD (fun h => ?_) (fun h => ?_) | refine aX (fun h => ?_) (fun h => ?_)) <;> simp only [h]) | refine awp_cond_t rfl ?_ | refine awp_cond_f rfl ?_ | ((refine awp_cond rfl (fun h => ?_) (fun h => ?_) <;> try simp only [ifs] at h) <;> (try (exfalso; omega))) | refine awp_ret ?_))
      refine AWP.emb (st' := ⟨[(11, .p 2 x 0), (9, .r (.int .i64 i)), (7, .p 1 0 0), (5, .r (.int .i64 0)), (4, .p 0 0 0)], [(0, .box 24 [.r (.slice none 0 0), .r (.int .i64 0)]), (1, .box 24 [.s 2 0 ps.length, .r (.int .i64 r)]), (2, .ul 52 5 (ps.map uP) [])], 3⟩) ?_ ?_
      · (refine emb [1, 3, 2] ?_ ?_ rfl ?_ ?_ ?_ ?_ <;> simp [okM, okO, lk, ren, renL, renNd, by_, hE, renOp] <;> (try omega) <;> (try (intro i hi; first | (rcases i with _ | _ | i; rfl; rfl; (exfalso; omega)) | (rcases i with _ | _ | _ | i; rfl; rfl; rfl; (exfalso; omega)) | (rcases i with _ | _ | _ | _ | i; rfl; rfl; rfl; rfl; (exfalso; omega)) | (rcases i with _ | _ | _ | _ | _ | i; rfl; rfl; rfl; rfl; rfl; (exfalso; omega)) | (rcases i with _ | _ | _ | _ | _ | _ | i; rfl; rfl; rfl; rfl; rfl; rfl; (exfalso; omega)))))
      (refine AWP.emb (emb_open (T := ?z1T) (k := ?z1k) (els := ?z1e) (T' := ?z1T1) (k' := ?z1k1) (els' := ?z1e1) (op := ?z1op) (e := ?z1ee) 2 x 1 ?z1h ?z1he ?z1hj ?z1ho) ?z1g; (case z1h => rfl); (case z1he => exact hpu); (case z1hj => rfl); (case z1ho => simp [lk2]); simp only [List.length_map])
      (refine AWP.emb (emb_open (T := ?z2T) (k := ?z2k) (els := ?z2e) (T' := ?z2T1) (k' := ?z2k1) (els' := ?z2e1) (op := ?z2op) (e := ?z2ee) 2 x 2 ?z2h ?z2he ?z2hj ?z2ho) ?z2g; (case z2h => rfl); (case z2he => exact hpu); (case z2hj => rfl); (case z2ho => simp [lk2]); simp only [List.length_map])
      have dz1 : dfzR true (p.keys.map eKy) = p.keys.map eKy := dfzR_map true eKy eKy (fun _ => rfl) _
      have dz2 : dfzR true (p.kids.map eI) = p.kids.map eI := dfzR_map true eI eI (fun _ => rfl) _
      (refine AWP.emb (emb_toL (T := ?z3T) (k := ?z3k) (els := ?z3e) 3 ?z3h) ?z3g; (case z3h => rfl); simp only [setNd, dz1])
      (refine AWP.emb (emb_toL (T := ?z4T) (k := ?z4k) (els := ?z4e) 4 ?z4h) ?z4g; (case z4h => rfl); simp only [setNd, dz2, Nat.reduceAdd])
      clear hR cc oc fc ht h0
      refine rXF (id := 9) mixed [3,4] 18 [1] [0,2,3,4,5,6,7,8,10,11,12,13,14,15,16,9,17] (fun K kp hK hkp => ?_)
      simp (implicitDefEqProofs := false) (maxSteps := 2000000) (disch := omega) only [go_sem, zx, hpx, uP, ne_eq, reduceCtorEq, not_false_eq_true, Value.oneCell']
      (refine callX_own [3] (dk) ?_ ?_ ?_ ?_ ?_ ?_ ?_ ?_ ?_ rfl rfl ?_; (· simp [pasL, pas, idx, bor, borL, borC, lk, zx, hpx, uP, ne_eq, reduceCtorEq, not_false_eq_true, Value.oneCell']); (· simp [okO, lk, renNd, renL, ren, by_, zx, hpx, uP, ne_eq, reduceCtorEq, not_false_eq_true, Value.oneCell']); (· (intro i hi; simp only [List.length_cons, List.length_nil] at hi; repeat' (first | omega | exact ⟨_, rfl⟩ | (rcases i with _ | i)))); (· simp); (· simp); (· simp); (· simp [noUB, lk]); (· simp [zx, hpx, uP, ne_eq, reduceCtorEq, not_false_eq_true, Value.oneCell']); (· simp [zx, hpx, uP, ne_eq, reduceCtorEq, not_false_eq_true, Value.oneCell']); simp only [mapO, fw, rmL, rm, List.map_cons, List.map_nil, List.foldl_cons, List.foldl_nil, List.getElem?_cons_zero, List.getElem?_cons_succ, List.getElem?_nil, List.length_cons, List.length_nil, Nat.zero_add, Nat.sub_self, Nat.add_zero, ↓reduceIte, Nat.reduceEqDiff, reduceCtorEq, Nat.reduceAdd, Nat.reduceSub, List.cons_append, List.nil_append, ren, renL, renNd, zx, hpx, uP, ne_eq, reduceCtorEq, not_false_eq_true, Value.oneCell']; simp (implicitDefEqProofs := false) (maxSteps := 2000000) (disch := omega) only [go_sem, zx, hpx, uP, ne_eq, reduceCtorEq, not_false_eq_true, Value.oneCell']; (repeat' (first | (refine hK _ ?_; clear hK hkp kp K) | (with_reducible refine And.intro ?_ ?_) | omega)))
      have hsx : ∀ e, ((ps.map uP).set x e)[x]? = some e := fun e => by rw [List.getElem?_set_self (by simpa using hl)]
      (refine callX_own [4] (di) ?_ ?_ ?_ ?_ ?_ ?_ ?_ ?_ ?_ rfl rfl ?_; (· simp [pasL, pas, idx, bor, borL, borC, lk, zx, hpx, uP, ne_eq, reduceCtorEq, not_false_eq_true, Value.oneCell', hkl, hsx, List.set_set]); (· simp [okO, lk, renNd, renL, ren, by_, zx, hpx, uP, ne_eq, reduceCtorEq, not_false_eq_true, Value.oneCell', hkl, hsx, List.set_set]); (· (intro i hi; simp only [List.length_cons, List.length_nil] at hi; repeat' (first | omega | exact ⟨_, rfl⟩ | (rcases i with _ | i)))); (· simp); (· simp); (· simp); (· simp [noUB, lk]); (· simp [zx, hpx, uP, ne_eq, reduceCtorEq, not_false_eq_true, Value.oneCell', hkl, hsx, List.set_set]); (· simp [zx, hpx, uP, ne_eq, reduceCtorEq, not_false_eq_true, Value.oneCell', hkl, hsx, List.set_set]); simp only [mapO, fw, rmL, rm, List.map_cons, List.map_nil, List.foldl_cons, List.foldl_nil, List.getElem?_cons_zero, List.getElem?_cons_succ, List.getElem?_nil, List.length_cons, List.length_nil, Nat.zero_add, Nat.sub_self, Nat.add_zero, ↓reduceIte, Nat.reduceEqDiff, reduceCtorEq, Nat.reduceAdd, Nat.reduceSub, List.cons_append, List.nil_append, ren, renL, renNd, zx, hpx, uP, ne_eq, reduceCtorEq, not_false_eq_true, Value.oneCell', hkl, hsx, List.set_set]; simp (implicitDefEqProofs := false) (maxSteps := 2000000) (disch := omega) only [go_sem, zx, hpx, uP, ne_eq, reduceCtorEq, not_false_eq_true, Value.oneCell', hkl, hsx, List.set_set]; (repeat' (first | (refine hK _ ?_; clear hK hkp kp K) | (with_reducible refine And.intro ?_ ?_) | omega)))
      (refine AWP.emb (emb_toU (T := ?z5T) (k := ?z5k) (els := ?z5e) 3 ?z5h) ?z5g; (case z5h => rfl); simp only [setNd])
      (refine AWP.emb (emb_toU (T := ?z6T) (k := ?z6k) (els := ?z6e) 4 ?z6h) ?z6g; (case z6h => rfl); simp only [setNd])
      have hl1 : (delX p.keys i).length = p.keys.length - 1 := delX_len hlt
      have hl2 : (delX p.kids i).length = p.keys.length - 1 := by rw [delX_len (by omega), hkl]
      have htk1 : ((delX p.keys i).map eKy).take (p.keys.length - 1) = (delX p.keys i).map eKy := List.take_of_length_le (by simp [hl1])
      have htk2 : ((delX p.kids i).map eI).take (p.keys.length - 1) = (delX p.kids i).map eI := List.take_of_length_le (by simp [hl2])
      (refine AWP.emb (emb_close (T := ?z7T) (k := ?z7k) (els := ?z7e) (T' := ?z7T1) (k' := ?z7k1) (els' := ?z7e1) (op := ?z7op) (e := ?z7ee) (m := ?z7m) (lo := ?z7lo) (len := ?z7len) 2 x 1 ?z7h ?z7ho ?z7hm ?z7hn ?z7hl ?z7he ?z7hj) ?z7g; (case z7h => rfl); (case z7he => exact hsx _); (case z7ho => (simp only [lk2, and_self, if_true, ↓reduceIte, List.length_map, hl1, htk1, List.set_set, true_and, Nat.reduceLeDiff, Nat.reduceAdd, Nat.lt_irrefl, and_false]; rfl)); (case z7hm => rfl); (case z7hn => simp); (case z7hl => simp [List.length_map, hl1, htk1, List.set_set, true_and, Nat.reduceLeDiff, Nat.reduceAdd, Nat.lt_irrefl, and_false]); (case z7hj => simp [List.length_map, hl1, htk1, List.set_set, true_and, Nat.reduceLeDiff, Nat.reduceAdd, Nat.lt_irrefl, and_false]); simp only [rm, rm2, and_self, Nat.le_refl, Nat.zero_add, Nat.lt_add_one, Nat.reduceLT, Nat.reduceEqDiff, ↓reduceIte, if_true, List.drop_zero, List.set_cons_zero, List.set_cons_succ, List.length_map, hl1, htk1, List.set_set, true_and, Nat.reduceLeDiff, Nat.reduceAdd, Nat.lt_irrefl, and_false])
      (refine AWP.emb (emb_close (T := ?z8T) (k := ?z8k) (els := ?z8e) (T' := ?z8T1) (k' := ?z8k1) (els' := ?z8e1) (op := ?z8op) (e := ?z8ee) (m := ?z8m) (lo := ?z8lo) (len := ?z8len) 2 x 2 ?z8h ?z8ho ?z8hm ?z8hn ?z8hl ?z8he ?z8hj) ?z8g; (case z8h => rfl); (case z8he => exact hsx _); (case z8ho => (simp only [lk2, and_self, if_true, ↓reduceIte, List.length_map, hl2, htk2, List.set_set, true_and, Nat.reduceLeDiff, Nat.reduceAdd, Nat.lt_irrefl, and_false]; rfl)); (case z8hm => rfl); (case z8hn => simp); (case z8hl => simp [List.length_map, hl2, htk2, List.set_set, true_and, Nat.reduceLeDiff, Nat.reduceAdd, Nat.lt_irrefl, and_false]); (case z8hj => simp [List.length_map, hl2, htk2, List.set_set, true_and, Nat.reduceLeDiff, Nat.reduceAdd, Nat.lt_irrefl, and_false]); simp only [rm, rm2, and_self, Nat.le_refl, Nat.zero_add, Nat.lt_add_one, Nat.reduceLT, Nat.reduceEqDiff, ↓reduceIte, if_true, List.drop_zero, List.set_cons_zero, List.set_cons_succ, List.length_map, hl2, htk2, List.set_set, true_and, Nat.reduceLeDiff, Nat.reduceAdd, Nat.lt_irrefl, and_false])
      have hcut : (ps.map uP).set x (uP (cut p i)) = (ps.set x (cut p i)).map uP := by rw [List.map_set]
      change AWP _ _ _ _ ⟨_, (2, .ul _ _ (List.set _ _ (uP (cut p i))) _) :: _, _⟩ _
      rw [hcut]
      have hL : (ps.set x (cut p i)).length = ps.length := List.length_set
      generalize ps.set x (cut p i) = qs at *
      (refine AWP.emb (emb_toL (T := ?z9T) (k := ?z9k) (els := ?z9e) 2 ?z9h) ?z9g; (case z9h => rfl); simp only [setNd, dfzR_uP])
      rw [← eP_f]
      (repeat' (first | refine awp_seq ?_ | refine awp_block ?_ | refine awp_skip ?_ | refine awp_exit ?_ | ((first | refine rR (fun K kp hK hkp => ?_) | refine rX (id := 9) mixed [] 24 [0,1,2,3,4,5,6,7,8,10,11,12,13,14,15,16,9,17,18,19,20,21,22,23] (fun K kp hK hkp => ?_) | refine iG ?_ | refine iD ?_ | refine iX ?_); simp (implicitDefEqProofs := false) (maxSteps := 2000000) (disch := omega) only [go_sem]; (repeat' (first | (refine hK _ ?_; clear hK hkp kp K) | (with_reducible refine And.intro ?_ ?_) | omega))) | ((first | refine aG (fun h => ?_) (fun h => ?_) | refine aD (fun h => ?_) (fun h => ?_) | refine aX (fun h => ?_) (fun h => ?_)) <;> simp only [h]) | refine awp_cond_t rfl ?_ | refine awp_cond_f rfl ?_ | ((refine awp_cond rfl (fun h => ?_) (fun h => ?_) <;> try simp only [ifs] at h) <;> (try (exfalso; omega))) | refine awp_ret ?_))
      (refine retA_is (by (simp (implicitDefEqProofs := false) (maxSteps := 2000000) (disch := omega) only [go_sem, Go.Proofs.Try.results22, hL]); rfl) ?_; refine embS_frz (by simp only [oneA]; simp (implicitDefEqProofs := false) (maxSteps := 2000000) (disch := omega) only [go_sem, hL]; rfl) ?_; refine (embV_nil hE (by simp) ?_).s; simp [oneA, ren, renL, hL])
      exact List.take_of_length_le (by simp [hL])
    · rw [thereM, decide_eq_false ht] at fc
      rw [if_neg ht] at hR
      subst hR
      refine Con.res (y := .tup [.agg [.r (.slice none 0 0), .r (.int .i64 0)], .r (.int .i64 8)]) ?_ (fun w z th v hr => rep_treenil hr)
      refine con_of_awp Go.Proofs.Try.func22 rfl (by kernel_rfl) (of_decide_eq_true (by kernel_rfl)) ?_; intro E hG hE; subst hG; simp only [ent]
      (repeat' (first | refine awp_seq ?_ | refine awp_block ?_ | refine awp_skip ?_ | refine awp_exit ?_ | ((first | refine rR (fun K kp hK hkp => ?_) | refine rX (id := 9) mixed [] 24 [0,1,2,3,4,5,6,7,8,10,11,12,13,14,15,16,9,17,18,19,20,21,22,23] (fun K kp hK hkp => ?_) | refine cR cc ?_ | refine cD cc ?_ | refine cX cc ?_ | refine cR oc ?_ | refine cD oc ?_ | refine cX oc ?_ | refine cR fc ?_ | refine cD fc ?_ | refine cX fc ?_ | refine iG ?_ | refine iD ?_ | refine iX ?_); simp (implicitDefEqProofs := false) (maxSteps := 2000000) (disch := omega) only [go_sem, bne_self_eq_false]; (repeat' (first | (refine hK _ ?_; clear hK hkp kp K) | (with_reducible refine And.intro ?_ ?_) | omega))) | ((first | refine aG (fun h => ?_) (fun h => ?_) | refine aD (fun h => ?_) (fun h => ?_) | refine aX (fun h => ?_) (fun h => ?_)) <;> simp only [h]) | refine awp_cond_t rfl ?_ | refine awp_cond_f rfl ?_ | ((refine awp_cond rfl (fun h => ?_) (fun h => ?_) <;> try simp only [ifs] at h) <;> (try (exfalso; omega))) | refine awp_ret ?_))
      (refine retA_is (by (simp (implicitDefEqProofs := false) (maxSteps := 2000000) (disch := omega) only [go_sem, Go.Proofs.Try.results22]); rfl) ?_; refine eN hE ?_; simp [oneA, ren, renL])
  · rw [h1 h0]
    have z0 : (askM ps root k != 0) = true := by simp [h0]
    refine Con.res (y := .tup [.agg [.r (.slice none 0 0), .r (.int .i64 0)], .r (.int .i64 (askM ps root k))]) ?_ (fun w z th v hr => rep_treenil hr)
    refine con_of_awp Go.Proofs.Try.func22 rfl (by kernel_rfl) (of_decide_eq_true (by kernel_rfl)) ?_; intro E hG hE; subst hG; simp only [ent]
    (repeat' (first | refine awp_seq ?_ | refine awp_block ?_ | refine awp_skip ?_ | refine awp_exit ?_ | ((first | refine rR (fun K kp hK hkp => ?_) | refine rX (id := 9) mixed [] 24 [0,1,2,3,4,5,6,7,8,10,11,12,13,14,15,16,9,17,18,19,20,21,22,23] (fun K kp hK hkp => ?_) | refine cR cc ?_ | refine cD cc ?_ | refine cX cc ?_ | refine iG ?_ | refine iD ?_ | refine iX ?_); simp (implicitDefEqProofs := false) (maxSteps := 2000000) (disch := omega) only [go_sem, z0]; (repeat' (first | (refine hK _ ?_; clear hK hkp kp K) | (with_reducible refine And.intro ?_ ?_) | omega))) | ((first | refine aG (fun h => ?_) (fun h => ?_) | refine aD (fun h => ?_) (fun h => ?_) | refine aX (fun h => ?_) (fun h => ?_)) <;> simp only [h]) | refine awp_cond_t rfl ?_ | refine awp_cond_f rfl ?_ | ((refine awp_cond rfl (fun h => ?_) (fun h => ?_) <;> try simp only [ifs] at h) <;> (try (exfalso; omega))) | refine awp_ret ?_))
    (refine retA_is (by (simp (implicitDefEqProofs := false) (maxSteps := 2000000) (disch := omega) only [go_sem, Go.Proofs.Try.results22, h0]); rfl) ?_; refine eN hE ?_; simp [oneA, ren, renL, h0])
end Go.AM
/- TreeCopy, whose pages are own. -/
namespace Go.AM
open Go Go.RowKit
attribute [local irreducible] AWP retA
set_option maxRecDepth 100000 in
set_option maxHeartbeats 4000000 in
theorem treeOwn_con (G : List (Nat × List Value)) (t : Bool) (ps : List PG) (root : Int) (ho : okPs2 ps) : Con Go.Proofs.Try.prog G 26 [.agg [.ro t 5 (ps.map eP), .r (.int .i64 root)]] [] 0 (Is (.agg [.s 0 0 ps.length, .r (.int .i64 root)]) [(0, .ul 52 5 (ps.map uP) [])] 1) No := by
  have hn := ho.1
  refine con_of_awp Go.Proofs.Try.func26 rfl (by kernel_rfl) (of_decide_eq_true (by kernel_rfl)) ?_; intro E hG hE; subst hG; simp only [ent]
  (repeat' (first | refine awp_seq ?_ | refine awp_block ?_ | refine awp_skip ?_ | refine awp_exit ?_ | ((first | refine rR (fun K kp hK hkp => ?_) | refine rD (id := 15) mixed 8 [0,1,2,3,4,5,6,7] (fun K kp hK hkp => ?_) | refine iG ?_ | refine iD ?_); simp (implicitDefEqProofs := false) (maxSteps := 2000000) (disch := omega) only [go_sem, eP]; (repeat' (first | (refine hK _ ?_; clear hK hkp kp K) | (with_reducible refine And.intro ?_ ?_) | omega))) | ((first | refine aG (fun h => ?_) (fun h => ?_) | refine aD (fun h => ?_) (fun h => ?_) | refine aX (fun h => ?_) (fun h => ?_)) <;> simp only [h]) | refine awp_cond_t rfl ?_ | refine awp_cond_f rfl ?_ | ((refine awp_cond rfl (fun h => ?_) (fun h => ?_) <;> try simp only [ifs] at h) <;> (try (exfalso; omega))) | refine awp_ret ?_))
  (refine AWP.emb (emb_nilB 2 0 52 5 rfl rfl (by simp)) ?_; simp only [List.set_cons_zero, List.set_cons_succ, lk, ↓reduceIte, Nat.reduceAdd])
  (refine AWP.emb (emb_toU (T := ?z1T) (k := ?z1k) (els := ?z1e) 3 ?z1h) ?z1g; (case z1h => rfl); simp only [setNd])
  refine awp_loop (fun i : Nat => ⟨[(4, .r (.int .i64 i)), (3, .p 2 0 0), (2, .p 1 0 0), (1, .p 0 0 0)], [(0, .box 24 [.ro t 5 (ps.map eP), .r (.int .i64 root)]), (1, .box 24 [.r (.slice none 0 0), .r (.int .i64 0)]), (2, .box 24 [.s 3 0 i, .r (.int .i64 root)]), (3, .ul 52 5 ((ps.take i).map uP) [])], 4⟩) (fun i => i ≤ ps.length) (fun i => ps.length - i) 0 ?_ ?_ ?_
  · exact Nat.zero_le _
  · (refine emb [0, 1, 2, 3] ?_ ?_ rfl ?_ ?_ ?_ ?_ <;> simp [okM, okO, lk, ren, renL, renNd, by_, hE, renOp] <;> (try omega) <;> (try (intro i hi; first | (rcases i with _ | _ | i; rfl; rfl; (exfalso; omega)) | (rcases i with _ | _ | _ | i; rfl; rfl; rfl; (exfalso; omega)) | (rcases i with _ | _ | _ | _ | i; rfl; rfl; rfl; rfl; (exfalso; omega)) | (rcases i with _ | _ | _ | _ | _ | i; rfl; rfl; rfl; rfl; rfl; (exfalso; omega)) | (rcases i with _ | _ | _ | _ | _ | _ | i; rfl; rfl; rfl; rfl; rfl; rfl; (exfalso; omega)))))
  intro i hi
  by_cases hlt : i < ps.length
  · have zi : ((i : Int) < (ps.length : Int)) = True := eq_true (by omega)
    obtain ⟨p, hp⟩ : ∃ p, ps[i]? = some p := ⟨ps[i], by simp [hlt]⟩
    obtain ⟨h1, h2, h3, h4⟩ := ho.2 p (List.mem_of_getElem? hp)
    have bc := bytesCopy_con E.G true p.high h3
    (repeat' (first | refine awp_seq ?_ | refine awp_block ?_ | refine awp_skip ?_ | refine awp_exit ?_ | ((first | refine rR (fun K kp hK hkp => ?_) | refine rU (id := 6) mixed 9 [⟨0, 0, [], [(0, 1)]⟩, ⟨0, 0, [0], [(0, 1)]⟩, ⟨0, 0, [], [(0, 1)]⟩, ⟨0, 0, [2], [(0, 1)]⟩, ⟨0, 0, [2, 3], [(0, 1)]⟩, ⟨0, 0, [], [(0, 1)]⟩, ⟨0, 0, [5], [(0, 1)]⟩, ⟨0, 0, [0, 1, 2, 3, 4, 5, 6], [(0, 1)]⟩, ⟨0, 1, [], []⟩] 1 [25, 26, 27, 28, 29, 30, 31, 32, 6] [] (fun K kp hK hkp => ?_) | refine rD (id := 15) mixed 8 [0,1,2,3,4,5,6,7] (fun K kp hK hkp => ?_) | refine cR bc ?_ | refine cD bc ?_ | refine cU bc ?_ | refine iG ?_ | refine iD ?_); simp (implicitDefEqProofs := false) (maxSteps := 2000000) (disch := omega) only [go_sem, zi, hp, eP]; (repeat' (first | (refine hK _ ?_; clear hK hkp kp K) | (with_reducible refine And.intro ?_ ?_) | omega))) | ((first | refine aG (fun h => ?_) (fun h => ?_) | refine aD (fun h => ?_) (fun h => ?_) | refine aX (fun h => ?_) (fun h => ?_)) <;> simp only [h]) | refine awp_cond_t rfl ?_ | refine awp_cond_f rfl ?_ | ((refine awp_cond rfl (fun h => ?_) (fun h => ?_) <;> try simp only [ifs] at h) <;> (try (exfalso; omega))) | refine awp_ret ?_))
    (refine AWP.emb (emb_nilB 5 1 30 1 rfl rfl (by simp)) ?_; simp only [List.set_cons_zero, List.set_cons_succ, lk, ↓reduceIte, Nat.reduceAdd])
    (refine AWP.emb (emb_nilB 5 2 3 1 rfl rfl (by simp)) ?_; simp only [List.set_cons_zero, List.set_cons_succ, lk, ↓reduceIte, Nat.reduceAdd])
    refine awp_loop (fun k : Nat => ⟨[(7, .r (.int .i64 k)), (6, .p 5 0 0), (5, .p 4 0 0), (4, .r (.int .i64 i)), (3, .p 2 0 0), (2, .p 1 0 0), (1, .p 0 0 0)], [(0, .box 24 [.ro t 5 (ps.map eP), .r (.int .i64 root)]), (1, .box 24 [.r (.slice none 0 0), .r (.int .i64 0)]), (2, .box 24 [.s 3 0 i, .r (.int .i64 root)]), (3, .ul 52 5 ((ps.take i).map uP) []), (4, .box 52 (eP p)), (5, .box 52 [.r (.bool p.leaf), .s 6 0 (k), .s 7 0 (0), .ro true 1 (p.high.map eByte), .r (.int .i64 p.next)]), (6, .lst 30 1 ((p.keys.take k).map eKy)), (7, .lst 3 1 [])], 8⟩) (fun k => k ≤ p.keys.length) (fun k => p.keys.length - k) 0 ?_ ?_ ?_
    · exact Nat.zero_le _
    · (refine emb [0, 1, 2, 3, 4, 5, 6, 7] ?_ ?_ rfl ?_ ?_ ?_ ?_ <;> simp [okM, okO, lk, ren, renL, renNd, by_, hE, eP, renOp] <;> (try omega) <;> (try (intro i hi; first | (rcases i with _ | _ | i; rfl; rfl; (exfalso; omega)) | (rcases i with _ | _ | _ | i; rfl; rfl; rfl; (exfalso; omega)) | (rcases i with _ | _ | _ | _ | i; rfl; rfl; rfl; rfl; (exfalso; omega)) | (rcases i with _ | _ | _ | _ | _ | i; rfl; rfl; rfl; rfl; rfl; (exfalso; omega)) | (rcases i with _ | _ | _ | _ | _ | _ | i; rfl; rfl; rfl; rfl; rfl; rfl; (exfalso; omega)))))
    intro k hk
    by_cases hkl : k < p.keys.length
    · have zk : ((k : Int) < (p.keys.length : Int)) = True := eq_true (by omega)
      obtain ⟨x, hx⟩ : ∃ x, p.keys[k]? = some x := ⟨p.keys[k], by simp [hkl]⟩
      have xc := bytesCopy_con E.G true x (h4 x (List.mem_of_getElem? hx))
      have htk : p.keys.take (k + 1) = p.keys.take k ++ [x] := by rw [List.take_add_one, hx]; rfl
      have hl : (p.keys.take k).length = k := by rw [List.length_take]; omega
      (repeat' (first | refine awp_seq ?_ | refine awp_block ?_ | refine awp_skip ?_ | refine awp_exit ?_ | ((first | refine rR (fun K kp hK hkp => ?_) | refine rD (id := 15) mixed 8 [0,1,2,3,4,5,6,7] (fun K kp hK hkp => ?_) | refine cR xc ?_ | refine cD xc ?_ | refine iG ?_ | refine iD ?_); simp (implicitDefEqProofs := false) (maxSteps := 2000000) (disch := omega) only [go_sem, zk, hx, eP, eKy, hl, Value.oneCell']; (repeat' (first | (refine hK _ ?_; clear hK hkp kp K) | (with_reducible refine And.intro ?_ ?_) | omega))) | ((first | refine aG (fun h => ?_) (fun h => ?_) | refine aD (fun h => ?_) (fun h => ?_) | refine aX (fun h => ?_) (fun h => ?_)) <;> simp only [h]) | refine awp_cond_t rfl ?_ | refine awp_cond_f rfl ?_ | ((refine awp_cond rfl (fun h => ?_) (fun h => ?_) <;> try simp only [ifs] at h) <;> (try (exfalso; omega))) | refine awp_ret ?_))
      ((first | (refine nextB (k + 1) ?_ ?_ ?_) | (refine nextA (k + 1) ?_ ?_ ?_) | (refine nextE (k + 1) ?_ ?_ ?_)); rotate_left; (· (try dsimp only); (first | omega | (simp only [List.length_drop, List.length_cons, List.length_append]; omega) | (simp; done) | (simp; omega))); (· (refine emb [0, 1, 2, 3, 4, 5, 9, 7] ?_ ?_ rfl ?_ ?_ ?_ ?_ <;> simp [okM, okO, lk, ren, renL, renNd, by_, hE, renOp, htk, eKy, eP, List.take_take, Nat.min_self] <;> (try omega) <;> (try (intro i hi; first | (rcases i with _ | _ | i; rfl; rfl; (exfalso; omega)) | (rcases i with _ | _ | _ | i; rfl; rfl; rfl; (exfalso; omega)) | (rcases i with _ | _ | _ | _ | i; rfl; rfl; rfl; rfl; (exfalso; omega)) | (rcases i with _ | _ | _ | _ | _ | i; rfl; rfl; rfl; rfl; rfl; (exfalso; omega)) | (rcases i with _ | _ | _ | _ | _ | _ | i; rfl; rfl; rfl; rfl; rfl; rfl; (exfalso; omega)))))))
      omega
    · obtain rfl : k = p.keys.length := by omega
      rw [List.take_length]
      (repeat' (first | refine awp_seq ?_ | refine awp_block ?_ | refine awp_skip ?_ | refine awp_exit ?_ | ((first | refine rR (fun K kp hK hkp => ?_) | refine rD (id := 15) mixed 8 [0,1,2,3,4,5,6,7] (fun K kp hK hkp => ?_) | refine iG ?_ | refine iD ?_); simp (implicitDefEqProofs := false) (maxSteps := 2000000) (disch := omega) only [go_sem, eP]; (repeat' (first | (refine hK _ ?_; clear hK hkp kp K) | (with_reducible refine And.intro ?_ ?_) | omega))) | ((first | refine aG (fun h => ?_) (fun h => ?_) | refine aD (fun h => ?_) (fun h => ?_) | refine aX (fun h => ?_) (fun h => ?_)) <;> simp only [h]) | refine awp_cond_t rfl ?_ | refine awp_cond_f rfl ?_ | ((refine awp_cond rfl (fun h => ?_) (fun h => ?_) <;> try simp only [ifs] at h) <;> (try (exfalso; omega))) | refine awp_ret ?_))
      refine awp_loop (fun k : Nat => ⟨[(9, .r (.int .i64 k)), (6, .p 5 0 0), (5, .p 4 0 0), (4, .r (.int .i64 i)), (3, .p 2 0 0), (2, .p 1 0 0), (1, .p 0 0 0)], [(0, .box 24 [.ro t 5 (ps.map eP), .r (.int .i64 root)]), (1, .box 24 [.r (.slice none 0 0), .r (.int .i64 0)]), (2, .box 24 [.s 3 0 i, .r (.int .i64 root)]), (3, .ul 52 5 ((ps.take i).map uP) []), (4, .box 52 (eP p)), (5, .box 52 [.r (.bool p.leaf), .s 6 0 (p.keys.length), .s 7 0 (k), .ro true 1 (p.high.map eByte), .r (.int .i64 p.next)]), (6, .lst 30 1 (p.keys.map eKy)), (7, .lst 3 1 ((p.kids.take k).map eI))], 8⟩) (fun k => k ≤ p.kids.length) (fun k => p.kids.length - k) 0 ?_ ?_ ?_
      · exact Nat.zero_le _
      · (refine emb [0, 1, 2, 3, 4, 5, 6, 7] ?_ ?_ rfl ?_ ?_ ?_ ?_ <;> simp [okM, okO, lk, ren, renL, renNd, by_, hE, eP, renOp] <;> (try omega) <;> (try (intro i hi; first | (rcases i with _ | _ | i; rfl; rfl; (exfalso; omega)) | (rcases i with _ | _ | _ | i; rfl; rfl; rfl; (exfalso; omega)) | (rcases i with _ | _ | _ | _ | i; rfl; rfl; rfl; rfl; (exfalso; omega)) | (rcases i with _ | _ | _ | _ | _ | i; rfl; rfl; rfl; rfl; rfl; (exfalso; omega)) | (rcases i with _ | _ | _ | _ | _ | _ | i; rfl; rfl; rfl; rfl; rfl; rfl; (exfalso; omega)))))
      intro k hk
      by_cases hkl : k < p.kids.length
      · have zk : ((k : Int) < (p.kids.length : Int)) = True := eq_true (by omega)
        obtain ⟨x, hx⟩ : ∃ x, p.kids[k]? = some x := ⟨p.kids[k], by simp [hkl]⟩
        have htk : p.kids.take (k + 1) = p.kids.take k ++ [x] := by rw [List.take_add_one, hx]; rfl
        have hl : (p.kids.take k).length = k := by rw [List.length_take]; omega
        (repeat' (first | refine awp_seq ?_ | refine awp_block ?_ | refine awp_skip ?_ | refine awp_exit ?_ | ((first | refine rR (fun K kp hK hkp => ?_) | refine rX (id := 15) mixed [7] 9 [0,1,2,3,4,5,6,7,8] (fun K kp hK hkp => ?_) | refine iG ?_ | refine iD ?_); simp (implicitDefEqProofs := false) (maxSteps := 2000000) (disch := omega) only [go_sem, zk, hx, eP, eI, hl, Value.oneCell']; (repeat' (first | (refine hK _ ?_; clear hK hkp kp K) | (with_reducible refine And.intro ?_ ?_) | omega))) | ((first | refine aG (fun h => ?_) (fun h => ?_) | refine aD (fun h => ?_) (fun h => ?_) | refine aX (fun h => ?_) (fun h => ?_)) <;> simp only [h]) | refine awp_cond_t rfl ?_ | refine awp_cond_f rfl ?_ | ((refine awp_cond rfl (fun h => ?_) (fun h => ?_) <;> try simp only [ifs] at h) <;> (try (exfalso; omega))) | refine awp_ret ?_))
        ((first | (refine nextB (k + 1) ?_ ?_ ?_) | (refine nextA (k + 1) ?_ ?_ ?_) | (refine nextE (k + 1) ?_ ?_ ?_)); rotate_left; (· (try dsimp only); (first | omega | (simp only [List.length_drop, List.length_cons, List.length_append]; omega) | (simp; done) | (simp; omega))); (· (refine emb [0, 1, 2, 3, 4, 5, 6, 9] ?_ ?_ rfl ?_ ?_ ?_ ?_ <;> simp [okM, okO, lk, ren, renL, renNd, by_, hE, renOp, htk, eI, eP, List.take_take, Nat.min_self] <;> (try omega) <;> (try (intro i hi; first | (rcases i with _ | _ | i; rfl; rfl; (exfalso; omega)) | (rcases i with _ | _ | _ | i; rfl; rfl; rfl; (exfalso; omega)) | (rcases i with _ | _ | _ | _ | i; rfl; rfl; rfl; rfl; (exfalso; omega)) | (rcases i with _ | _ | _ | _ | _ | i; rfl; rfl; rfl; rfl; rfl; (exfalso; omega)) | (rcases i with _ | _ | _ | _ | _ | _ | i; rfl; rfl; rfl; rfl; rfl; rfl; (exfalso; omega)))))))
        omega
      · obtain rfl : k = p.kids.length := by omega
        rw [List.take_length]
        have hl : (ps.take i).length = i := by rw [List.length_take]; omega
        have ht : ps.take (i + 1) = ps.take i ++ [p] := by rw [List.take_add_one, hp]; rfl
        (refine AWP.emb (emb_toU (T := ?z2T) (k := ?z2k) (els := ?z2e) 6 ?z2h) ?z2g; (case z2h => rfl); simp only [setNd])
        (refine AWP.emb (emb_toU (T := ?z3T) (k := ?z3k) (els := ?z3e) 7 ?z3h) ?z3g; (case z3h => rfl); simp only [setNd])
        have hll : ((ps.take i).map uP).length = i := by rw [List.length_map, hl]
        have hs3 : ((ps.take i).map uP ++ [uP p]) = (ps.take (i + 1)).map uP := by rw [ht, List.map_append]; rfl
        (repeat' (first | refine awp_seq ?_ | refine awp_block ?_ | refine awp_skip ?_ | refine awp_exit ?_ | ((first | refine rR (fun K kp hK hkp => ?_) | refine rD (id := 15) mixed 8 [0,1,2,3,4,5,6,7] (fun K kp hK hkp => ?_) | refine iG ?_ | refine iD ?_); simp (implicitDefEqProofs := false) (maxSteps := 2000000) (disch := omega) only [go_sem, eP, hl, ne_eq, reduceCtorEq, not_false_eq_true, Option.some.injEq, Nat.reduceEqDiff]; (repeat' (first | (refine hK _ ?_; clear hK hkp kp K) | (with_reducible refine And.intro ?_ ?_) | omega))) | ((first | refine aG (fun h => ?_) (fun h => ?_) | refine aD (fun h => ?_) (fun h => ?_) | refine aX (fun h => ?_) (fun h => ?_)) <;> simp only [h]) | refine awp_cond_t rfl ?_ | refine awp_cond_f rfl ?_ | ((refine awp_cond rfl (fun h => ?_) (fun h => ?_) <;> try simp only [ifs] at h) <;> (try (exfalso; omega))) | refine awp_ret ?_))
        refine nextA (i + 1) ?_ ?_ ?_
        · show i + 1 ≤ ps.length
          omega
        · show ps.length - (i + 1) < ps.length - i
          omega
        have htk1 : (p.keys.map eKy).take p.keys.length = p.keys.map eKy := List.take_of_length_le (by simp)
        have htk2 : (p.kids.map eI).take p.kids.length = p.kids.map eI := List.take_of_length_le (by simp)
        (refine Emb.trans (emb_close (T := ?z4T) (k := ?z4k) (els := ?z4e) (T' := ?z4T1) (k' := ?z4k1) (els' := ?z4e1) (op := ?z4op) (e := ?z4ee) (m := ?z4m) (lo := ?z4lo) (len := ?z4len) 9 i 1 ?z4h ?z4ho ?z4hm ?z4hn ?z4hl ?z4he ?z4hj) ?z4g; (case z4h => rfl); (case z4he => exact at_end _ hll); (case z4ho => (simp only [lk2, and_self, if_true, ↓reduceIte, List.length_map, htk1, set_end _ _ hll, true_and, Nat.reduceLeDiff, Nat.reduceAdd, Nat.lt_irrefl, and_false]; rfl)); (case z4hm => rfl); (case z4hn => simp); (case z4hl => simp [List.length_map, htk1, set_end _ _ hll, true_and, Nat.reduceLeDiff, Nat.reduceAdd, Nat.lt_irrefl, and_false]); (case z4hj => simp [List.length_map, htk1, set_end _ _ hll, true_and, Nat.reduceLeDiff, Nat.reduceAdd, Nat.lt_irrefl, and_false]); simp only [rm, rm2, and_self, Nat.le_refl, Nat.zero_add, Nat.lt_add_one, Nat.reduceLT, Nat.reduceEqDiff, ↓reduceIte, if_true, List.drop_zero, List.set_cons_zero, List.set_cons_succ, List.length_map, htk1, set_end _ _ hll, true_and, Nat.reduceLeDiff, Nat.reduceAdd, Nat.lt_irrefl, and_false])
        (refine Emb.trans (emb_close (T := ?z5T) (k := ?z5k) (els := ?z5e) (T' := ?z5T1) (k' := ?z5k1) (els' := ?z5e1) (op := ?z5op) (e := ?z5ee) (m := ?z5m) (lo := ?z5lo) (len := ?z5len) 9 i 2 ?z5h ?z5ho ?z5hm ?z5hn ?z5hl ?z5he ?z5hj) ?z5g; (case z5h => rfl); (case z5he => exact at_end _ hll); (case z5ho => (simp only [lk2, and_self, if_true, ↓reduceIte, List.length_map, htk2, set_end _ _ hll, true_and, Nat.reduceLeDiff, Nat.reduceAdd, Nat.lt_irrefl, and_false]; rfl)); (case z5hm => rfl); (case z5hn => simp); (case z5hl => simp [List.length_map, htk2, set_end _ _ hll, true_and, Nat.reduceLeDiff, Nat.reduceAdd, Nat.lt_irrefl, and_false]); (case z5hj => simp [List.length_map, htk2, set_end _ _ hll, true_and, Nat.reduceLeDiff, Nat.reduceAdd, Nat.lt_irrefl, and_false]); simp only [rm, rm2, and_self, Nat.le_refl, Nat.zero_add, Nat.lt_add_one, Nat.reduceLT, Nat.reduceEqDiff, ↓reduceIte, if_true, List.drop_zero, List.set_cons_zero, List.set_cons_succ, List.length_map, htk2, set_end _ _ hll, true_and, Nat.reduceLeDiff, Nat.reduceAdd, Nat.lt_irrefl, and_false])
        change Emb _ _ ⟨_, (9, .ul _ _ (_ ++ [uP p]) _) :: _, _⟩ _
        rw [hs3]
        (refine emb [0, 1, 2, 9] ?_ ?_ rfl ?_ ?_ ?_ ?_ <;> simp [okM, okO, lk, ren, renL, renNd, by_, hE, renOp] <;> (try omega) <;> (try (intro i hi; first | (rcases i with _ | _ | i; rfl; rfl; (exfalso; omega)) | (rcases i with _ | _ | _ | i; rfl; rfl; rfl; (exfalso; omega)) | (rcases i with _ | _ | _ | _ | i; rfl; rfl; rfl; rfl; (exfalso; omega)) | (rcases i with _ | _ | _ | _ | _ | i; rfl; rfl; rfl; rfl; rfl; (exfalso; omega)) | (rcases i with _ | _ | _ | _ | _ | _ | i; rfl; rfl; rfl; rfl; rfl; rfl; (exfalso; omega)))))
  · obtain rfl : i = ps.length := by omega
    rw [List.take_length]
    (repeat' (first | refine awp_seq ?_ | refine awp_block ?_ | refine awp_skip ?_ | refine awp_exit ?_ | ((first | refine rR (fun K kp hK hkp => ?_) | refine rD (id := 15) mixed 8 [0,1,2,3,4,5,6,7] (fun K kp hK hkp => ?_) | refine iG ?_ | refine iD ?_); simp (implicitDefEqProofs := false) (maxSteps := 2000000) (disch := omega) only [go_sem]; (repeat' (first | (refine hK _ ?_; clear hK hkp kp K) | (with_reducible refine And.intro ?_ ?_) | omega))) | ((first | refine aG (fun h => ?_) (fun h => ?_) | refine aD (fun h => ?_) (fun h => ?_) | refine aX (fun h => ?_) (fun h => ?_)) <;> simp only [h]) | refine awp_cond_t rfl ?_ | refine awp_cond_f rfl ?_ | ((refine awp_cond rfl (fun h => ?_) (fun h => ?_) <;> try simp only [ifs] at h) <;> (try (exfalso; omega))) | refine awp_ret ?_))
    (refine retA_is (by (simp (implicitDefEqProofs := false) (maxSteps := 2000000) (disch := omega) only [go_sem, Go.Proofs.Try.results26, renOp]); rfl) ?_; refine (embV [3] ?_ ?_ ?_ ?_ ?_ ?_).s <;> simp [oneA, okO, lk, ren, renL, renNd, by_, hE, renOp] <;> (try (intro i hi; first | (rcases i with _ | _ | i; rfl; rfl; (exfalso; omega)) | (rcases i with _ | _ | _ | i; rfl; rfl; rfl; (exfalso; omega)) | (rcases i with _ | _ | _ | _ | i; rfl; rfl; rfl; rfl; (exfalso; omega)) | (rcases i with _ | _ | _ | _ | _ | i; rfl; rfl; rfl; rfl; rfl; (exfalso; omega)) | (rcases i with _ | _ | _ | _ | _ | _ | i; rfl; rfl; rfl; rfl; rfl; rfl; (exfalso; omega)))))
end Go.AM
/- DeletedFrom. -/
namespace Go.AM
open Go Go.RowKit
attribute [local irreducible] AWP retA
theorem delX_take {α : Type} (l : List α) (n m : Nat) (x : α) (hx : l[m]? = some x) : (delX (l.take (m + 1)) n) = if m = n then delX (l.take m) n else delX (l.take m) n ++ [x] := by
  have hm := (List.getElem?_eq_some_iff.1 hx).1
  have ht : l.take (m + 1) = l.take m ++ [x] := by rw [List.take_add_one, hx]; rfl
  have hl : (l.take m).length = m := by rw [List.length_take]; omega
  rw [ht]
  unfold delX
  by_cases e : m = n
  · subst e
    rw [if_pos rfl, List.take_append_of_le_length (by omega), List.drop_of_length_le (by rw [List.length_append, List.length_singleton]; omega), List.drop_of_length_le (by omega)]
  · rw [if_neg e]
    by_cases h : m < n
    · have e1 : (l.take m ++ [x]).take n = l.take m ++ [x] := List.take_of_length_le (by rw [List.length_append, List.length_singleton]; omega)
      have e2 : (l.take m).take n = l.take m := List.take_of_length_le (by omega)
      have e3 : (l.take m ++ [x]).drop (n + 1) = [] := List.drop_of_length_le (by rw [List.length_append, List.length_singleton]; omega)
      have e4 : (l.take m).drop (n + 1) = [] := List.drop_of_length_le (by omega)
      rw [e1, e2, e3, e4]; simp
    · rw [List.take_append_of_le_length (by omega), List.drop_append_of_le_length (by omega), List.append_assoc]
theorem delX_zero {α : Type} (n : Nat) : delX ([] : List α) n = [] := by simp [delX]
set_option maxRecDepth 100000 in
set_option maxHeartbeats 4000000 in
theorem deleted_con (G : List (Nat × List Value)) (t u : Bool) (ps : List PG) (root : Int) (k : Ky) (ho : okPs2 ps) (R : List PG × Int × Int)
    (h1 : askM ps root k ≠ 0 → R = ([], 0, askM ps root k))
    (hA : askM ps root k = 0 → ∀ (i : Nat) (p : PG) (n : Nat), ps[i]? = some p → p.leaf = true → p.keys[n]? = some k → R = (ps.set i (cut p n), root, 0) ∧ p.kids.length = p.keys.length)
    (hB : askM ps root k = 0 → (∀ (i : Nat) (p : PG) (n : Nat), ps[i]? = some p → p.leaf = true → p.keys[n]? ≠ some k) → R = ([], 0, 8)) :
    Con Go.Proofs.Try.prog G 23 [.agg [.ro u 5 (ps.map eP), .r (.int .i64 root)], .ro t 1 (k.map eByte)] [] 0 (Is (delA R) [] 0) No := by
  have cc := treeAndKey_con G t u ps root k ho
  by_cases h0 : askM ps root k = 0
  · rw [h0] at cc
    have hA := hA h0
    have hB := hB h0
    have oc := treeOwn_con G u ps root ho
    clear h1
    have hn := ho.1
    by_cases hex : ∃ (i : Nat) (p : PG) (n : Nat), ps[i]? = some p ∧ p.leaf = true ∧ p.keys[n]? = some k
    · obtain ⟨i0, p0, n0, q1, q2, q3⟩ := hex
      obtain ⟨hR, _⟩ := hA i0 p0 n0 q1 q2 q3
      have hR0 : R.2.1 = root ∧ R.2.2 = 0 := by rw [hR]; exact ⟨rfl, rfl⟩
      clear hB
      rw [delA, hR0.1, hR0.2]
      refine con_of_awp Go.Proofs.Try.func23 rfl (by kernel_rfl) (of_decide_eq_true (by kernel_rfl)) ?_; intro E hG hE; subst hG; simp only [ent]
      (repeat' (first | refine awp_seq ?_ | refine awp_block ?_ | refine awp_skip ?_ | refine awp_exit ?_ | ((first | refine rR (fun K kp hK hkp => ?_) | refine rD (id := 20) mixed 8 [0,1,2,3,4,5,6,7] (fun K kp hK hkp => ?_) | refine cR cc ?_ | refine cD cc ?_ | refine cR oc ?_ | refine cD oc ?_ | refine iG ?_ | refine iD ?_); simp (implicitDefEqProofs := false) (maxSteps := 2000000) (disch := omega) only [go_sem, bne_self_eq_false]; (repeat' (first | (refine hK _ ?_; clear hK hkp kp K) | (with_reducible refine And.intro ?_ ?_) | omega))) | ((first | refine aG (fun h => ?_) (fun h => ?_) | refine aD (fun h => ?_) (fun h => ?_) | refine aX (fun h => ?_) (fun h => ?_)) <;> simp only [h]) | refine awp_cond_t rfl ?_ | refine awp_cond_f rfl ?_ | ((refine awp_cond rfl (fun h => ?_) (fun h => ?_) <;> try simp only [ifs] at h) <;> (try (exfalso; omega))) | refine awp_ret ?_))
      refine awp_loop (fun i : Nat => ⟨[(8, .r (.int .i64 i)), (7, .p 3 0 0), (5, .r (.int .i64 0)), (4, .p 1 0 0), (2, .p 0 0 0), (1, .ro t 1 (k.map eByte))], [(0, .box 24 [.ro u 5 (ps.map eP), .r (.int .i64 root)]), (1, .box 24 [.r (.slice none 0 0), .r (.int .i64 0)]), (2, .ul 52 5 (ps.map uP) []), (3, .box 24 [.s 2 0 ps.length, .r (.int .i64 root)])], 4⟩) (fun i => i ≤ ps.length ∧ ∀ (j : Nat) (p : PG) (n : Nat), j < i → ps[j]? = some p → p.leaf = true → p.keys[n]? ≠ some k) (fun i => ps.length - i) 0 ?_ ?_ ?_
      · exact ⟨Nat.zero_le _, fun j p n hj => absurd hj (Nat.not_lt_zero _)⟩
      · (refine emb [0, 1, 2, 3] ?_ ?_ rfl ?_ ?_ ?_ ?_ <;> simp [okM, okO, lk, ren, renL, renNd, by_, hE, renOp] <;> (try omega) <;> (try (intro i hi; first | (rcases i with _ | _ | i; rfl; rfl; (exfalso; omega)) | (rcases i with _ | _ | _ | i; rfl; rfl; rfl; (exfalso; omega)) | (rcases i with _ | _ | _ | _ | i; rfl; rfl; rfl; rfl; (exfalso; omega)) | (rcases i with _ | _ | _ | _ | _ | i; rfl; rfl; rfl; rfl; rfl; (exfalso; omega)) | (rcases i with _ | _ | _ | _ | _ | _ | i; rfl; rfl; rfl; rfl; rfl; rfl; (exfalso; omega)))))
      rintro i ⟨hi, hno⟩
      by_cases hlt : i < ps.length
      · have zi : ((i : Int) < (ps.length : Int)) = True := eq_true (by omega)
        obtain ⟨p, hp⟩ : ∃ p, ps[i]? = some p := ⟨ps[i], by simp [hlt]⟩
        obtain ⟨g1, g2, g3, g4⟩ := ho.2 p (List.mem_of_getElem? hp)
        (repeat' (first | refine awp_seq ?_ | refine awp_block ?_ | refine awp_skip ?_ | refine awp_exit ?_ | ((first | refine rR (fun K kp hK hkp => ?_) | refine rD (id := 20) mixed 8 [0,1,2,3,4,5,6,7] (fun K kp hK hkp => ?_) | refine iG ?_ | refine iD ?_); simp (implicitDefEqProofs := false) (maxSteps := 2000000) (disch := omega) only [go_sem, zi, hp, eP]; (repeat' (first | (refine hK _ ?_; clear hK hkp kp K) | (with_reducible refine And.intro ?_ ?_) | omega))) | ((first | refine aG (fun h => ?_) (fun h => ?_) | refine aD (fun h => ?_) (fun h => ?_) | refine aX (fun h => ?_) (fun h => ?_)) <;> simp only [h]) | refine awp_cond_t rfl ?_ | refine awp_cond_f rfl ?_ | ((refine awp_cond rfl (fun h => ?_) (fun h => ?_) <;> try simp only [ifs] at h) <;> (try (exfalso; omega))) | refine awp_ret ?_))
        refine awp_loop (fun n : Nat => ⟨[(10, .r (.int .i64 n)), (9, .p 4 0 0), (8, .r (.int .i64 i)), (7, .p 3 0 0), (5, .r (.int .i64 0)), (4, .p 1 0 0), (2, .p 0 0 0), (1, .ro t 1 (k.map eByte))], [(0, .box 24 [.ro u 5 (ps.map eP), .r (.int .i64 root)]), (1, .box 24 [.r (.slice none 0 0), .r (.int .i64 0)]), (2, .ul 52 5 (ps.map uP) []), (3, .box 24 [.s 2 0 ps.length, .r (.int .i64 root)]), (4, .box 52 (eP p))], 5⟩) (fun n => n ≤ p.keys.length ∧ ∀ (m : Nat), m < n → p.leaf = true → p.keys[m]? ≠ some k) (fun n => p.keys.length - n) 0 ?_ ?_ ?_
        · exact ⟨Nat.zero_le _, fun m hm => absurd hm (Nat.not_lt_zero _)⟩
        · (refine emb [0, 1, 2, 3, 4] ?_ ?_ rfl ?_ ?_ ?_ ?_ <;> simp [okM, okO, lk, ren, renL, renNd, by_, hE, eP, renOp] <;> (try omega) <;> (try (intro i hi; first | (rcases i with _ | _ | i; rfl; rfl; (exfalso; omega)) | (rcases i with _ | _ | _ | i; rfl; rfl; rfl; (exfalso; omega)) | (rcases i with _ | _ | _ | _ | i; rfl; rfl; rfl; rfl; (exfalso; omega)) | (rcases i with _ | _ | _ | _ | _ | i; rfl; rfl; rfl; rfl; rfl; (exfalso; omega)) | (rcases i with _ | _ | _ | _ | _ | _ | i; rfl; rfl; rfl; rfl; rfl; rfl; (exfalso; omega)))))
        rintro n ⟨hn, hnom⟩
        by_cases hnl : n < p.keys.length
        · have zn : ((n : Int) < (p.keys.length : Int)) = True := eq_true (by omega)
          cases hlf : p.leaf
          · (repeat' (first | refine awp_seq ?_ | refine awp_block ?_ | refine awp_skip ?_ | refine awp_exit ?_ | ((first | refine rR (fun K kp hK hkp => ?_) | refine rD (id := 20) mixed 8 [0,1,2,3,4,5,6,7] (fun K kp hK hkp => ?_) | refine iG ?_ | refine iD ?_); simp (implicitDefEqProofs := false) (maxSteps := 2000000) (disch := omega) only [go_sem, zn, eP, hlf]; (repeat' (first | (refine hK _ ?_; clear hK hkp kp K) | (with_reducible refine And.intro ?_ ?_) | omega))) | ((first | refine aG (fun h => ?_) (fun h => ?_) | refine aD (fun h => ?_) (fun h => ?_) | refine aX (fun h => ?_) (fun h => ?_)) <;> simp only [h]) | refine awp_cond_t rfl ?_ | refine awp_cond_f rfl ?_ | ((refine awp_cond rfl (fun h => ?_) (fun h => ?_) <;> try simp only [ifs] at h) <;> (try (exfalso; omega))) | refine awp_ret ?_))
            ((first | (refine nextB (i + 1) ?_ ?_ ?_) | (refine nextA (i + 1) ?_ ?_ ?_) | (refine nextE (i + 1) ?_ ?_ ?_)); rotate_left; (· (try dsimp only); (first | omega | (simp only [List.length_drop, List.length_cons, List.length_append]; omega) | (simp; done) | (simp; omega))); (· (refine emb [0, 1, 2, 3] ?_ ?_ rfl ?_ ?_ ?_ ?_ <;> simp [okM, okO, lk, ren, renL, renNd, by_, hE, renOp] <;> (try omega) <;> (try (intro i hi; first | (rcases i with _ | _ | i; rfl; rfl; (exfalso; omega)) | (rcases i with _ | _ | _ | i; rfl; rfl; rfl; (exfalso; omega)) | (rcases i with _ | _ | _ | _ | i; rfl; rfl; rfl; rfl; (exfalso; omega)) | (rcases i with _ | _ | _ | _ | _ | i; rfl; rfl; rfl; rfl; rfl; (exfalso; omega)) | (rcases i with _ | _ | _ | _ | _ | _ | i; rfl; rfl; rfl; rfl; rfl; rfl; (exfalso; omega)))))))
            refine ⟨by omega, fun j p' m hj hp' hl' => ?_⟩
            by_cases he : j = i
            · subst he; rw [hp] at hp'; cases hp'; rw [hlf] at hl'; cases hl'
            · exact hno j p' m (by omega) hp' hl'
          · obtain ⟨x, hx⟩ : ∃ x, p.keys[n]? = some x := ⟨p.keys[n], by simp [hnl]⟩
            cases hne : (x == k)
            · (repeat' (first | refine awp_seq ?_ | refine awp_block ?_ | refine awp_skip ?_ | refine awp_exit ?_ | ((first | refine rR (fun K kp hK hkp => ?_) | refine rD (id := 20) mixed 8 [0,1,2,3,4,5,6,7] (fun K kp hK hkp => ?_) | refine cR (sKy_con _ _ _ _ _) ?_ | refine cD (sKy_con _ _ _ _ _) ?_ | refine iG ?_ | refine iD ?_); simp (implicitDefEqProofs := false) (maxSteps := 2000000) (disch := omega) only [go_sem, zn, eP, hlf, hx, eKy, hne]; (repeat' (first | (refine hK _ ?_; clear hK hkp kp K) | (with_reducible refine And.intro ?_ ?_) | omega))) | ((first | refine aG (fun h => ?_) (fun h => ?_) | refine aD (fun h => ?_) (fun h => ?_) | refine aX (fun h => ?_) (fun h => ?_)) <;> simp only [h]) | refine awp_cond_t rfl ?_ | refine awp_cond_f rfl ?_ | ((refine awp_cond rfl (fun h => ?_) (fun h => ?_) <;> try simp only [ifs] at h) <;> (try (exfalso; omega))) | refine awp_ret ?_))
              ((first | (refine nextB (n + 1) ?_ ?_ ?_) | (refine nextA (n + 1) ?_ ?_ ?_) | (refine nextE (n + 1) ?_ ?_ ?_)); rotate_left; (· (try dsimp only); (first | omega | (simp only [List.length_drop, List.length_cons, List.length_append]; omega) | (simp; done) | (simp; omega))); (· (refine emb [0, 1, 2, 3, 4] ?_ ?_ rfl ?_ ?_ ?_ ?_ <;> simp [okM, okO, lk, ren, renL, renNd, by_, hE, eP, renOp] <;> (try omega) <;> (try (intro i hi; first | (rcases i with _ | _ | i; rfl; rfl; (exfalso; omega)) | (rcases i with _ | _ | _ | i; rfl; rfl; rfl; (exfalso; omega)) | (rcases i with _ | _ | _ | _ | i; rfl; rfl; rfl; rfl; (exfalso; omega)) | (rcases i with _ | _ | _ | _ | _ | i; rfl; rfl; rfl; rfl; rfl; (exfalso; omega)) | (rcases i with _ | _ | _ | _ | _ | _ | i; rfl; rfl; rfl; rfl; rfl; rfl; (exfalso; omega)))))))
              refine ⟨by omega, fun m hm hl' => ?_⟩
              by_cases he : m = n
              · subst he; rw [hx]; intro e; cases e; simp at hne
              · exact hnom m (by omega) hlf
            · have hxk : p.keys[n]? = some k := by rw [hx, show x = k by simpa using hne]
              obtain ⟨hR, hkl⟩ := hA i p n hp hlf hxk
              have hgoal : R.1 = ps.set i (cut p n) := by rw [hR]
              rw [hgoal]
              clear hR hA hno hnom hgoal
              (repeat' (first | refine awp_seq ?_ | refine awp_block ?_ | refine awp_skip ?_ | refine awp_exit ?_ | ((first | refine rR (fun K kp hK hkp => ?_) | refine rD (id := 20) mixed 8 [0,1,2,3,4,5,6,7] (fun K kp hK hkp => ?_) | refine cR (sKy_con _ _ _ _ _) ?_ | refine cD (sKy_con _ _ _ _ _) ?_ | refine iG ?_ | refine iD ?_); simp (implicitDefEqProofs := false) (maxSteps := 2000000) (disch := omega) only [go_sem, zn, eP, hlf, hx, eKy, hne]; (repeat' (first | (refine hK _ ?_; clear hK hkp kp K) | (with_reducible refine And.intro ?_ ?_) | omega))) | ((first | refine aG (fun h => ?_) (fun h => ?_) | refine aD (fun h => ?_) (fun h => ?_) | refine aX (fun h => ?_) (fun h => ?_)) <;> simp only [h]) | refine awp_cond_t rfl ?_ | refine awp_cond_f rfl ?_ | ((refine awp_cond rfl (fun h => ?_) (fun h => ?_) <;> try simp only [ifs] at h) <;> (try (exfalso; omega))) | refine awp_ret ?_))
              (refine AWP.emb (emb_nilB 5 1 30 1 rfl rfl (by simp)) ?_; simp only [List.set_cons_zero, List.set_cons_succ, lk, ↓reduceIte, Nat.reduceAdd])
              (refine AWP.emb (emb_nilB 5 2 3 1 rfl rfl (by simp)) ?_; simp only [List.set_cons_zero, List.set_cons_succ, lk, ↓reduceIte, Nat.reduceAdd])
              refine awp_loop (fun m : Nat => ⟨[(12, .r (.int .i64 m)), (11, .p 5 0 0), (10, .r (.int .i64 n)), (9, .p 4 0 0), (8, .r (.int .i64 i)), (7, .p 3 0 0), (5, .r (.int .i64 0)), (4, .p 1 0 0)], [(0, .box 24 [.ro u 5 (ps.map eP), .r (.int .i64 root)]), (1, .box 24 [.r (.slice none 0 0), .r (.int .i64 0)]), (2, .ul 52 5 (ps.map uP) []), (3, .box 24 [.s 2 0 ps.length, .r (.int .i64 root)]), (4, .box 52 (eP p)), (5, .box 52 [.r (.bool false), .s 6 0 (delX (p.keys.take m) n).length, .s 7 0 (delX (p.kids.take m) n).length, .r (.slice none 0 0), .r (.int .i64 0)]), (6, .lst 30 1 ((delX (p.keys.take m) n).map eKy)), (7, .lst 3 1 ((delX (p.kids.take m) n).map eI))], 8⟩) (fun m => m ≤ p.keys.length) (fun m => p.keys.length - m) 0 ?_ ?_ ?_
              · exact Nat.zero_le _
              · (refine emb [0, 1, 2, 3, 4, 5, 6, 7] ?_ ?_ rfl ?_ ?_ ?_ ?_ <;> simp [okM, okO, lk, ren, renL, renNd, by_, hE, eP, renOp, hlf, List.take_zero, delX_zero, List.length_nil, List.map_nil] <;> (try omega) <;> (try (intro i hi; first | (rcases i with _ | _ | i; rfl; rfl; (exfalso; omega)) | (rcases i with _ | _ | _ | i; rfl; rfl; rfl; (exfalso; omega)) | (rcases i with _ | _ | _ | _ | i; rfl; rfl; rfl; rfl; (exfalso; omega)) | (rcases i with _ | _ | _ | _ | _ | i; rfl; rfl; rfl; rfl; rfl; (exfalso; omega)) | (rcases i with _ | _ | _ | _ | _ | _ | i; rfl; rfl; rfl; rfl; rfl; rfl; (exfalso; omega)))))
              intro m hm
              by_cases hml : m < p.keys.length
              · have zm : ((m : Int) < (p.keys.length : Int)) = True := eq_true (by omega)
                obtain ⟨y, hy⟩ : ∃ y, p.keys[m]? = some y := ⟨p.keys[m], by simp [hml]⟩
                obtain ⟨c, hc⟩ : ∃ c, p.kids[m]? = some c := ⟨_, List.getElem?_eq_getElem (by omega)⟩
                have yc := bytesCopy_con E.G true y (g4 y (List.mem_of_getElem? hy))
                have dk1 := delX_take p.keys n m y hy
                have dk2 := delX_take p.kids n m c hc
                by_cases hmn : m = n
                · rw [if_pos hmn] at dk1 dk2
                  have zb : ((m : Int) != (n : Int)) = false := by simp [hmn]
                  (repeat' (first | refine awp_seq ?_ | refine awp_block ?_ | refine awp_skip ?_ | refine awp_exit ?_ | ((first | refine rR (fun K kp hK hkp => ?_) | refine rX (id := 20) mixed [7] 9 [0,1,2,3,4,5,6,7,8] (fun K kp hK hkp => ?_) | refine cR yc ?_ | refine cD yc ?_ | refine iG ?_ | refine iD ?_); simp (implicitDefEqProofs := false) (maxSteps := 2000000) (disch := omega) only [go_sem, zm, zb, eP]; (repeat' (first | (refine hK _ ?_; clear hK hkp kp K) | (with_reducible refine And.intro ?_ ?_) | omega))) | ((first | refine aG (fun h => ?_) (fun h => ?_) | refine aD (fun h => ?_) (fun h => ?_) | refine aX (fun h => ?_) (fun h => ?_)) <;> simp only [h]) | refine awp_cond_t rfl ?_ | refine awp_cond_f rfl ?_ | ((refine awp_cond rfl (fun h => ?_) (fun h => ?_) <;> try simp only [ifs] at h) <;> (try (exfalso; omega))) | refine awp_ret ?_))
                  ((first | (refine nextB (m + 1) ?_ ?_ ?_) | (refine nextA (m + 1) ?_ ?_ ?_) | (refine nextE (m + 1) ?_ ?_ ?_)); rotate_left; (· (try dsimp only); (first | omega | (simp only [List.length_drop, List.length_cons, List.length_append]; omega) | (simp; done) | (simp; omega))); (· (refine emb [0, 1, 2, 3, 4, 5, 6, 7] ?_ ?_ rfl ?_ ?_ ?_ ?_ <;> simp [okM, okO, lk, ren, renL, renNd, by_, hE, renOp, dk1, dk2, eP] <;> (try omega) <;> (try (intro i hi; first | (rcases i with _ | _ | i; rfl; rfl; (exfalso; omega)) | (rcases i with _ | _ | _ | i; rfl; rfl; rfl; (exfalso; omega)) | (rcases i with _ | _ | _ | _ | i; rfl; rfl; rfl; rfl; (exfalso; omega)) | (rcases i with _ | _ | _ | _ | _ | i; rfl; rfl; rfl; rfl; rfl; (exfalso; omega)) | (rcases i with _ | _ | _ | _ | _ | _ | i; rfl; rfl; rfl; rfl; rfl; rfl; (exfalso; omega)))))))
                  omega
                · rw [if_neg hmn] at dk1 dk2
                  have zb : ((m : Int) != (n : Int)) = true := by rw [bne_iff_ne]; omega
                  have hl1 : (delX (p.keys.take m) n).length ≤ 1048576 := by
                    unfold delX; rw [List.length_append, List.length_take, List.length_drop, List.length_take]; omega
                  have hl2 : (delX (p.kids.take m) n).length ≤ 1048576 := by
                    unfold delX; rw [List.length_append, List.length_take, List.length_drop, List.length_take]; omega
                  (repeat' (first | refine awp_seq ?_ | refine awp_block ?_ | refine awp_skip ?_ | refine awp_exit ?_ | ((first | refine rR (fun K kp hK hkp => ?_) | refine rX (id := 20) mixed [77] 9 [0,1,2,3,4,5,6,7,8] (fun K kp hK hkp => ?_) | refine cR yc ?_ | refine cD yc ?_ | refine iG ?_ | refine iD ?_); simp (implicitDefEqProofs := false) (maxSteps := 2000000) (disch := omega) only [go_sem, zm, zb, hy, hc, eP, eKy, eI, Value.oneCell']; (repeat' (first | (refine hK _ ?_; clear hK hkp kp K) | (with_reducible refine And.intro ?_ ?_) | omega))) | ((first | refine aG (fun h => ?_) (fun h => ?_) | refine aD (fun h => ?_) (fun h => ?_) | refine aX (fun h => ?_) (fun h => ?_)) <;> simp only [h]) | refine awp_cond_t rfl ?_ | refine awp_cond_f rfl ?_ | ((refine awp_cond rfl (fun h => ?_) (fun h => ?_) <;> try simp only [ifs] at h) <;> (try (exfalso; omega))) | refine awp_ret ?_))
                  have e1 : (delX (p.keys.take m) n).length + 1 = (delX (p.keys.take (m + 1)) n).length := by rw [dk1, List.length_append, List.length_singleton]
                  have e2 : (delX (p.kids.take m) n).length + 1 = (delX (p.kids.take (m + 1)) n).length := by rw [dk2, List.length_append, List.length_singleton]
                  have e3 : (delX (p.keys.take m) n).map eKy ++ [[AV.ro true 1 (y.map eByte)]] = (delX (p.keys.take (m + 1)) n).map eKy := by rw [dk1, List.map_append]; rfl
                  have e4 : (delX (p.kids.take m) n).map eI ++ [[AV.r (.int .i64 c)]] = (delX (p.kids.take (m + 1)) n).map eI := by rw [dk2, List.map_append]; rfl
                  rw [e3, e1]
                  refine AWP.emb (st' := ⟨[(12, .r (.int .i64 m)), (11, .p 5 0 0), (10, .r (.int .i64 n)), (9, .p 4 0 0), (8, .r (.int .i64 i)), (7, .p 3 0 0), (5, .r (.int .i64 0)), (4, .p 1 0 0)], [(0, .box 24 [.ro u 5 (ps.map eP), .r (.int .i64 root)]), (1, .box 24 [.r (.slice none 0 0), .r (.int .i64 0)]), (2, .ul 52 5 (ps.map uP) []), (3, .box 24 [.s 2 0 ps.length, .r (.int .i64 root)]), (4, .box 52 (eP p)), (5, .box 52 [.r (.bool false), .s 6 0 (delX (p.keys.take (m + 1)) n).length, .s 7 0 (delX (p.kids.take m) n).length, .r (.slice none 0 0), .r (.int .i64 0)]), (6, .lst 30 1 ((delX (p.keys.take (m + 1)) n).map eKy)), (7, .lst 3 1 ((delX (p.kids.take m) n).map eI))], 8⟩) ?_ ?_
                  · (refine emb [0, 1, 2, 3, 4, 5, 9, 7] ?_ ?_ rfl ?_ ?_ ?_ ?_ <;> simp [okM, okO, lk, ren, renL, renNd, by_, hE, eP, renOp] <;> (try omega) <;> (try (intro i hi; first | (rcases i with _ | _ | i; rfl; rfl; (exfalso; omega)) | (rcases i with _ | _ | _ | i; rfl; rfl; rfl; (exfalso; omega)) | (rcases i with _ | _ | _ | _ | i; rfl; rfl; rfl; rfl; (exfalso; omega)) | (rcases i with _ | _ | _ | _ | _ | i; rfl; rfl; rfl; rfl; rfl; (exfalso; omega)) | (rcases i with _ | _ | _ | _ | _ | _ | i; rfl; rfl; rfl; rfl; rfl; rfl; (exfalso; omega)))))
                  clear cc oc hR hR0 q1 q2 q3 e1 e3 yc dk1
                  (repeat' (first | refine awp_seq ?_ | refine awp_block ?_ | refine awp_skip ?_ | refine awp_exit ?_ | ((first | refine rR (fun K kp hK hkp => ?_) | refine rX (id := 20) mixed [7] 9 [0,1,2,3,4,5,6,7,8] (fun K kp hK hkp => ?_) | refine iG ?_ | refine iD ?_); simp (implicitDefEqProofs := false) (maxSteps := 2000000) (disch := omega) only [go_sem, hc, eP, eI, Value.oneCell']; (repeat' (first | (refine hK _ ?_; clear hK hkp kp K) | (with_reducible refine And.intro ?_ ?_) | omega))) | ((first | refine aG (fun h => ?_) (fun h => ?_) | refine aD (fun h => ?_) (fun h => ?_) | refine aX (fun h => ?_) (fun h => ?_)) <;> simp only [h]) | refine awp_cond_t rfl ?_ | refine awp_cond_f rfl ?_ | ((refine awp_cond rfl (fun h => ?_) (fun h => ?_) <;> try simp only [ifs] at h) <;> (try (exfalso; omega))) | refine awp_ret ?_))
                  rw [e4, e2]
                  ((first | (refine nextB (m + 1) ?_ ?_ ?_) | (refine nextA (m + 1) ?_ ?_ ?_) | (refine nextE (m + 1) ?_ ?_ ?_)); rotate_left; (· (try dsimp only); (first | omega | (simp only [List.length_drop, List.length_cons, List.length_append]; omega) | (simp; done) | (simp; omega))); (· (refine emb [0, 1, 2, 3, 4, 5, 6, 9] ?_ ?_ rfl ?_ ?_ ?_ ?_ <;> simp [okM, okO, lk, ren, renL, renNd, by_, hE, renOp, eP] <;> (try omega) <;> (try (intro i hi; first | (rcases i with _ | _ | i; rfl; rfl; (exfalso; omega)) | (rcases i with _ | _ | _ | i; rfl; rfl; rfl; (exfalso; omega)) | (rcases i with _ | _ | _ | _ | i; rfl; rfl; rfl; rfl; (exfalso; omega)) | (rcases i with _ | _ | _ | _ | _ | i; rfl; rfl; rfl; rfl; rfl; (exfalso; omega)) | (rcases i with _ | _ | _ | _ | _ | _ | i; rfl; rfl; rfl; rfl; rfl; rfl; (exfalso; omega)))))))
                  omega
              · obtain rfl : m = p.keys.length := by omega
                have zm : ((p.keys.length : Int) < (p.keys.length : Int)) = False := eq_false (by omega)
                have tk : p.kids.take p.keys.length = p.kids := List.take_of_length_le (by omega)
                rw [List.take_length, tk]
                have hpu : (ps.map uP)[i]? = some (uP p) := by rw [List.getElem?_map, hp]; rfl
                refine awp_seq ?_
                refine awp_seq ?_
                (refine rR (fun K kp hK hkp => ?_); simp (implicitDefEqProofs := false) (maxSteps := 2000000) (disch := omega) only [go_sem, zm, eP]; (repeat' (first | (refine hK _ ?_; clear hK hkp kp K) | (with_reducible refine And.intro ?_ ?_) | omega)))
                refine awp_cond_f rfl ?_
                refine awp_exit ?_
                refine awp_seq ?_
                (refine rR (fun K kp hK hkp => ?_); simp (implicitDefEqProofs := false) (maxSteps := 2000000) (disch := omega) only [go_sem, zi, hp, uP]; (repeat' (first | (refine hK _ ?_; clear hK hkp kp K) | (with_reducible refine And.intro ?_ ?_) | omega)))
                refine awp_seq ?_
                have hsx : ∀ e, ((ps.map uP).set i e)[i]? = some e := fun e => by rw [List.getElem?_set_self (by simpa using hlt)]
                (refine rR (fun K kp hK hkp => ?_); simp (implicitDefEqProofs := false) (maxSteps := 2000000) (disch := omega) only [go_sem, zi, hp, uP, hsx, List.set_set, ne_eq, reduceCtorEq, not_false_eq_true, Value.oneCell']; (repeat' (first | (refine hK _ ?_; clear hK hkp kp K) | (with_reducible refine And.intro ?_ ?_) | omega)))
                (refine AWP.emb (emb_toU (T := ?z1T) (k := ?z1k) (els := ?z1e) 6 ?z1h) ?z1g; (case z1h => rfl); simp only [setNd])
                (refine AWP.emb (emb_toU (T := ?z2T) (k := ?z2k) (els := ?z2e) 7 ?z2h) ?z2g; (case z2h => rfl); simp only [setNd])
                have hl1 : (delX p.keys n).length = p.keys.length - 1 := delX_len hnl
                have hl2 : (delX p.kids n).length = p.keys.length - 1 := by rw [delX_len (by omega), hkl]
                have htk1 : ((delX p.keys n).map eKy).take (p.keys.length - 1) = (delX p.keys n).map eKy := List.take_of_length_le (by simp [hl1])
                have htk2 : ((delX p.kids n).map eI).take (p.keys.length - 1) = (delX p.kids n).map eI := List.take_of_length_le (by simp [hl2])
                simp only [hl1, hl2]
                (refine AWP.emb (emb_close (T := ?z3T) (k := ?z3k) (els := ?z3e) (T' := ?z3T1) (k' := ?z3k1) (els' := ?z3e1) (op := ?z3op) (e := ?z3ee) (m := ?z3m) (lo := ?z3lo) (len := ?z3len) 2 i 1 ?z3h ?z3ho ?z3hm ?z3hn ?z3hl ?z3he ?z3hj) ?z3g; (case z3h => rfl); (case z3he => exact hsx _); (case z3ho => (simp only [lk2, and_self, if_true, ↓reduceIte, List.length_map, hl1, htk1, List.set_set, true_and, Nat.reduceLeDiff, Nat.reduceAdd, Nat.lt_irrefl, and_false]; rfl)); (case z3hm => rfl); (case z3hn => simp); (case z3hl => simp [List.length_map, hl1, htk1, List.set_set, true_and, Nat.reduceLeDiff, Nat.reduceAdd, Nat.lt_irrefl, and_false]); (case z3hj => simp [List.length_map, hl1, htk1, List.set_set, true_and, Nat.reduceLeDiff, Nat.reduceAdd, Nat.lt_irrefl, and_false]); simp only [rm, rm2, and_self, Nat.le_refl, Nat.zero_add, Nat.lt_add_one, Nat.reduceLT, Nat.reduceEqDiff, ↓reduceIte, if_true, List.drop_zero, List.set_cons_zero, List.set_cons_succ, List.length_map, hl1, htk1, List.set_set, true_and, Nat.reduceLeDiff, Nat.reduceAdd, Nat.lt_irrefl, and_false])
                (refine AWP.emb (emb_close (T := ?z4T) (k := ?z4k) (els := ?z4e) (T' := ?z4T1) (k' := ?z4k1) (els' := ?z4e1) (op := ?z4op) (e := ?z4ee) (m := ?z4m) (lo := ?z4lo) (len := ?z4len) 2 i 2 ?z4h ?z4ho ?z4hm ?z4hn ?z4hl ?z4he ?z4hj) ?z4g; (case z4h => rfl); (case z4he => exact hsx _); (case z4ho => (simp only [lk2, and_self, if_true, ↓reduceIte, List.length_map, hl2, htk2, List.set_set, true_and, Nat.reduceLeDiff, Nat.reduceAdd, Nat.lt_irrefl, and_false]; rfl)); (case z4hm => rfl); (case z4hn => simp); (case z4hl => simp [List.length_map, hl2, htk2, List.set_set, true_and, Nat.reduceLeDiff, Nat.reduceAdd, Nat.lt_irrefl, and_false]); (case z4hj => simp [List.length_map, hl2, htk2, List.set_set, true_and, Nat.reduceLeDiff, Nat.reduceAdd, Nat.lt_irrefl, and_false]); simp only [rm, rm2, and_self, Nat.le_refl, Nat.zero_add, Nat.lt_add_one, Nat.reduceLT, Nat.reduceEqDiff, ↓reduceIte, if_true, List.drop_zero, List.set_cons_zero, List.set_cons_succ, List.length_map, hl2, htk2, List.set_set, true_and, Nat.reduceLeDiff, Nat.reduceAdd, Nat.lt_irrefl, and_false])
                have hcut : (ps.map uP).set i (uP (cut p n)) = (ps.set i (cut p n)).map uP := by rw [List.map_set]
                change AWP _ _ _ _ ⟨_, (2, .ul _ _ (List.set _ _ (uP (cut p n))) _) :: _, _⟩ _
                rw [hcut]
                have hL : (ps.set i (cut p n)).length = ps.length := List.length_set
                generalize ps.set i (cut p n) = qs at *
                (refine AWP.emb (emb_toL (T := ?z5T) (k := ?z5k) (els := ?z5e) 2 ?z5h) ?z5g; (case z5h => rfl); simp only [setNd, dfzR_uP])
                rw [← eP_f]
                (repeat' (first | refine awp_seq ?_ | refine awp_block ?_ | refine awp_skip ?_ | refine awp_exit ?_ | ((first | refine rR (fun K kp hK hkp => ?_) | refine rD (id := 20) mixed 8 [0,1,2,3,4,5,6,7] (fun K kp hK hkp => ?_) | refine iG ?_ | refine iD ?_); simp (implicitDefEqProofs := false) (maxSteps := 2000000) (disch := omega) only [go_sem]; (repeat' (first | (refine hK _ ?_; clear hK hkp kp K) | (with_reducible refine And.intro ?_ ?_) | omega))) | ((first | refine aG (fun h => ?_) (fun h => ?_) | refine aD (fun h => ?_) (fun h => ?_) | refine aX (fun h => ?_) (fun h => ?_)) <;> simp only [h]) | refine awp_cond_t rfl ?_ | refine awp_cond_f rfl ?_ | ((refine awp_cond rfl (fun h => ?_) (fun h => ?_) <;> try simp only [ifs] at h) <;> (try (exfalso; omega))) | refine awp_ret ?_))
                (refine retA_is (by (simp (implicitDefEqProofs := false) (maxSteps := 2000000) (disch := omega) only [go_sem, Go.Proofs.Try.results23, hL]); rfl) ?_; refine embS_frz (by simp only [oneA]; simp (implicitDefEqProofs := false) (maxSteps := 2000000) (disch := omega) only [go_sem, hL]; rfl) ?_; refine (embV_nil hE (by simp) ?_).s; simp [oneA, ren, renL, hL])
                exact List.take_of_length_le (by simp [hL])
        · obtain rfl : n = p.keys.length := by omega
          have zn : ((p.keys.length : Int) < (p.keys.length : Int)) = False := eq_false (by omega)
          (repeat' (first | refine awp_seq ?_ | refine awp_block ?_ | refine awp_skip ?_ | refine awp_exit ?_ | ((first | refine rR (fun K kp hK hkp => ?_) | refine rD (id := 20) mixed 8 [0,1,2,3,4,5,6,7] (fun K kp hK hkp => ?_) | refine iG ?_ | refine iD ?_); simp (implicitDefEqProofs := false) (maxSteps := 2000000) (disch := omega) only [go_sem, zn, eP]; (repeat' (first | (refine hK _ ?_; clear hK hkp kp K) | (with_reducible refine And.intro ?_ ?_) | omega))) | ((first | refine aG (fun h => ?_) (fun h => ?_) | refine aD (fun h => ?_) (fun h => ?_) | refine aX (fun h => ?_) (fun h => ?_)) <;> simp only [h]) | refine awp_cond_t rfl ?_ | refine awp_cond_f rfl ?_ | ((refine awp_cond rfl (fun h => ?_) (fun h => ?_) <;> try simp only [ifs] at h) <;> (try (exfalso; omega))) | refine awp_ret ?_))
          ((first | (refine nextB (i + 1) ?_ ?_ ?_) | (refine nextA (i + 1) ?_ ?_ ?_) | (refine nextE (i + 1) ?_ ?_ ?_)); rotate_left; (· (try dsimp only); (first | omega | (simp only [List.length_drop, List.length_cons, List.length_append]; omega) | (simp; done) | (simp; omega))); (· (refine emb [0, 1, 2, 3] ?_ ?_ rfl ?_ ?_ ?_ ?_ <;> simp [okM, okO, lk, ren, renL, renNd, by_, hE, renOp] <;> (try omega) <;> (try (intro i hi; first | (rcases i with _ | _ | i; rfl; rfl; (exfalso; omega)) | (rcases i with _ | _ | _ | i; rfl; rfl; rfl; (exfalso; omega)) | (rcases i with _ | _ | _ | _ | i; rfl; rfl; rfl; rfl; (exfalso; omega)) | (rcases i with _ | _ | _ | _ | _ | i; rfl; rfl; rfl; rfl; rfl; (exfalso; omega)) | (rcases i with _ | _ | _ | _ | _ | _ | i; rfl; rfl; rfl; rfl; rfl; rfl; (exfalso; omega)))))))
          refine ⟨by omega, fun j p' m hj hp' hl' => ?_⟩
          by_cases he : j = i
          · subst he; rw [hp] at hp'; cases hp'
            intro hm
            exact hnom m (List.getElem?_eq_some_iff.1 hm).1 hl' hm
          · exact hno j p' m (by omega) hp' hl'
      · obtain rfl : i = ps.length := by omega
        exact absurd q3 (hno i0 p0 n0 (List.getElem?_eq_some_iff.1 q1).1 q1 q2)
    · have hB := hB (fun i p n q1 q2 q3 => hex ⟨i, p, n, q1, q2, q3⟩)
      subst hB
      refine Con.res (y := .tup [.agg [.r (.slice none 0 0), .r (.int .i64 0)], .r (.int .i64 8)]) ?_ (fun w z th v hr => rep_treenil hr)
      refine con_of_awp Go.Proofs.Try.func23 rfl (by kernel_rfl) (of_decide_eq_true (by kernel_rfl)) ?_; intro E hG hE; subst hG; simp only [ent]
      (repeat' (first | refine awp_seq ?_ | refine awp_block ?_ | refine awp_skip ?_ | refine awp_exit ?_ | ((first | refine rR (fun K kp hK hkp => ?_) | refine rD (id := 20) mixed 8 [0,1,2,3,4,5,6,7] (fun K kp hK hkp => ?_) | refine cR cc ?_ | refine cD cc ?_ | refine cR oc ?_ | refine cD oc ?_ | refine iG ?_ | refine iD ?_); simp (implicitDefEqProofs := false) (maxSteps := 2000000) (disch := omega) only [go_sem, bne_self_eq_false]; (repeat' (first | (refine hK _ ?_; clear hK hkp kp K) | (with_reducible refine And.intro ?_ ?_) | omega))) | ((first | refine aG (fun h => ?_) (fun h => ?_) | refine aD (fun h => ?_) (fun h => ?_) | refine aX (fun h => ?_) (fun h => ?_)) <;> simp only [h]) | refine awp_cond_t rfl ?_ | refine awp_cond_f rfl ?_ | ((refine awp_cond rfl (fun h => ?_) (fun h => ?_) <;> try simp only [ifs] at h) <;> (try (exfalso; omega))) | refine awp_ret ?_))
      refine awp_loop (fun i : Nat => ⟨[(8, .r (.int .i64 i)), (5, .r (.int .i64 0)), (4, .p 1 0 0), (2, .p 0 0 0), (1, .ro t 1 (k.map eByte))], [(0, .box 24 [.ro u 5 (ps.map eP), .r (.int .i64 root)]), (1, .box 24 [.r (.slice none 0 0), .r (.int .i64 0)])], 2⟩) (fun i => i ≤ ps.length) (fun i => ps.length - i) 0 ?_ ?_ ?_
      · exact Nat.zero_le _
      · (refine emb [0, 1] ?_ ?_ rfl ?_ ?_ ?_ ?_ <;> simp [okM, okO, lk, ren, renL, renNd, by_, hE] <;> (try omega) <;> (try (intro i hi; first | (rcases i with _ | _ | i; rfl; rfl; (exfalso; omega)) | (rcases i with _ | _ | _ | i; rfl; rfl; rfl; (exfalso; omega)) | (rcases i with _ | _ | _ | _ | i; rfl; rfl; rfl; rfl; (exfalso; omega)) | (rcases i with _ | _ | _ | _ | _ | i; rfl; rfl; rfl; rfl; rfl; (exfalso; omega)) | (rcases i with _ | _ | _ | _ | _ | _ | i; rfl; rfl; rfl; rfl; rfl; rfl; (exfalso; omega)))))
      intro i hi
      by_cases hlt : i < ps.length
      · have zi : ((i : Int) < (ps.length : Int)) = True := eq_true (by omega)
        obtain ⟨p, hp⟩ : ∃ p, ps[i]? = some p := ⟨ps[i], by simp [hlt]⟩
        obtain ⟨g1, g2, g3, g4⟩ := ho.2 p (List.mem_of_getElem? hp)
        (repeat' (first | refine awp_seq ?_ | refine awp_block ?_ | refine awp_skip ?_ | refine awp_exit ?_ | ((first | refine rR (fun K kp hK hkp => ?_) | refine rD (id := 20) mixed 8 [0,1,2,3,4,5,6,7] (fun K kp hK hkp => ?_) | refine iG ?_ | refine iD ?_); simp (implicitDefEqProofs := false) (maxSteps := 2000000) (disch := omega) only [go_sem, zi, hp, eP]; (repeat' (first | (refine hK _ ?_; clear hK hkp kp K) | (with_reducible refine And.intro ?_ ?_) | omega))) | ((first | refine aG (fun h => ?_) (fun h => ?_) | refine aD (fun h => ?_) (fun h => ?_) | refine aX (fun h => ?_) (fun h => ?_)) <;> simp only [h]) | refine awp_cond_t rfl ?_ | refine awp_cond_f rfl ?_ | ((refine awp_cond rfl (fun h => ?_) (fun h => ?_) <;> try simp only [ifs] at h) <;> (try (exfalso; omega))) | refine awp_ret ?_))
        refine awp_loop (fun n : Nat => ⟨[(10, .r (.int .i64 n)), (9, .p 2 0 0), (8, .r (.int .i64 i)), (5, .r (.int .i64 0)), (4, .p 1 0 0), (2, .p 0 0 0), (1, .ro t 1 (k.map eByte))], [(0, .box 24 [.ro u 5 (ps.map eP), .r (.int .i64 root)]), (1, .box 24 [.r (.slice none 0 0), .r (.int .i64 0)]), (2, .box 52 (eP p))], 3⟩) (fun n => n ≤ p.keys.length) (fun n => p.keys.length - n) 0 ?_ ?_ ?_
        · exact Nat.zero_le _
        · (refine emb [0, 1, 2] ?_ ?_ rfl ?_ ?_ ?_ ?_ <;> simp [okM, okO, lk, ren, renL, renNd, by_, hE, eP] <;> (try omega) <;> (try (intro i hi; first | (rcases i with _ | _ | i; rfl; rfl; (exfalso; omega)) | (rcases i with _ | _ | _ | i; rfl; rfl; rfl; (exfalso; omega)) | (rcases i with _ | _ | _ | _ | i; rfl; rfl; rfl; rfl; (exfalso; omega)) | (rcases i with _ | _ | _ | _ | _ | i; rfl; rfl; rfl; rfl; rfl; (exfalso; omega)) | (rcases i with _ | _ | _ | _ | _ | _ | i; rfl; rfl; rfl; rfl; rfl; rfl; (exfalso; omega)))))
        intro n hn
        by_cases hnl : n < p.keys.length
        · have zn : ((n : Int) < (p.keys.length : Int)) = True := eq_true (by omega)
          cases hlf : p.leaf
          · (repeat' (first | refine awp_seq ?_ | refine awp_block ?_ | refine awp_skip ?_ | refine awp_exit ?_ | ((first | refine rR (fun K kp hK hkp => ?_) | refine rD (id := 20) mixed 8 [0,1,2,3,4,5,6,7] (fun K kp hK hkp => ?_) | refine iG ?_ | refine iD ?_); simp (implicitDefEqProofs := false) (maxSteps := 2000000) (disch := omega) only [go_sem, zn, eP, hlf]; (repeat' (first | (refine hK _ ?_; clear hK hkp kp K) | (with_reducible refine And.intro ?_ ?_) | omega))) | ((first | refine aG (fun h => ?_) (fun h => ?_) | refine aD (fun h => ?_) (fun h => ?_) | refine aX (fun h => ?_) (fun h => ?_)) <;> simp only [h]) | refine awp_cond_t rfl ?_ | refine awp_cond_f rfl ?_ | ((refine awp_cond rfl (fun h => ?_) (fun h => ?_) <;> try simp only [ifs] at h) <;> (try (exfalso; omega))) | refine awp_ret ?_))
            ((first | (refine nextB (i + 1) ?_ ?_ ?_) | (refine nextA (i + 1) ?_ ?_ ?_) | (refine nextE (i + 1) ?_ ?_ ?_)); rotate_left; (· (try dsimp only); (first | omega | (simp only [List.length_drop, List.length_cons, List.length_append]; omega) | (simp; done) | (simp; omega))); (· (refine emb [0, 1] ?_ ?_ rfl ?_ ?_ ?_ ?_ <;> simp [okM, okO, lk, ren, renL, renNd, by_, hE] <;> (try omega) <;> (try (intro i hi; first | (rcases i with _ | _ | i; rfl; rfl; (exfalso; omega)) | (rcases i with _ | _ | _ | i; rfl; rfl; rfl; (exfalso; omega)) | (rcases i with _ | _ | _ | _ | i; rfl; rfl; rfl; rfl; (exfalso; omega)) | (rcases i with _ | _ | _ | _ | _ | i; rfl; rfl; rfl; rfl; rfl; (exfalso; omega)) | (rcases i with _ | _ | _ | _ | _ | _ | i; rfl; rfl; rfl; rfl; rfl; rfl; (exfalso; omega)))))))
            omega
          · obtain ⟨x, hx⟩ : ∃ x, p.keys[n]? = some x := ⟨p.keys[n], by simp [hnl]⟩
            have hne : (x == k) = false := by
              rw [beq_eq_false_iff_ne]; rintro rfl
              exact hex ⟨i, p, n, hp, hlf, hx⟩
            (repeat' (first | refine awp_seq ?_ | refine awp_block ?_ | refine awp_skip ?_ | refine awp_exit ?_ | ((first | refine rR (fun K kp hK hkp => ?_) | refine rD (id := 20) mixed 8 [0,1,2,3,4,5,6,7] (fun K kp hK hkp => ?_) | refine cR (sKy_con _ _ _ _ _) ?_ | refine cD (sKy_con _ _ _ _ _) ?_ | refine iG ?_ | refine iD ?_); simp (implicitDefEqProofs := false) (maxSteps := 2000000) (disch := omega) only [go_sem, zn, eP, hlf, hx, eKy, hne]; (repeat' (first | (refine hK _ ?_; clear hK hkp kp K) | (with_reducible refine And.intro ?_ ?_) | omega))) | ((first | refine aG (fun h => ?_) (fun h => ?_) | refine aD (fun h => ?_) (fun h => ?_) | refine aX (fun h => ?_) (fun h => ?_)) <;> simp only [h]) | refine awp_cond_t rfl ?_ | refine awp_cond_f rfl ?_ | ((refine awp_cond rfl (fun h => ?_) (fun h => ?_) <;> try simp only [ifs] at h) <;> (try (exfalso; omega))) | refine awp_ret ?_))
            ((first | (refine nextB (n + 1) ?_ ?_ ?_) | (refine nextA (n + 1) ?_ ?_ ?_) | (refine nextE (n + 1) ?_ ?_ ?_)); rotate_left; (· (try dsimp only); (first | omega | (simp only [List.length_drop, List.length_cons, List.length_append]; omega) | (simp; done) | (simp; omega))); (· (refine emb [0, 1, 2] ?_ ?_ rfl ?_ ?_ ?_ ?_ <;> simp [okM, okO, lk, ren, renL, renNd, by_, hE, eP] <;> (try omega) <;> (try (intro i hi; first | (rcases i with _ | _ | i; rfl; rfl; (exfalso; omega)) | (rcases i with _ | _ | _ | i; rfl; rfl; rfl; (exfalso; omega)) | (rcases i with _ | _ | _ | _ | i; rfl; rfl; rfl; rfl; (exfalso; omega)) | (rcases i with _ | _ | _ | _ | _ | i; rfl; rfl; rfl; rfl; rfl; (exfalso; omega)) | (rcases i with _ | _ | _ | _ | _ | _ | i; rfl; rfl; rfl; rfl; rfl; rfl; (exfalso; omega)))))))
            omega
        · obtain rfl : n = p.keys.length := by omega
          have zn : ((p.keys.length : Int) < (p.keys.length : Int)) = False := eq_false (by omega)
          (repeat' (first | refine awp_seq ?_ | refine awp_block ?_ | refine awp_skip ?_ | refine awp_exit ?_ | ((first | refine rR (fun K kp hK hkp => ?_) | refine rD (id := 20) mixed 8 [0,1,2,3,4,5,6,7] (fun K kp hK hkp => ?_) | refine iG ?_ | refine iD ?_); simp (implicitDefEqProofs := false) (maxSteps := 2000000) (disch := omega) only [go_sem, zn, eP]; (repeat' (first | (refine hK _ ?_; clear hK hkp kp K) | (with_reducible refine And.intro ?_ ?_) | omega))) | ((first | refine aG (fun h => ?_) (fun h => ?_) | refine aD (fun h => ?_) (fun h => ?_) | refine aX (fun h => ?_) (fun h => ?_)) <;> simp only [h]) | refine awp_cond_t rfl ?_ | refine awp_cond_f rfl ?_ | ((refine awp_cond rfl (fun h => ?_) (fun h => ?_) <;> try simp only [ifs] at h) <;> (try (exfalso; omega))) | refine awp_ret ?_))
          ((first | (refine nextB (i + 1) ?_ ?_ ?_) | (refine nextA (i + 1) ?_ ?_ ?_) | (refine nextE (i + 1) ?_ ?_ ?_)); rotate_left; (· (try dsimp only); (first | omega | (simp only [List.length_drop, List.length_cons, List.length_append]; omega) | (simp; done) | (simp; omega))); (· (refine emb [0, 1] ?_ ?_ rfl ?_ ?_ ?_ ?_ <;> simp [okM, okO, lk, ren, renL, renNd, by_, hE] <;> (try omega) <;> (try (intro i hi; first | (rcases i with _ | _ | i; rfl; rfl; (exfalso; omega)) | (rcases i with _ | _ | _ | i; rfl; rfl; rfl; (exfalso; omega)) | (rcases i with _ | _ | _ | _ | i; rfl; rfl; rfl; rfl; (exfalso; omega)) | (rcases i with _ | _ | _ | _ | _ | i; rfl; rfl; rfl; rfl; rfl; (exfalso; omega)) | (rcases i with _ | _ | _ | _ | _ | _ | i; rfl; rfl; rfl; rfl; rfl; rfl; (exfalso; omega)))))))
          omega
      · obtain rfl : i = ps.length := by omega
        (repeat' (first | refine awp_seq ?_ | refine awp_block ?_ | refine awp_skip ?_ | refine awp_exit ?_ | ((first | refine rR (fun K kp hK hkp => ?_) | refine rD (id := 20) mixed 8 [0,1,2,3,4,5,6,7] (fun K kp hK hkp => ?_) | refine iG ?_ | refine iD ?_); simp (implicitDefEqProofs := false) (maxSteps := 2000000) (disch := omega) only [go_sem]; (repeat' (first | (refine hK _ ?_; clear hK hkp kp K) | (with_reducible refine And.intro ?_ ?_) | omega))) | ((first | refine aG (fun h => ?_) (fun h => ?_) | refine aD (fun h => ?_) (fun h => ?_) | refine aX (fun h => ?_) (fun h => ?_)) <;> simp only [h]) | refine awp_cond_t rfl ?_ | refine awp_cond_f rfl ?_ | ((refine awp_cond rfl (fun h => ?_) (fun h => ?_) <;> try simp only [ifs] at h) <;> (try (exfalso; omega))) | refine awp_ret ?_))
        (refine retA_is (by (simp (implicitDefEqProofs := false) (maxSteps := 2000000) (disch := omega) only [go_sem, Go.Proofs.Try.results23]); rfl) ?_; refine eN hE ?_; simp [oneA, ren, renL])
  · rw [h1 h0, delA]
    have z0 : (askM ps root k != 0) = true := by simp [h0]
    refine Con.res (y := .tup [.agg [.r (.slice none 0 0), .r (.int .i64 0)], .r (.int .i64 (askM ps root k))]) ?_ (fun w z th v hr => rep_treenil hr)
    refine con_of_awp Go.Proofs.Try.func23 rfl (by kernel_rfl) (of_decide_eq_true (by kernel_rfl)) ?_; intro E hG hE; subst hG; simp only [ent]
    (repeat' (first | refine awp_seq ?_ | refine awp_block ?_ | refine awp_skip ?_ | refine awp_exit ?_ | ((first | refine rR (fun K kp hK hkp => ?_) | refine rD (id := 20) mixed 8 [0,1,2,3,4,5,6,7] (fun K kp hK hkp => ?_) | refine cR cc ?_ | refine cD cc ?_ | refine iG ?_ | refine iD ?_); simp (implicitDefEqProofs := false) (maxSteps := 2000000) (disch := omega) only [go_sem, z0]; (repeat' (first | (refine hK _ ?_; clear hK hkp kp K) | (with_reducible refine And.intro ?_ ?_) | omega))) | ((first | refine aG (fun h => ?_) (fun h => ?_) | refine aD (fun h => ?_) (fun h => ?_) | refine aX (fun h => ?_) (fun h => ?_)) <;> simp only [h]) | refine awp_cond_t rfl ?_ | refine awp_cond_f rfl ?_ | ((refine awp_cond rfl (fun h => ?_) (fun h => ?_) <;> try simp only [ifs] at h) <;> (try (exfalso; omega))) | refine awp_ret ?_))
    (refine retA_is (by (simp (implicitDefEqProofs := false) (maxSteps := 2000000) (disch := omega) only [go_sem, Go.Proofs.Try.results23, h0]); rfl) ?_; refine eN hE ?_; simp [oneA, ren, renL, h0])
end Go.AM
/- Deleting: both do the same (plain law); the law TreeDeletes. -/
namespace Go.AM
open Go Go.RowKit
attribute [local irreducible] AWP retA
theorem lvl_of_cat {ps : List PG} : ∀ (d : Nat) (l : List Nat) {x : Nat}, x ∈ cat ps d l → ∃ j, j ≤ d ∧ x ∈ lvl ps j l
  | 0, l, x, h => ⟨0, Nat.le_refl _, h⟩
  | d + 1, l, x, h => by
    rcases List.mem_append.1 h with h | h
    · exact ⟨0, Nat.zero_le _, h⟩
    · obtain ⟨j, hj, h⟩ := lvl_of_cat d _ h
      exact ⟨j + 1, by omega, h⟩
/-- Every page stands in the tree. -/
theorem Trd.cat {ps : List PG} {r d : Nat} (h : Trd ps r d) {i : Nat} (hi : i < ps.length) : i ∈ cat ps d [r] := by
  have hlt : ∀ x ∈ AM.cat ps d [r], x < ps.length := cat_mem h.kin d [r] (by intro x hx; simp at hx; subst hx; exact h.rl)
  exact nodup_full h.tr.once h.tr.all hlt i hi
theorem lvl_inner {ps : List PG} : ∀ (d i : Nat) (low high : Ky), Good ps d i low high → ∀ j, j < d → ∀ x ∈ lvl ps j [i], (pg ps x).leaf = false
  | 0, i, low, high, h, j, hj, x, hx => by omega
  | d + 1, i, low, high, h, 0, hj, x, hx => by
    simp [lvl] at hx; subst hx; exact h.1
  | d + 1, i, low, high, h, j + 1, hj, x, hx => by
    rw [lvl_one] at hx
    obtain ⟨m, kid, hm, hx⟩ := lvl_mem j hx
    exact lvl_inner d kid _ _ (h.2.2.2 m kid hm) j (by omega) x hx
theorem Trd.leafIn {ps : List PG} {r d : Nat} (h : Trd ps r d) {i : Nat} (hi : i < ps.length) (hl : (pg ps i).leaf = true) : i ∈ lvl ps d [r] := by
  obtain ⟨j, hj, hx⟩ := lvl_of_cat d [r] (h.cat hi)
  rcases Nat.lt_or_ge j d with hlt | hge
  · have := lvl_inner d r _ _ h.good j hlt i hx
    rw [hl] at this; cases this
  · obtain rfl : j = d := by omega
    exact hx
/-- A key stands once in the leaves. -/
theorem Trd.one {ps : List PG} {r d : Nat} (h : Trd ps r d) (k : Ky) {i n : Nat} {p : PG} (hi : ps[i]? = some p) (hl : p.leaf = true) (hk : p.keys[n]? = some k) : i = leafF ps k d r ∧ n = placeM (pg ps (leafF ps k d r)) k := by
  obtain ⟨A, B, e, hA, hB, lo, hi', hgl, _⟩ := leaf_split h.ok k d r [] [] h.good (.inl rfl)
  have hpi := pg_some hi
  have hin := h.leafIn (List.getElem?_eq_some_iff.1 hi).1 (by rw [hpi]; exact hl)
  have hmem : k ∈ (pg ps i).keys := by rw [hpi]; exact List.mem_of_getElem? hk
  rw [e] at hin
  have hix : i = leafF ps k d r := by
    rcases List.mem_append.1 hin with hin | hin
    · exact absurd rfl (ltK_ne (hA i hin k hmem))
    · rcases List.mem_cons.1 hin with hin | hin
      · exact hin
      · exact absurd rfl (ltK_ne (hB i hin k hmem))
  refine ⟨hix, ?_⟩
  rw [← hix, hpi]
  have hpl : placeM p k = lowB k p.keys := if_neg fun q => by rw [hl] at q; cases q.1
  rw [hpl]
  have hs : SrtK p.keys := srt_page (h.ok _ _ hi)
  exact lowB_eq k (Nat.le_of_lt (List.getElem?_eq_some_iff.1 hk).1) (fun m x hm hx => hs m n x k hm hx hk) (fun x hx => by rw [hk] at hx; cases hx; exact ltK_irrefl _)
noncomputable def delR (ps : List PG) (root : Int) (k : Ky) (r d : Nat) : List PG × Int × Int :=
  if (pg ps (leafF ps k d r)).keys[placeM (pg ps (leafF ps k d r)) k]? = some k then (ps.set (leafF ps k d r) (cut (pg ps (leafF ps k d r)) (placeM (pg ps (leafF ps k d r)) k)), root, 0) else ([], 0, 8)
theorem dels_same (ps : List PG) (root : Int) (k : Ky) : ∃ R : List PG × Int × Int, (askM ps root k ≠ 0 → R = ([], 0, askM ps root k)) ∧ (askM ps root k = 0 → ∃ r d : Nat, root = r ∧ Trd ps r d ∧ R = delR ps root k r d ∧ ∀ r' d' : Nat, root = r' → Trd ps r' d' → R = delR ps root k r' d') := by
  by_cases h0 : askM ps root k = 0
  · obtain ⟨r, d, rfl, h⟩ := trd_of (ask_chk h0)
    refine ⟨delR ps r k r d, fun e => absurd h0 e, fun _ => ⟨r, d, rfl, h, rfl, fun r' d' e h' => ?_⟩⟩
    obtain rfl : r = r' := by omega
    obtain rfl := good_deep (kids_ne h.ok) d r _ _ _ _ d' h.good h'.good
    rfl
  · exact ⟨_, fun _ => rfl, fun e => absurd e h0⟩
theorem okPs2_cut {ps : List PG} (ho : okPs2 ps) {x i : Nat} {p : PG} (hp : ps[x]? = some p) : okPs2 (ps.set x (cut p i)) := by
  obtain ⟨g1, g2, g3, g4⟩ := ho.2 p (List.mem_of_getElem? hp)
  have hd : ∀ {α : Type} (l : List α), (delX l i).length ≤ l.length := fun l => by
    unfold delX; rw [List.length_append, List.length_take, List.length_drop]; omega
  refine ⟨by rw [List.length_set]; exact ho.1, fun q hq => ?_⟩
  rcases List.mem_or_eq_of_mem_set hq with hq | rfl
  · exact ho.2 q hq
  · refine ⟨Nat.le_trans (hd _) g1, Nat.le_trans (hd _) g2, g3, fun k hk => g4 k ?_⟩
    have hk : k ∈ delX p.keys i := hk
    unfold delX at hk
    rcases List.mem_append.1 hk with hk | hk
    · exact List.mem_of_mem_take hk
    · exact List.mem_of_mem_drop hk
set_option maxRecDepth 100000 in
set_option maxHeartbeats 4000000 in
theorem lawDeletes_con (G : List (Nat × List Value)) (ps : List PG) (root : Int) (k : Ky) (ho : okPs2 ps) (hk : k.length ≤ 1048576) : Con Go.Proofs.Try.prog G 7 [.agg [.ro true 5 (ps.map eP), .r (.int .i64 root)], .ro true 1 (k.map eByte)] [] 0 (Is (.r (.bool true)) [] 0) No := by
  obtain ⟨R, hR1, hR2⟩ := dels_same ps root k
  have tc := trees_con G true ps root ho
  have oc := octetsT_con G true k (by omega)
  have fc := delT_con G true ps root k ho R hR1 (fun h0 r d e h => by
    obtain ⟨_, _, _, _, _, g⟩ := hR2 h0
    exact g r d e h)
  have gc := deleted_con G true true ps root k ho R hR1 (fun h0 i p n q1 q2 q3 => by
      obtain ⟨r, d, e, h, g, _⟩ := hR2 h0
      obtain ⟨e1, e2⟩ := h.one k q1 q2 q3
      have hpi := pg_some q1
      have hok := h.ok _ _ q1
      refine ⟨?_, hok.kl q2⟩
      rw [g, delR, ← e1, hpi]
      rw [← e1, hpi] at e2
      rw [← e2, if_pos q3])
    (fun h0 hno => by
      obtain ⟨r, d, e, h, g, _⟩ := hR2 h0
      rw [g, delR]
      have hl := h.leaf k
      obtain ⟨A, B, _, _, _, lo, hi, hgl, _⟩ := leaf_split h.ok k d r [] [] h.good (.inl rfl)
      rw [if_neg (hno _ _ _ (pg_in hl) hgl.1)])
  have hoR : okPs2 R.1 := by
    by_cases h0 : askM ps root k = 0
    · obtain ⟨r, d, e, h, g, _⟩ := hR2 h0
      rw [g, delR]
      split
      · exact okPs2_cut ho (pg_in (h.leaf k))
      · exact ⟨Nat.zero_le _, fun p hp => by cases hp⟩
    · rw [hR1 h0]
      exact ⟨Nat.zero_le _, fun p hp => by cases hp⟩
  clear hR1 hR2
  rw [delA] at fc gc
  obtain ⟨qs, qr, qe⟩ := R
  have s1 := sameTree_con G true true qs qr hoR
  have s2 := sameTree_con G true true ps root ho
  refine con_of_awp Go.Proofs.Try.func7 rfl (by kernel_rfl) (of_decide_eq_true (by kernel_rfl)) ?_; intro E hG hE; subst hG; simp only [ent]
  (repeat' (first | refine awp_seq ?_ | refine awp_block ?_ | refine awp_skip ?_ | refine awp_exit ?_ | ((first | refine rR (fun K kp hK hkp => ?_) | refine rU (id := 2) mixed 8 [⟨0, 0, [], [(0, 1)]⟩, ⟨0, 0, [], [(0, 1)]⟩, ⟨0, 0, [1], [(0, 1)]⟩, ⟨0, 0, [0, 1, 2], [(0, 1)]⟩, ⟨0, 0, [0, 1, 2, 3], [(0, 1)]⟩, ⟨0, 0, [0, 1, 2, 3, 4], [(0, 1)]⟩, ⟨0, 0, [0, 1, 2, 3, 4], [(0, 1)]⟩, ⟨0, 1, [], []⟩] 1 [13, 14, 15, 16, 12, 17, 18, 6] [6] (fun K kp hK hkp => ?_) | refine cR tc ?_ | refine cD tc ?_ | refine cU tc ?_ | refine cR oc ?_ | refine cD oc ?_ | refine cU oc ?_ | refine cR fc ?_ | refine cD fc ?_ | refine cU fc ?_ | refine cR gc ?_ | refine cD gc ?_ | refine cU gc ?_ | refine cR s1 ?_ | refine cD s1 ?_ | refine cU s1 ?_ | refine cR s2 ?_ | refine cD s2 ?_ | refine cU s2 ?_ | refine iG ?_ | refine iD ?_); simp (implicitDefEqProofs := false) (maxSteps := 2000000) (disch := omega) only [go_sem, beq_self_eq_true]; (repeat' (first | (refine hK _ ?_; clear hK hkp kp K) | (with_reducible refine And.intro ?_ ?_) | omega))) | ((first | refine aG (fun h => ?_) (fun h => ?_) | refine aD (fun h => ?_) (fun h => ?_) | refine aX (fun h => ?_) (fun h => ?_)) <;> simp only [h]) | refine awp_cond_t rfl ?_ | refine awp_cond_f rfl ?_ | ((refine awp_cond rfl (fun h => ?_) (fun h => ?_) <;> try simp only [ifs] at h) <;> (try (exfalso; omega))) | refine awp_ret ?_))
  (refine retA_is (by (simp (implicitDefEqProofs := false) (maxSteps := 2000000) (disch := omega) only [go_sem, Go.Proofs.Try.results7]); rfl) ?_; refine eN hE ?_; simp [oneA, ren, renL])
end Go.AM
/- How arguments that came in read: lemmas out of the kit's readings, in the walks' own terms. -/
namespace Go.Proofs.Yteebiklebedneaa
open Go.ChangeShapes Go.WideShapes Go.ChangeAt Go.RowKit
theorem own : ownKnob Try.prog.godebug = none := by kernel_rfl
theorem laidOut : laidOutB Try.prog = true := by kernel_rfl
set_option maxRecDepth 100000 in
theorem open_i64 {H : Type} {enc : TypeId × Value → H} {w : World} {base : Nat} {spare : Nat → Bool} {held : Bool} {b0 : Nat} {v : Value} {d : DataW H} {p : List MemPlace}
    (hv : Value.okWide Try.prog w .any b0 3 v) (h : DataW.Trod enc Try.prog w base spare held 3 v d p) : ∃ n : Int, v = .int .i64 n ∧ (Lit.int .i64 n).wf = true := by
  obtain ⟨n, rfl, _, _, w0⟩ := open_int Try.underlying3 hv h
  exact ⟨n, rfl, w0⟩
theorem i64_bd {n : Int} (h : (Lit.int .i64 n).wf = true) : -9223372036854775808 ≤ n ∧ n ≤ 9223372036854775807 := by
  simp [Lit.wf, IntKind.min, IntKind.max, IntKind.signed, IntKind.bits] at h
  omega
end Go.Proofs.Yteebiklebedneaa
/- How bytes that came in read; bulk. -/
namespace Go.Proofs.Yteebiklebedneaa
open Go.ChangeShapes Go.WideShapes Go.ChangeAt Go.RowKit Go.AM
theorem bulk_one {H : Type} (d : DataW H) : 1 ≤ Rows.uptoBulk d := by
  cases d with
  | lit l => cases l <;> simp [Rows.uptoBulk]
  | nil => simp [Rows.uptoBulk]
  | ptr d => simp [Rows.uptoBulk]
  | slice elems spare => simp [Rows.uptoBulk]
  | agg parts => simp [Rows.uptoBulk]
  | iface t d => simp [Rows.uptoBulk]
  | map entries => simp [Rows.uptoBulk]
  | held h => simp [Rows.uptoBulk]
theorem bulk_length {H : Type} : ∀ l : List (DataW H), l.length ≤ Rows.uptoBulkAll l
  | [] => by simp [Rows.uptoBulkAll]
  | x :: r => by have := bulk_one x; have := bulk_length r; simp only [Rows.uptoBulkAll, List.length_cons]; omega
theorem bulk_slice {H : Type} (ds rest : List (DataW H)) : ds.length + 1 ≤ Rows.uptoBulk (.slice ds rest) := by
  have := bulk_length ds
  simp only [Rows.uptoBulk]; omega
theorem bulk_bound {H : Type} {l : List (DataW H)} (hk : Rows.uptoSmall H l = true) : Rows.uptoBulkAll l ≤ 1048576 := of_decide_eq_true hk
theorem bulk_of {H α : Type} {l : List α} {R : α → DataW H → Prop} {d : DataW H} (h : (l = [] ∧ d = .nil) ∨ ∃ ds rest, d = .slice ds rest ∧ ds.length = l.length ∧ ∀ (i : Nat) y, l[i]? = some y → ∃ d, ds[i]? = some d ∧ R y d) : l.length ≤ Rows.uptoBulk d := by
  rcases h with ⟨rfl, _⟩ | ⟨ds, rest, rfl, h, _⟩
  · exact Nat.zero_le _
  · have := bulk_slice ds rest; omega
end Go.Proofs.Yteebiklebedneaa
/- How bytes that came in read. -/
namespace Go.Proofs.Yteebiklebedneaa
open Go.ChangeShapes Go.WideShapes Go.ChangeAt Go.RowKit Go.AM
theorem leaf_u8 {H : Type} {E : TypeId × Value → H} {w : World} {base : Nat} {spare : Nat → Bool} {held : Bool} (fuel : Nat) (cs : List Value) (x : DataW H × List MemPlace)
    (h : DataW.trod E Try.prog w base spare held fuel 5 cs = some x) : ∃ y : UInt8, Reps w (zAll w) [] (eByte y) cs ∧ (∀ v ∈ cs, v.oneCell' = true) ∧ True := by
  obtain ⟨n, rfl, _, wf⟩ := DataW.trod_int Try.underlying5 h
  have hb : 0 ≤ n ∧ n ≤ 255 := by simpa [Lit.wf, IntKind.min, IntKind.max, IntKind.signed, IntKind.bits] using wf
  refine ⟨UInt8.ofNat n.toNat, ?_, by simp [Value.oneCell'], trivial⟩
  have : ((UInt8.ofNat n.toNat).toNat : Int) = n := by
    rw [UInt8.toNat_ofNat_of_lt' (by simp [UInt8.size]; omega)]; omega
  rw [eByte, this]
  exact rep1 (.r _ _)
/-- Bytes that came in. -/
theorem open_bytes {H : Type} {E : TypeId × Value → H} {w : World} {base : Nat} {spare : Nat → Bool} {held : Bool} {b0 : Nat} {v : Value} {d : DataW H} {p : List MemPlace}
    (hv : Value.okWide Try.prog w .any b0 30 v) (h : DataW.Trod E Try.prog w base spare held 30 v d p) :
    ∃ l : List UInt8, Rep w (zAll w) [] (.ro true 1 (l.map eByte)) v ∧ l.length ≤ Rows.uptoBulk d ∧ (l = [] ∨ ∃ el sp, d = .slice el sp ∧ el.length = l.length) := by
  obtain ⟨f, hf⟩ := h
  obtain ⟨u, l, h1, h2, _, h3⟩ := open_ro eByte (fun _ _ => True) true Try.underlying30 (show Try.prog.cellsOf 5 = 1 by kernel_rfl) (by omega) leaf_u8 hf
  obtain ⟨a', n', c', rfl⟩ := okWide_slice Try.underlying30 hv
  obtain rfl : Value.slice a' n' c' = u := List.head_eq_of_cons_eq (show [Value.slice a' n' c'] = [u] from h1)
  exact ⟨l, h2, bulk_of h3, h3.imp (fun h => h.1) (fun ⟨ds, rest, h4, h5, _⟩ => ⟨ds, rest, h4, h5⟩)⟩
end Go.Proofs.Yteebiklebedneaa
