/- Texts of the law TreeInserts, part 6: lemmas; what is proved stands in the last text. -/
import Derived.Test.YteebiklebedneaaZz4
import Derived.Test.YteebiklebedneaaZz5
import Derived.Handy
import Derived.WalkSpells
import Derived.Deep.Light
import Derived.Lib.LazyBuf
import Derived.Sort.Grow
import Derived.Sort.Row
import Derived.Shelf.RegionOpenPlain
import Derived.Deep.LoopGhost
import Derived.Deep.RegionLaw
import Derived.Lib.Walk
import Derived.Lib.SliceRun
import Derived.Lib.ReflectliteSwap
import Derived.Lib.Hide
import Derived.Lib.JoinLaws
import Derived.Lib.AppendZeros
import Derived.Lib.AppendZerosOnto
import Derived.Lib.Overlaps
import Derived.Laws.Externs
import Derived.Laws.IdiomCopy
import Derived.Laws.NewBlocks
import Derived.WalkKit
set_option linter.unusedSimpArgs false
set_option linter.unusedVariables false
/- Trees: the same trees are the same. -/
namespace Go.AM
open Go Go.RowKit
attribute [local irreducible] AWP retA
def okPs2 (ps : List PG) : Prop := ps.length ≤ 1048576 ∧ ∀ p ∈ ps, p.keys.length ≤ 1048576 ∧ p.kids.length ≤ 1048576 ∧ p.high.length ≤ 1048576 ∧ ∀ k ∈ p.keys, k.length ≤ 1048576
set_option maxRecDepth 100000 in
set_option maxHeartbeats 4000000 in
theorem sameTree_con (G : List (Nat × List Value)) (t t' : Bool) (ps : List PG) (root : Int) (ho : okPs2 ps) : Con Go.Proofs.Try.prog G 12 [.agg [.ro t 5 (ps.map eP), .r (.int .i64 root)], .agg [.ro t' 5 (ps.map eP), .r (.int .i64 root)]] [] 0 (Is (.r (.bool true)) [] 0) No := by
  have hn := ho.1
  refine con_of_awp Go.Proofs.Try.func12 rfl (by kernel_rfl) (of_decide_eq_true (by kernel_rfl)) ?_; intro E hG hE; subst hG; simp only [ent]
  (repeat' (first | refine awp_seq ?_ | refine awp_block ?_ | refine awp_skip ?_ | refine awp_exit ?_ | ((first | refine rR (fun K kp hK hkp => ?_) | refine rD (id := 13) mixed 13 [0,1,2,3,4,5,6,7,8,9,10,11,12] (fun K kp hK hkp => ?_) | refine iG ?_ | refine iD ?_); simp (implicitDefEqProofs := false) (maxSteps := 2000000) (disch := omega) only [go_sem, eP, bne_self_eq_false]; (repeat' (first | (refine hK _ ?_; clear hK hkp kp K) | (with_reducible refine And.intro ?_ ?_) | omega))) | ((first | refine aG (fun h => ?_) (fun h => ?_) | refine aD (fun h => ?_) (fun h => ?_) | refine aX (fun h => ?_) (fun h => ?_)) <;> simp only [h]) | refine awp_cond_t rfl ?_ | refine awp_cond_f rfl ?_ | ((refine awp_cond rfl (fun h => ?_) (fun h => ?_) <;> try simp only [ifs] at h) <;> (try (exfalso; omega))) | refine awp_ret ?_))
  refine awp_loop (fun i : Nat => ⟨[(5, .r (.int .i64 i)), (3, .p 1 0 0), (2, .p 0 0 0)], [(0, .box 24 [.ro t 5 (ps.map eP), .r (.int .i64 root)]), (1, .box 24 [.ro t' 5 (ps.map eP), .r (.int .i64 root)])], 2⟩) (fun i => i ≤ ps.length) (fun i => ps.length - i) 0 ?_ ?_ ?_
  · exact Nat.zero_le _
  · (refine emb [0, 1] ?_ ?_ rfl ?_ ?_ ?_ ?_ <;> simp [okM, okO, lk, ren, renL, renNd, by_, hE] <;> (try omega) <;> (try (intro i hi; first | (rcases i with _ | _ | i; rfl; rfl; (exfalso; omega)) | (rcases i with _ | _ | _ | i; rfl; rfl; rfl; (exfalso; omega)) | (rcases i with _ | _ | _ | _ | i; rfl; rfl; rfl; rfl; (exfalso; omega)) | (rcases i with _ | _ | _ | _ | _ | i; rfl; rfl; rfl; rfl; rfl; (exfalso; omega)) | (rcases i with _ | _ | _ | _ | _ | _ | i; rfl; rfl; rfl; rfl; rfl; rfl; (exfalso; omega)))))
  intro i hi
  by_cases hlt : i < ps.length
  · have zi : ((i : Int) < (ps.length : Int)) = True := eq_true (by omega)
    obtain ⟨p, hp⟩ : ∃ p, ps[i]? = some p := ⟨ps[i], by simp [hlt]⟩
    obtain ⟨h1, h2, h3, h4⟩ := ho.2 p (List.mem_of_getElem? hp)
    have sc := sameI_con E.G true true p.kids h2
    (repeat' (first | refine awp_seq ?_ | refine awp_block ?_ | refine awp_skip ?_ | refine awp_exit ?_ | ((first | refine rR (fun K kp hK hkp => ?_) | refine rD (id := 13) mixed 13 [0,1,2,3,4,5,6,7,8,9,10,11,12] (fun K kp hK hkp => ?_) | refine cR sc ?_ | refine cD sc ?_ | refine iG ?_ | refine iD ?_); simp (implicitDefEqProofs := false) (maxSteps := 2000000) (disch := omega) only [go_sem, zi, hp, eP, bne_self_eq_false, unb_map, beq_self_eq_true]; (repeat' (first | (refine hK _ ?_; clear hK hkp kp K) | (with_reducible refine And.intro ?_ ?_) | omega))) | ((first | refine aG (fun h => ?_) (fun h => ?_) | refine aD (fun h => ?_) (fun h => ?_) | refine aX (fun h => ?_) (fun h => ?_)) <;> simp only [h]) | refine awp_cond_t rfl ?_ | refine awp_cond_f rfl ?_ | ((refine awp_cond rfl (fun h => ?_) (fun h => ?_) <;> try simp only [ifs] at h) <;> (try (exfalso; omega))) | refine awp_ret ?_))
    refine awp_loop (fun k : Nat => ⟨[(8, .r (.int .i64 k)), (7, .p 3 0 0), (6, .p 2 0 0), (5, .r (.int .i64 i)), (3, .p 1 0 0), (2, .p 0 0 0)], [(0, .box 24 [.ro t 5 (ps.map eP), .r (.int .i64 root)]), (1, .box 24 [.ro t' 5 (ps.map eP), .r (.int .i64 root)]), (2, .box 52 (eP p)), (3, .box 52 (eP p))], 4⟩) (fun k => k ≤ p.keys.length) (fun k => p.keys.length - k) 0 ?_ ?_ ?_
    · exact Nat.zero_le _
    · (refine emb [0, 1, 2, 3] ?_ ?_ rfl ?_ ?_ ?_ ?_ <;> simp [okM, okO, lk, ren, renL, renNd, by_, hE, eP] <;> (try omega) <;> (try (intro i hi; first | (rcases i with _ | _ | i; rfl; rfl; (exfalso; omega)) | (rcases i with _ | _ | _ | i; rfl; rfl; rfl; (exfalso; omega)) | (rcases i with _ | _ | _ | _ | i; rfl; rfl; rfl; rfl; (exfalso; omega)) | (rcases i with _ | _ | _ | _ | _ | i; rfl; rfl; rfl; rfl; rfl; (exfalso; omega)) | (rcases i with _ | _ | _ | _ | _ | _ | i; rfl; rfl; rfl; rfl; rfl; rfl; (exfalso; omega)))))
    intro k hk
    by_cases hkl : k < p.keys.length
    · have zk : ((k : Int) < (p.keys.length : Int)) = True := eq_true (by omega)
      obtain ⟨x, hx⟩ : ∃ x, p.keys[k]? = some x := ⟨p.keys[k], by simp [hkl]⟩
      (repeat' (first | refine awp_seq ?_ | refine awp_block ?_ | refine awp_skip ?_ | refine awp_exit ?_ | ((first | refine rR (fun K kp hK hkp => ?_) | refine rD (id := 13) mixed 13 [0,1,2,3,4,5,6,7,8,9,10,11,12] (fun K kp hK hkp => ?_) | refine iG ?_ | refine iD ?_); simp (implicitDefEqProofs := false) (maxSteps := 2000000) (disch := omega) only [go_sem, zk, hx, eP, eKy, bne_self_eq_false, unb_map, beq_self_eq_true]; (repeat' (first | (refine hK _ ?_; clear hK hkp kp K) | (with_reducible refine And.intro ?_ ?_) | omega))) | ((first | refine aG (fun h => ?_) (fun h => ?_) | refine aD (fun h => ?_) (fun h => ?_) | refine aX (fun h => ?_) (fun h => ?_)) <;> simp only [h]) | refine awp_cond_t rfl ?_ | refine awp_cond_f rfl ?_ | ((refine awp_cond rfl (fun h => ?_) (fun h => ?_) <;> try simp only [ifs] at h) <;> (try (exfalso; omega))) | refine awp_ret ?_))
      ((first | (refine nextB (k + 1) ?_ ?_ ?_) | (refine nextA (k + 1) ?_ ?_ ?_) | (refine nextE (k + 1) ?_ ?_ ?_)); rotate_left; (· (try dsimp only); (first | omega | (simp only [List.length_drop, List.length_cons, List.length_append]; omega) | (simp; done) | (simp; omega))); (· (refine emb [0, 1, 2, 3] ?_ ?_ rfl ?_ ?_ ?_ ?_ <;> simp [okM, okO, lk, ren, renL, renNd, by_, hE, eP] <;> (try omega) <;> (try (intro i hi; first | (rcases i with _ | _ | i; rfl; rfl; (exfalso; omega)) | (rcases i with _ | _ | _ | i; rfl; rfl; rfl; (exfalso; omega)) | (rcases i with _ | _ | _ | _ | i; rfl; rfl; rfl; rfl; (exfalso; omega)) | (rcases i with _ | _ | _ | _ | _ | i; rfl; rfl; rfl; rfl; rfl; (exfalso; omega)) | (rcases i with _ | _ | _ | _ | _ | _ | i; rfl; rfl; rfl; rfl; rfl; rfl; (exfalso; omega)))))))
      omega
    · obtain rfl : k = p.keys.length := by omega
      (repeat' (first | refine awp_seq ?_ | refine awp_block ?_ | refine awp_skip ?_ | refine awp_exit ?_ | ((first | refine rR (fun K kp hK hkp => ?_) | refine rD (id := 13) mixed 13 [0,1,2,3,4,5,6,7,8,9,10,11,12] (fun K kp hK hkp => ?_) | refine iG ?_ | refine iD ?_); simp (implicitDefEqProofs := false) (maxSteps := 2000000) (disch := omega) only [go_sem, eP]; (repeat' (first | (refine hK _ ?_; clear hK hkp kp K) | (with_reducible refine And.intro ?_ ?_) | omega))) | ((first | refine aG (fun h => ?_) (fun h => ?_) | refine aD (fun h => ?_) (fun h => ?_) | refine aX (fun h => ?_) (fun h => ?_)) <;> simp only [h]) | refine awp_cond_t rfl ?_ | refine awp_cond_f rfl ?_ | ((refine awp_cond rfl (fun h => ?_) (fun h => ?_) <;> try simp only [ifs] at h) <;> (try (exfalso; omega))) | refine awp_ret ?_))
      ((first | (refine nextB (i + 1) ?_ ?_ ?_) | (refine nextA (i + 1) ?_ ?_ ?_) | (refine nextE (i + 1) ?_ ?_ ?_)); rotate_left; (· (try dsimp only); (first | omega | (simp only [List.length_drop, List.length_cons, List.length_append]; omega) | (simp; done) | (simp; omega))); (· (refine emb [0, 1] ?_ ?_ rfl ?_ ?_ ?_ ?_ <;> simp [okM, okO, lk, ren, renL, renNd, by_, hE] <;> (try omega) <;> (try (intro i hi; first | (rcases i with _ | _ | i; rfl; rfl; (exfalso; omega)) | (rcases i with _ | _ | _ | i; rfl; rfl; rfl; (exfalso; omega)) | (rcases i with _ | _ | _ | _ | i; rfl; rfl; rfl; rfl; (exfalso; omega)) | (rcases i with _ | _ | _ | _ | _ | i; rfl; rfl; rfl; rfl; rfl; (exfalso; omega)) | (rcases i with _ | _ | _ | _ | _ | _ | i; rfl; rfl; rfl; rfl; rfl; rfl; (exfalso; omega)))))))
      omega
  · obtain rfl : i = ps.length := by omega
    (repeat' (first | refine awp_seq ?_ | refine awp_block ?_ | refine awp_skip ?_ | refine awp_exit ?_ | ((first | refine rR (fun K kp hK hkp => ?_) | refine rD (id := 13) mixed 13 [0,1,2,3,4,5,6,7,8,9,10,11,12] (fun K kp hK hkp => ?_) | refine iG ?_ | refine iD ?_); simp (implicitDefEqProofs := false) (maxSteps := 2000000) (disch := omega) only [go_sem]; (repeat' (first | (refine hK _ ?_; clear hK hkp kp K) | (with_reducible refine And.intro ?_ ?_) | omega))) | ((first | refine aG (fun h => ?_) (fun h => ?_) | refine aD (fun h => ?_) (fun h => ?_) | refine aX (fun h => ?_) (fun h => ?_)) <;> simp only [h]) | refine awp_cond_t rfl ?_ | refine awp_cond_f rfl ?_ | ((refine awp_cond rfl (fun h => ?_) (fun h => ?_) <;> try simp only [ifs] at h) <;> (try (exfalso; omega))) | refine awp_ret ?_))
    (refine retA_is (by (simp (implicitDefEqProofs := false) (maxSteps := 2000000) (disch := omega) only [go_sem, Go.Proofs.Try.results12]); rfl) ?_; refine eN hE ?_; simp [oneA, ren, renL])
end Go.AM
/- slices.Clone of keys and of numbers, as own rows. -/
namespace Go.AM
open Go Go.RowKit
attribute [local irreducible] AWP retA
set_option maxRecDepth 100000 in
set_option maxHeartbeats 2000000 in
theorem cloneB_any (w : World) (a : Option Addr) (c : Nat) : Calls Go.Proofs.Try.prog 46 #[.slice a 0 c] w fun e w' => (∃ a' c', e = .returned (.slice a' 0 c')) ∧ Below w.heap.size w w' := by
  have hq : ∀ w, (binOp .eql 30 (.slice a 0 c) (.slice none 0 0)).run Go.Proofs.Try.prog w = .ok (.bool a.isNone) w := fun w => Lib.run_eql_slice_nil w 30 5 a 0 c 0 0 Go.Proofs.Try.underlying30
  go_enter Go.Proofs.Try.func46, Go.Proofs.Try.ntmps46
  cases a with
  | none =>
    go_wp2
    go_ret
    exact ⟨⟨_, _, rfl⟩, Below.refl _ _⟩
  | some p =>
    go_wp2
    go_ret
    exact ⟨⟨_, _, rfl⟩, (Below.refl _ w).alloc (Nat.le_refl _) _⟩
theorem ro_nil_inv {w : World} {z : Zone} {t : Bool} {k : Nat} {v : Value} (h : Rep w z [] (.ro t k []) v) : ∃ a c, v = .slice a 0 c := by
  cases h with
  | nil _ _ _ a c => exact ⟨a, c, rfl⟩
  | ro _ _ _ _ b o c => exact ⟨_, c, rfl⟩
theorem cloneB0_con (G : List (Nat × List Value)) (t : Bool) : Con Go.Proofs.Try.prog G 46 [.ro t 1 []] [] 0 (Is (.ro true 1 []) [] 0) No := by
  refine ⟨by kernel_rfl, fun w th z own vs ho hm hr => ?_⟩
  have hth : th = [] := List.length_eq_zero_iff.1 hm.len
  subst hth
  obtain ⟨v, r, rfl, h1, h2⟩ := hr.head
  obtain rfl := h2.of_nil
  obtain ⟨a, c, rfl⟩ := ro_nil_inv h1
  refine (cloneB_any w a c).mono ?_
  rintro e w' ⟨⟨a', c', rfl⟩, hb⟩
  refine ⟨_, .ro true 1 [], [], 0, [], z, .inl ⟨rfl, rfl, rfl, rfl⟩, hm.ext ⟨hb.size, fun b hlt => hb.block b hlt, ⟨hb.os, hb.tape, hb.output⟩⟩, .nil _ _ _ _ _⟩
theorem cloneK_any (G : List (Nat × List Value)) (t : Bool) (l : Ky) (hl : l.length ≤ 1048576) : Con Go.Proofs.Try.prog G 46 [.ro t 1 (l.map eByte)] [] 0 (Is (.ro true 1 (l.map eByte)) [] 0) No := by
  cases l with
  | nil => exact cloneB0_con G t
  | cons x r => exact cloneB_con G t x r (by simp only [List.length_cons] at hl; omega)
set_option maxRecDepth 100000 in
set_option maxHeartbeats 2000000 in
theorem cloneI_any (w : World) (a : Option Addr) (c : Nat) : Calls Go.Proofs.Try.prog 57 #[.slice a 0 c] w fun e w' => (∃ v, e = .returned v ∧ w'.ownsRow w.heap.size 3 1 v 0 []) ∧ Below w.heap.size w w' := by
  have hq : ∀ w, (binOp .eql 50 (.slice a 0 c) (.slice none 0 0)).run Go.Proofs.Try.prog w = .ok (.bool a.isNone) w := fun w => Lib.run_eql_slice_nil w 50 3 a 0 c 0 0 Go.Proofs.Try.underlying50
  go_enter Go.Proofs.Try.func57, Go.Proofs.Try.ntmps57
  cases a with
  | none =>
    go_wp2
    go_ret
    exact ⟨⟨.slice none 0 0, rfl, World.ownsRow_nil _ _ _ _⟩, Below.refl _ _⟩
  | some p =>
    go_wp2
    go_ret
    exact ⟨⟨.slice (some ⟨w.heap.size, 0, none⟩) 0 0, rfl, rfl, .inr ⟨w.heap.size, 0, #[], rfl, Nat.le_refl _, World.alloc_heap_new w _, Nat.le_refl _, Nat.zero_le _, rfl, rfl⟩⟩, (Below.refl _ w).alloc (Nat.le_refl _) _⟩
set_option maxRecDepth 100000 in
theorem cloneI1_con (G : List (Nat × List Value)) (t : Bool) (x : Int) (l : List Int) (hl : l.length ≤ 1048576) : Con Go.Proofs.Try.prog G 57 [.ro t 1 ((x :: l).map eI)] [] 0 (Is (.s 0 0 (x :: l).length) [(0, .lst 3 1 ((x :: l).map eI))] 1) No := by
  refine con_of_awp Go.Proofs.Try.func57 rfl (by kernel_rfl) (of_decide_eq_true (by kernel_rfl)) ?_; intro E hG hE; subst hG; simp only [ent]
  (repeat' (first | refine awp_seq ?_ | refine awp_block ?_ | refine awp_skip ?_ | refine awp_exit ?_ | ((first | refine rR (fun K kp hK hkp => ?_) | refine iG ?_); simp (implicitDefEqProofs := false) (maxSteps := 2000000) (disch := omega) only [go_sem]; (repeat' (first | (refine hK _ ?_; clear hK hkp kp K) | (with_reducible refine And.intro ?_ ?_) | omega))) | ((first | refine aG (fun h => ?_) (fun h => ?_) | refine aD (fun h => ?_) (fun h => ?_) | refine aX (fun h => ?_) (fun h => ?_)) <;> simp only [h]) | refine awp_cond_t rfl ?_ | refine awp_cond_f rfl ?_ | ((refine awp_cond rfl (fun h => ?_) (fun h => ?_) <;> try simp only [ifs] at h) <;> (try (exfalso; omega))) | refine awp_ret ?_))
  (refine retA_is (by (simp (implicitDefEqProofs := false) (maxSteps := 2000000) (disch := omega) only [go_sem, Go.Proofs.Try.results57]); rfl) ?_; refine (embV [1] ?_ ?_ ?_ ?_ ?_ ?_).s <;> simp [oneA, okO, lk, ren, renL, renNd, by_, hE] <;> (try (intro i hi; first | (rcases i with _ | _ | i; rfl; rfl; (exfalso; omega)) | (rcases i with _ | _ | _ | i; rfl; rfl; rfl; (exfalso; omega)) | (rcases i with _ | _ | _ | _ | i; rfl; rfl; rfl; rfl; (exfalso; omega)) | (rcases i with _ | _ | _ | _ | _ | i; rfl; rfl; rfl; rfl; rfl; (exfalso; omega)) | (rcases i with _ | _ | _ | _ | _ | _ | i; rfl; rfl; rfl; rfl; rfl; rfl; (exfalso; omega)))))
theorem cloneI_own (G : List (Nat × List Value)) (t : Bool) (l : List Int) (hl : l.length ≤ 1048576) : Con Go.Proofs.Try.prog G 57 [.ro t 1 (l.map eI)] [] 0 (Is (.s 0 0 l.length) [(0, .lst 3 1 (l.map eI))] 1) No := by
  cases l with
  | cons x r => exact cloneI1_con G t x r (by simp only [List.length_cons] at hl; omega)
  | nil =>
    exact con_of_owns (P := Go.Proofs.Try.prog) (T := 3) (k := 1) (els := []) (fl := []) (by kernel_rfl) (fun i e h => by simp at h) (fun w z vs hz hr hG => by
      obtain ⟨v, r, rfl, h1, h2⟩ := hr.head
      obtain rfl := h2.of_nil
      obtain ⟨a, c, rfl⟩ := ro_nil_inv h1
      exact cloneI_any w a c)
theorem cloneI_ul (G : List (Nat × List Value)) (t : Bool) (l : List Int) (hl : l.length ≤ 1048576) : Con Go.Proofs.Try.prog G 57 [.ro t 1 (l.map eI)] [] 0 (Is (.s 0 0 l.length) [(0, .ul 3 1 (l.map eI) [])] 1) No :=
  (cloneI_own G t l hl).emb fun E hE => by
    refine Emb.trans (emb_toU 0 rfl) ?_
    simp only [setNd]
    (refine emb [0] ?_ ?_ rfl ?_ ?_ ?_ ?_ <;> simp [okM, okO, lk, ren, renL, renNd, by_, hE, renOp] <;> (try omega) <;> (try (intro i hi; first | (rcases i with _ | _ | i; rfl; rfl; (exfalso; omega)) | (rcases i with _ | _ | _ | i; rfl; rfl; rfl; (exfalso; omega)) | (rcases i with _ | _ | _ | _ | i; rfl; rfl; rfl; rfl; (exfalso; omega)) | (rcases i with _ | _ | _ | _ | _ | i; rfl; rfl; rfl; rfl; rfl; (exfalso; omega)) | (rcases i with _ | _ | _ | _ | _ | _ | i; rfl; rfl; rfl; rfl; rfl; rfl; (exfalso; omega)))))
end Go.AM
/- tree.own: a tree of its own. -/
namespace Go.AM
open Go Go.RowKit
attribute [local irreducible] AWP retA
/-- A page whose keys and kids nothing else stands for. -/
def uP (p : PG) : List AV := [.r (.bool p.leaf), .u 30 1 (p.keys.map eKy), .u 3 1 (p.kids.map eI), .ro true 1 (p.high.map eByte), .r (.int .i64 p.next)]
@[simp] theorem ptA_uP (a : PG) : (∀ x, x ∈ uP a → PT x) = True := eq_true (by
  intro x hx; simp [uP] at hx
  rcases hx with rfl | rfl | rfl | rfl | rfl
  · simp
  · exact .u _ _ _ (pt_map _ _)
  · exact .u _ _ _ (pt_map _ _)
  · simp
  · simp)
instance : PTf uP := ⟨fun a => of_eq_true (ptA_uP a)⟩
theorem at_end {α : Type} {a : List α} {i : Nat} (x : α) (h : a.length = i) : (a ++ [x])[i]? = some x := by subst h; simp
theorem set_end {α : Type} {a : List α} {i : Nat} (x y : α) (h : a.length = i) : (a ++ [x]).set i y = a ++ [y] := by
  subst h
  rw [List.set_append_right _ _ (Nat.le_refl _)]; simp
set_option maxRecDepth 100000 in
set_option maxHeartbeats 8000000 in
theorem ownT_con (G : List (Nat × List Value)) (t : Bool) (ps : List PG) (root : Int) (ho : okPs2 ps) : Con Go.Proofs.Try.prog G 41 [.agg [.ro t 5 (ps.map eP), .r (.int .i64 root)]] [] 0 (Is (.agg [.s 0 0 ps.length, .r (.int .i64 root)]) [(0, .ul 52 5 (ps.map uP) [])] 1) No := by
  have hn := ho.1
  refine con_of_awp Go.Proofs.Try.func41 rfl (by kernel_rfl) (of_decide_eq_true (by kernel_rfl)) ?_; intro E hG hE; subst hG; simp only [ent]
  (repeat' (first | refine awp_seq ?_ | refine awp_block ?_ | refine awp_skip ?_ | refine awp_exit ?_ | ((first | refine rR (fun K kp hK hkp => ?_) | refine rD (id := 11) mixed 15 [0,1,2,3,4,5,6,8,9,11,12,7,10,13,14] (fun K kp hK hkp => ?_) | refine iG ?_ | refine iD ?_); simp (implicitDefEqProofs := false) (maxSteps := 2000000) (disch := omega) only [go_sem, eP]; (repeat' (first | (refine hK _ ?_; clear hK hkp kp K) | (with_reducible refine And.intro ?_ ?_) | omega))) | ((first | refine aG (fun h => ?_) (fun h => ?_) | refine aD (fun h => ?_) (fun h => ?_) | refine aX (fun h => ?_) (fun h => ?_)) <;> simp only [h]) | refine awp_cond_t rfl ?_ | refine awp_cond_f rfl ?_ | ((refine awp_cond rfl (fun h => ?_) (fun h => ?_) <;> try simp only [ifs] at h) <;> (try (exfalso; omega))) | refine awp_ret ?_))
  (refine AWP.emb (emb_nilB 2 0 52 5 rfl rfl (by simp)) ?_; simp only [List.set_cons_zero, List.set_cons_succ, lk, ↓reduceIte, Nat.reduceAdd])
  (refine AWP.emb (emb_toU (T := ?z1T) (k := ?z1k) (els := ?z1e) 3 ?z1h) ?z1g; (case z1h => rfl); simp only [setNd])
  refine awp_loop (fun i : Nat => ⟨[(15, .r (.int .i64 i)), (14, .r (.int .i64 ps.length)), (13, .ro t 5 (ps.map eP)), (3, .p 2 0 0), (2, .p 1 0 0)], [(0, .box 24 [.ro t 5 (ps.map eP), .r (.int .i64 root)]), (1, .box 24 [.r (.slice none 0 0), .r (.int .i64 0)]), (2, .box 24 [.s 3 0 i, .r (.int .i64 root)]), (3, .ul 52 5 ((ps.take i).map uP) [])], 4⟩) (fun i => i ≤ ps.length) (fun i => ps.length - i) 0 ?_ ?_ ?_
  · exact Nat.zero_le _
  · (refine emb [0, 1, 2, 3] ?_ ?_ rfl ?_ ?_ ?_ ?_ <;> simp [okM, okO, lk, ren, renL, renNd, by_, hE, renOp] <;> (try omega) <;> (try (intro i hi; first | (rcases i with _ | _ | i; rfl; rfl; (exfalso; omega)) | (rcases i with _ | _ | _ | i; rfl; rfl; rfl; (exfalso; omega)) | (rcases i with _ | _ | _ | _ | i; rfl; rfl; rfl; rfl; (exfalso; omega)) | (rcases i with _ | _ | _ | _ | _ | i; rfl; rfl; rfl; rfl; rfl; (exfalso; omega)) | (rcases i with _ | _ | _ | _ | _ | _ | i; rfl; rfl; rfl; rfl; rfl; rfl; (exfalso; omega)))))
  intro i hi
  by_cases hlt : i < ps.length
  · have zi : ((i : Int) < (ps.length : Int)) = True := eq_true (by omega)
    obtain ⟨p, hp⟩ : ∃ p, ps[i]? = some p := ⟨ps[i], by simp [hlt]⟩
    obtain ⟨h1, h2, h3, h4⟩ := ho.2 p (List.mem_of_getElem? hp)
    have bc := cloneK_any E.G true p.high h3
    have ic := cloneI_ul E.G true p.kids h2
    (repeat' (first | refine awp_seq ?_ | refine awp_block ?_ | refine awp_skip ?_ | refine awp_exit ?_ | ((first | refine rR (fun K kp hK hkp => ?_) | refine rD (id := 11) mixed 15 [0,1,2,3,4,5,6,8,9,11,12,7,10,13,14] (fun K kp hK hkp => ?_) | refine iG ?_ | refine iD ?_); simp (implicitDefEqProofs := false) (maxSteps := 2000000) (disch := omega) only [go_sem, zi, hp, eP]; (repeat' (first | (refine hK _ ?_; clear hK hkp kp K) | (with_reducible refine And.intro ?_ ?_) | omega))) | ((first | refine aG (fun h => ?_) (fun h => ?_) | refine aD (fun h => ?_) (fun h => ?_) | refine aX (fun h => ?_) (fun h => ?_)) <;> simp only [h]) | refine awp_cond_t rfl ?_ | refine awp_cond_f rfl ?_ | ((refine awp_cond rfl (fun h => ?_) (fun h => ?_) <;> try simp only [ifs] at h) <;> (try (exfalso; omega))) | refine awp_ret ?_))
    (refine AWP.emb (emb_nil 6 30 1 ?_) ?_; (· rfl); dsimp only)
    refine awp_loop (fun k : Nat => ⟨[(22, .r (.int .i64 k)), (21, .r (.int .i64 p.keys.length)), (20, .ro true 1 (p.keys.map eKy)), (6, .s 5 0 k), (5, .p 4 0 0), (15, .r (.int .i64 i)), (14, .r (.int .i64 ps.length)), (13, .ro t 5 (ps.map eP)), (3, .p 2 0 0), (2, .p 1 0 0)], [(0, .box 24 [.ro t 5 (ps.map eP), .r (.int .i64 root)]), (1, .box 24 [.r (.slice none 0 0), .r (.int .i64 0)]), (2, .box 24 [.s 3 0 i, .r (.int .i64 root)]), (3, .ul 52 5 ((ps.take i).map uP) []), (4, .box 52 (eP p)), (5, .lst 30 1 ((p.keys.take k).map eKy))], 6⟩) (fun k => k ≤ p.keys.length) (fun k => p.keys.length - k) 0 ?_ ?_ ?_
    · exact Nat.zero_le _
    · (refine emb [0, 1, 2, 3, 4, 5] ?_ ?_ rfl ?_ ?_ ?_ ?_ <;> simp [okM, okO, lk, ren, renL, renNd, by_, hE, eP, renOp] <;> (try omega) <;> (try (intro i hi; first | (rcases i with _ | _ | i; rfl; rfl; (exfalso; omega)) | (rcases i with _ | _ | _ | i; rfl; rfl; rfl; (exfalso; omega)) | (rcases i with _ | _ | _ | _ | i; rfl; rfl; rfl; rfl; (exfalso; omega)) | (rcases i with _ | _ | _ | _ | _ | i; rfl; rfl; rfl; rfl; rfl; (exfalso; omega)) | (rcases i with _ | _ | _ | _ | _ | _ | i; rfl; rfl; rfl; rfl; rfl; rfl; (exfalso; omega)))))
    intro k hk
    by_cases hkl : k < p.keys.length
    · have zk : ((k : Int) < (p.keys.length : Int)) = True := eq_true (by omega)
      obtain ⟨x, hx⟩ : ∃ x, p.keys[k]? = some x := ⟨p.keys[k], by simp [hkl]⟩
      have xc := cloneK_any E.G true x (h4 x (List.mem_of_getElem? hx))
      have htk : p.keys.take (k + 1) = p.keys.take k ++ [x] := by rw [List.take_add_one, hx]; rfl
      have hl : (p.keys.take k).length = k := by rw [List.length_take]; omega
      (repeat' (first | refine awp_seq ?_ | refine awp_block ?_ | refine awp_skip ?_ | refine awp_exit ?_ | ((first | refine rR (fun K kp hK hkp => ?_) | refine rD (id := 11) mixed 15 [0,1,2,3,4,5,6,8,9,11,12,7,10,13,14] (fun K kp hK hkp => ?_) | refine cR xc ?_ | refine cD xc ?_ | refine iG ?_ | refine iD ?_); simp (implicitDefEqProofs := false) (maxSteps := 2000000) (disch := omega) only [go_sem, zk, hx, eP, eKy, hl]; (repeat' (first | (refine hK _ ?_; clear hK hkp kp K) | (with_reducible refine And.intro ?_ ?_) | omega))) | ((first | refine aG (fun h => ?_) (fun h => ?_) | refine aD (fun h => ?_) (fun h => ?_) | refine aX (fun h => ?_) (fun h => ?_)) <;> simp only [h]) | refine awp_cond_t rfl ?_ | refine awp_cond_f rfl ?_ | ((refine awp_cond rfl (fun h => ?_) (fun h => ?_) <;> try simp only [ifs] at h) <;> (try (exfalso; omega))) | refine awp_ret ?_))
      ((first | (refine nextB (k + 1) ?_ ?_ ?_) | (refine nextA (k + 1) ?_ ?_ ?_) | (refine nextE (k + 1) ?_ ?_ ?_)); rotate_left; (· (try dsimp only); (first | omega | (simp only [List.length_drop, List.length_cons, List.length_append]; omega) | (simp; done) | (simp; omega))); (· (refine emb [0, 1, 2, 3, 4, 7] ?_ ?_ rfl ?_ ?_ ?_ ?_ <;> simp [okM, okO, lk, ren, renL, renNd, by_, hE, htk, eKy, eP, renOp, List.take_take, Nat.min_self] <;> (try omega) <;> (try (intro i hi; first | (rcases i with _ | _ | i; rfl; rfl; (exfalso; omega)) | (rcases i with _ | _ | _ | i; rfl; rfl; rfl; (exfalso; omega)) | (rcases i with _ | _ | _ | _ | i; rfl; rfl; rfl; rfl; (exfalso; omega)) | (rcases i with _ | _ | _ | _ | _ | i; rfl; rfl; rfl; rfl; rfl; (exfalso; omega)) | (rcases i with _ | _ | _ | _ | _ | _ | i; rfl; rfl; rfl; rfl; rfl; rfl; (exfalso; omega)))))))
      omega
    · obtain rfl : k = p.keys.length := by omega
      rw [List.take_length]
      have hl : (ps.take i).length = i := by rw [List.length_take]; omega
      have ht : ps.take (i + 1) = ps.take i ++ [p] := by rw [List.take_add_one, hp]; rfl
      have zk : ((p.keys.length : Int) < (p.keys.length : Int)) = False := eq_false (by omega)
      refine awp_seq ?_
      (refine rR (fun K kp hK hkp => ?_); simp (implicitDefEqProofs := false) (maxSteps := 2000000) (disch := omega) only [go_sem, zk]; (repeat' (first | (refine hK _ ?_; clear hK hkp kp K) | (with_reducible refine And.intro ?_ ?_) | omega)))
      refine awp_seq ?_
      refine awp_cond_f rfl ?_
      refine awp_exit ?_
      (refine AWP.emb (emb_toU (T := ?z2T) (k := ?z2k) (els := ?z2e) 5 ?z2h) ?z2g; (case z2h => rfl); simp only [setNd])
      (repeat' (first | refine awp_seq ?_ | refine awp_block ?_ | refine awp_skip ?_ | refine awp_exit ?_ | ((first | refine rR (fun K kp hK hkp => ?_) | refine rD (id := 11) mixed 15 [0,1,2,3,4,5,6,8,9,11,12,7,10,13,14] (fun K kp hK hkp => ?_) | refine cR ic ?_ | refine cD ic ?_ | refine cR bc ?_ | refine cD bc ?_ | refine iG ?_ | refine iD ?_); simp (implicitDefEqProofs := false) (maxSteps := 2000000) (disch := omega) only [go_sem, eP, hl, ne_eq, reduceCtorEq, not_false_eq_true, Option.some.injEq, Nat.reduceEqDiff]; (repeat' (first | (refine hK _ ?_; clear hK hkp kp K) | (with_reducible refine And.intro ?_ ?_) | omega))) | ((first | refine aG (fun h => ?_) (fun h => ?_) | refine aD (fun h => ?_) (fun h => ?_) | refine aX (fun h => ?_) (fun h => ?_)) <;> simp only [h]) | refine awp_cond_t rfl ?_ | refine awp_cond_f rfl ?_ | ((refine awp_cond rfl (fun h => ?_) (fun h => ?_) <;> try simp only [ifs] at h) <;> (try (exfalso; omega))) | refine awp_ret ?_))
      have hll : ((ps.take i).map uP).length = i := by rw [List.length_map, hl]
      have hs3 : ((ps.take i).map uP ++ [uP p]) = (ps.take (i + 1)).map uP := by rw [ht, List.map_append]; rfl
      refine nextA (i + 1) ?_ ?_ ?_
      · show i + 1 ≤ ps.length
        omega
      · show ps.length - (i + 1) < ps.length - i
        omega
      have htk1 : (p.keys.map eKy).take p.keys.length = p.keys.map eKy := List.take_of_length_le (by simp)
      have htk2 : (p.kids.map eI).take p.kids.length = p.kids.map eI := List.take_of_length_le (by simp)
      (refine Emb.trans (emb_close (T := ?z3T) (k := ?z3k) (els := ?z3e) (T' := ?z3T1) (k' := ?z3k1) (els' := ?z3e1) (op := ?z3op) (e := ?z3ee) (m := ?z3m) (lo := ?z3lo) (len := ?z3len) 8 i 1 ?z3h ?z3ho ?z3hm ?z3hn ?z3hl ?z3he ?z3hj) ?z3g; (case z3h => rfl); (case z3he => exact at_end _ hll); (case z3ho => (simp only [lk2, and_self, if_true, ↓reduceIte, List.length_map, htk1, set_end _ _ hll, true_and, Nat.reduceLeDiff, Nat.reduceAdd, Nat.lt_irrefl, and_false]; rfl)); (case z3hm => rfl); (case z3hn => simp); (case z3hl => simp [List.length_map, htk1, set_end _ _ hll, true_and, Nat.reduceLeDiff, Nat.reduceAdd, Nat.lt_irrefl, and_false]); (case z3hj => simp [List.length_map, htk1, set_end _ _ hll, true_and, Nat.reduceLeDiff, Nat.reduceAdd, Nat.lt_irrefl, and_false]); simp only [rm, rm2, and_self, Nat.le_refl, Nat.zero_add, Nat.lt_add_one, Nat.reduceLT, Nat.reduceEqDiff, ↓reduceIte, if_true, List.drop_zero, List.set_cons_zero, List.set_cons_succ, List.length_map, htk1, set_end _ _ hll, true_and, Nat.reduceLeDiff, Nat.reduceAdd, Nat.lt_irrefl, and_false])
      (refine Emb.trans (emb_close (T := ?z4T) (k := ?z4k) (els := ?z4e) (T' := ?z4T1) (k' := ?z4k1) (els' := ?z4e1) (op := ?z4op) (e := ?z4ee) (m := ?z4m) (lo := ?z4lo) (len := ?z4len) 8 i 2 ?z4h ?z4ho ?z4hm ?z4hn ?z4hl ?z4he ?z4hj) ?z4g; (case z4h => rfl); (case z4he => exact at_end _ hll); (case z4ho => (simp only [lk2, and_self, if_true, ↓reduceIte, List.length_map, htk2, set_end _ _ hll, true_and, Nat.reduceLeDiff, Nat.reduceAdd, Nat.lt_irrefl, and_false]; rfl)); (case z4hm => rfl); (case z4hn => simp); (case z4hl => simp [List.length_map, htk2, set_end _ _ hll, true_and, Nat.reduceLeDiff, Nat.reduceAdd, Nat.lt_irrefl, and_false]); (case z4hj => simp [List.length_map, htk2, set_end _ _ hll, true_and, Nat.reduceLeDiff, Nat.reduceAdd, Nat.lt_irrefl, and_false]); simp only [rm, rm2, and_self, Nat.le_refl, Nat.zero_add, Nat.lt_add_one, Nat.reduceLT, Nat.reduceEqDiff, ↓reduceIte, if_true, List.drop_zero, List.set_cons_zero, List.set_cons_succ, List.length_map, htk2, set_end _ _ hll, true_and, Nat.reduceLeDiff, Nat.reduceAdd, Nat.lt_irrefl, and_false])
      change Emb _ _ ⟨_, (8, .ul _ _ (_ ++ [uP p]) _) :: _, _⟩ _
      rw [hs3]
      (refine emb [0, 1, 2, 8] ?_ ?_ rfl ?_ ?_ ?_ ?_ <;> simp [okM, okO, lk, ren, renL, renNd, by_, hE, renOp] <;> (try omega) <;> (try (intro i hi; first | (rcases i with _ | _ | i; rfl; rfl; (exfalso; omega)) | (rcases i with _ | _ | _ | i; rfl; rfl; rfl; (exfalso; omega)) | (rcases i with _ | _ | _ | _ | i; rfl; rfl; rfl; rfl; (exfalso; omega)) | (rcases i with _ | _ | _ | _ | _ | i; rfl; rfl; rfl; rfl; rfl; (exfalso; omega)) | (rcases i with _ | _ | _ | _ | _ | _ | i; rfl; rfl; rfl; rfl; rfl; rfl; (exfalso; omega)))))
  · obtain rfl : i = ps.length := by omega
    rw [List.take_length]
    (repeat' (first | refine awp_seq ?_ | refine awp_block ?_ | refine awp_skip ?_ | refine awp_exit ?_ | ((first | refine rR (fun K kp hK hkp => ?_) | refine rD (id := 11) mixed 15 [0,1,2,3,4,5,6,8,9,11,12,7,10,13,14] (fun K kp hK hkp => ?_) | refine iG ?_ | refine iD ?_); simp (implicitDefEqProofs := false) (maxSteps := 2000000) (disch := omega) only [go_sem]; (repeat' (first | (refine hK _ ?_; clear hK hkp kp K) | (with_reducible refine And.intro ?_ ?_) | omega))) | ((first | refine aG (fun h => ?_) (fun h => ?_) | refine aD (fun h => ?_) (fun h => ?_) | refine aX (fun h => ?_) (fun h => ?_)) <;> simp only [h]) | refine awp_cond_t rfl ?_ | refine awp_cond_f rfl ?_ | ((refine awp_cond rfl (fun h => ?_) (fun h => ?_) <;> try simp only [ifs] at h) <;> (try (exfalso; omega))) | refine awp_ret ?_))
    (refine retA_is (by (simp (implicitDefEqProofs := false) (maxSteps := 2000000) (disch := omega) only [go_sem, Go.Proofs.Try.results41, renOp]); rfl) ?_; refine (embV [3] ?_ ?_ ?_ ?_ ?_ ?_).s <;> simp [oneA, okO, lk, ren, renL, renNd, by_, hE, renOp] <;> (try (intro i hi; first | (rcases i with _ | _ | i; rfl; rfl; (exfalso; omega)) | (rcases i with _ | _ | _ | i; rfl; rfl; rfl; (exfalso; omega)) | (rcases i with _ | _ | _ | _ | i; rfl; rfl; rfl; rfl; (exfalso; omega)) | (rcases i with _ | _ | _ | _ | _ | i; rfl; rfl; rfl; rfl; rfl; (exfalso; omega)) | (rcases i with _ | _ | _ | _ | _ | _ | i; rfl; rfl; rfl; rfl; rfl; rfl; (exfalso; omega)))))
end Go.AM
/- find in a tree whose pages bear what is read for good or not. -/
namespace Go.AM
open Go Go.RowKit
attribute [local irreducible] AWP retA
def ePf (f : Bool) (p : PG) : List AV := [.r (.bool p.leaf), .ro f 1 (p.keys.map eKy), .ro f 1 (p.kids.map eI), .ro true 1 (p.high.map eByte), .r (.int .i64 p.next)]
theorem eP_f : eP = ePf true := rfl
@[simp] theorem dfzC_uP (t : Bool) (a : PG) : dfzC t (uP a) = ePf t a := by
  simp only [uP, ePf, dfzC, dfz]
  congr 2
  · congr 1; rw [dfzR_map t eKy eKy (fun _ => rfl)]
  · congr 2; rw [dfzR_map t eI eI (fun _ => rfl)]
set_option maxRecDepth 100000 in
set_option maxHeartbeats 4000000 in
theorem place_conf (G : List (Nat × List Value)) (f t : Bool) (p : PG) (k : Ky) (hs : SrtK p.keys) (hl : p.keys.length ≤ 4) : Con Go.Proofs.Try.prog G 47 [.agg (ePf f p), .ro t 1 (k.map eByte)] [] 0 (Is (.r (.int .i64 (placeM p k))) [] 0) No := by
  have sc := search_con G f t p.keys k hs hl
  have hb := lowB_le k p.keys
  refine con_of_awp Go.Proofs.Try.func47 rfl (by kernel_rfl) (of_decide_eq_true (by kernel_rfl)) ?_; intro E hG hE; subst hG; simp only [ent]
  cases hlf : p.leaf
  · by_cases hx : p.keys[lowB k p.keys]? = some k
    · have hp : placeM p k = lowB k p.keys + 1 := if_pos ⟨hlf, hx⟩
      rw [decide_eq_true hx] at sc
      (repeat' (first | refine awp_seq ?_ | refine awp_block ?_ | refine awp_skip ?_ | refine awp_exit ?_ | ((first | refine rR (fun K kp hK hkp => ?_) | refine cR sc ?_ | refine iG ?_); simp (implicitDefEqProofs := false) (maxSteps := 2000000) (disch := omega) only [go_sem, ePf, hlf]; (repeat' (first | (refine hK _ ?_; clear hK hkp kp K) | (with_reducible refine And.intro ?_ ?_) | omega))) | ((first | refine aG (fun h => ?_) (fun h => ?_) | refine aD (fun h => ?_) (fun h => ?_) | refine aX (fun h => ?_) (fun h => ?_)) <;> simp only [h]) | refine awp_cond_t rfl ?_ | refine awp_cond_f rfl ?_ | ((refine awp_cond rfl (fun h => ?_) (fun h => ?_) <;> try simp only [ifs] at h) <;> (try (exfalso; omega))) | refine awp_ret ?_))
      (refine retA_is (by (simp (implicitDefEqProofs := false) (maxSteps := 2000000) (disch := omega) only [go_sem, Go.Proofs.Try.results47, hp]); rfl) ?_; refine eN hE ?_; simp [oneA, ren, renL, hp])
    · have hp : placeM p k = lowB k p.keys := if_neg fun h => hx h.2
      rw [decide_eq_false hx] at sc
      (repeat' (first | refine awp_seq ?_ | refine awp_block ?_ | refine awp_skip ?_ | refine awp_exit ?_ | ((first | refine rR (fun K kp hK hkp => ?_) | refine cR sc ?_ | refine iG ?_); simp (implicitDefEqProofs := false) (maxSteps := 2000000) (disch := omega) only [go_sem, ePf, hlf]; (repeat' (first | (refine hK _ ?_; clear hK hkp kp K) | (with_reducible refine And.intro ?_ ?_) | omega))) | ((first | refine aG (fun h => ?_) (fun h => ?_) | refine aD (fun h => ?_) (fun h => ?_) | refine aX (fun h => ?_) (fun h => ?_)) <;> simp only [h]) | refine awp_cond_t rfl ?_ | refine awp_cond_f rfl ?_ | ((refine awp_cond rfl (fun h => ?_) (fun h => ?_) <;> try simp only [ifs] at h) <;> (try (exfalso; omega))) | refine awp_ret ?_))
      (refine retA_is (by (simp (implicitDefEqProofs := false) (maxSteps := 2000000) (disch := omega) only [go_sem, Go.Proofs.Try.results47, hp]); rfl) ?_; refine eN hE ?_; simp [oneA, ren, renL, hp])
  · have hp : placeM p k = lowB k p.keys := if_neg fun h => by rw [hlf] at h; cases h.1
    by_cases hx : p.keys[lowB k p.keys]? = some k
    · rw [decide_eq_true hx] at sc
      (repeat' (first | refine awp_seq ?_ | refine awp_block ?_ | refine awp_skip ?_ | refine awp_exit ?_ | ((first | refine rR (fun K kp hK hkp => ?_) | refine cR sc ?_ | refine iG ?_); simp (implicitDefEqProofs := false) (maxSteps := 2000000) (disch := omega) only [go_sem, ePf, hlf]; (repeat' (first | (refine hK _ ?_; clear hK hkp kp K) | (with_reducible refine And.intro ?_ ?_) | omega))) | ((first | refine aG (fun h => ?_) (fun h => ?_) | refine aD (fun h => ?_) (fun h => ?_) | refine aX (fun h => ?_) (fun h => ?_)) <;> simp only [h]) | refine awp_cond_t rfl ?_ | refine awp_cond_f rfl ?_ | ((refine awp_cond rfl (fun h => ?_) (fun h => ?_) <;> try simp only [ifs] at h) <;> (try (exfalso; omega))) | refine awp_ret ?_))
      (refine retA_is (by (simp (implicitDefEqProofs := false) (maxSteps := 2000000) (disch := omega) only [go_sem, Go.Proofs.Try.results47, hp]); rfl) ?_; refine eN hE ?_; simp [oneA, ren, renL, hp])
    · rw [decide_eq_false hx] at sc
      (repeat' (first | refine awp_seq ?_ | refine awp_block ?_ | refine awp_skip ?_ | refine awp_exit ?_ | ((first | refine rR (fun K kp hK hkp => ?_) | refine cR sc ?_ | refine iG ?_); simp (implicitDefEqProofs := false) (maxSteps := 2000000) (disch := omega) only [go_sem, ePf, hlf]; (repeat' (first | (refine hK _ ?_; clear hK hkp kp K) | (with_reducible refine And.intro ?_ ?_) | omega))) | ((first | refine aG (fun h => ?_) (fun h => ?_) | refine aD (fun h => ?_) (fun h => ?_) | refine aX (fun h => ?_) (fun h => ?_)) <;> simp only [h]) | refine awp_cond_t rfl ?_ | refine awp_cond_f rfl ?_ | ((refine awp_cond rfl (fun h => ?_) (fun h => ?_) <;> try simp only [ifs] at h) <;> (try (exfalso; omega))) | refine awp_ret ?_))
      (refine retA_is (by (simp (implicitDefEqProofs := false) (maxSteps := 2000000) (disch := omega) only [go_sem, Go.Proofs.Try.results47, hp]); rfl) ?_; refine eN hE ?_; simp [oneA, ren, renL, hp])
theorem beyond_conf (G : List (Nat × List Value)) (f t : Bool) (p : PG) (k : Ky) (h : p.high = [] ∨ ltK k p.high = true) : Con Go.Proofs.Try.prog G 58 [.agg (ePf f p), .ro t 1 (k.map eByte)] [] 0 (Is (.r (.bool false)) [] 0) No := by
  refine con_of_awp Go.Proofs.Try.func58 rfl (by kernel_rfl) (of_decide_eq_true (by kernel_rfl)) ?_; intro E hG hE; subst hG; simp only [ent]
  by_cases h1 : p.high = []
  · have z1 : ((p.high.length : Int) > 0) = False := eq_false (by rw [h1]; simp)
    (repeat' (first | refine awp_seq ?_ | refine awp_block ?_ | refine awp_skip ?_ | refine awp_exit ?_ | ((first | refine rR (fun K kp hK hkp => ?_) | refine cR (bcmp_con _ _ _ _ _) ?_ | refine iG ?_); simp (implicitDefEqProofs := false) (maxSteps := 2000000) (disch := omega) only [go_sem, ePf, z1]; (repeat' (first | (refine hK _ ?_; clear hK hkp kp K) | (with_reducible refine And.intro ?_ ?_) | omega))) | ((first | refine aG (fun h => ?_) (fun h => ?_) | refine aD (fun h => ?_) (fun h => ?_) | refine aX (fun h => ?_) (fun h => ?_)) <;> simp only [h]) | refine awp_cond_t rfl ?_ | refine awp_cond_f rfl ?_ | ((refine awp_cond rfl (fun h => ?_) (fun h => ?_) <;> try simp only [ifs] at h) <;> (try (exfalso; omega))) | refine awp_ret ?_))
    (refine retA_is (by (simp (implicitDefEqProofs := false) (maxSteps := 2000000) (disch := omega) only [go_sem, Go.Proofs.Try.results58]); rfl) ?_; refine eN hE ?_; simp [oneA, ren, renL])
  · have z1 : ((p.high.length : Int) > 0) = True := eq_true (by have := List.length_pos_iff.2 h1; omega)
    have h2 : ltK k p.high = true := by
      rcases h with h | h
      · exact absurd h h1
      · exact h
    (repeat' (first | refine awp_seq ?_ | refine awp_block ?_ | refine awp_skip ?_ | refine awp_exit ?_ | ((first | refine rR (fun K kp hK hkp => ?_) | refine cR (bcmp_con _ _ _ _ _) ?_ | refine iG ?_); simp (implicitDefEqProofs := false) (maxSteps := 2000000) (disch := omega) only [go_sem, ePf, z1, cmp_ge, h2]; (repeat' (first | (refine hK _ ?_; clear hK hkp kp K) | (with_reducible refine And.intro ?_ ?_) | omega))) | ((first | refine aG (fun h => ?_) (fun h => ?_) | refine aD (fun h => ?_) (fun h => ?_) | refine aX (fun h => ?_) (fun h => ?_)) <;> simp only [h]) | refine awp_cond_t rfl ?_ | refine awp_cond_f rfl ?_ | ((refine awp_cond rfl (fun h => ?_) (fun h => ?_) <;> try simp only [ifs] at h) <;> (try (exfalso; omega))) | refine awp_ret ?_))
    (refine retA_is (by (simp (implicitDefEqProofs := false) (maxSteps := 2000000) (disch := omega) only [go_sem, Go.Proofs.Try.results58]); rfl) ?_; refine eN hE ?_; simp [oneA, ren, renL])
set_option maxRecDepth 100000 in
set_option maxHeartbeats 4000000 in
theorem path_conf (G : List (Nat × List Value)) (f t u : Bool) (ps : List PG) (root d : Nat) (k : Ky) (hp : AllOK ps) (hin : ∀ i x, x ∈ kidsOf ps i → x < ps.length) (hg : Good ps d root [] []) (hr : root < ps.length) (hn : ps.length ≤ 4000) (hd : d < ps.length) :
    Con Go.Proofs.Try.prog G 45 [.agg [.ro t 5 (ps.map (ePf f)), .r (.int .i64 root)], .ro u 1 (k.map eByte)] [] 0 (Is (.ro true 1 ((pathF ps k d root).map eNt)) [] 0) No := by
  have hps := path_step hp k d root [] [] hg (.inl rfl)
  have hpl := path_len ps k d root
  refine con_of_awp Go.Proofs.Try.func45 rfl (by kernel_rfl) (of_decide_eq_true (by kernel_rfl)) ?_; intro E hG hE; subst hG; simp only [ent]
  (repeat' (first | refine awp_seq ?_ | refine awp_block ?_ | refine awp_skip ?_ | refine awp_exit ?_ | ((first | refine rR (fun K kp hK hkp => ?_) | refine rD (id := 8) mixed 9 [0,1,2,3,4,5,6,7,8] (fun K kp hK hkp => ?_) | refine iG ?_ | refine iD ?_); simp (implicitDefEqProofs := false) (maxSteps := 2000000) (disch := omega) only [go_sem]; (repeat' (first | (refine hK _ ?_; clear hK hkp kp K) | (with_reducible refine And.intro ?_ ?_) | omega))) | ((first | refine aG (fun h => ?_) (fun h => ?_) | refine aD (fun h => ?_) (fun h => ?_) | refine aX (fun h => ?_) (fun h => ?_)) <;> simp only [h]) | refine awp_cond_t rfl ?_ | refine awp_cond_f rfl ?_ | ((refine awp_cond rfl (fun h => ?_) (fun h => ?_) <;> try simp only [ifs] at h) <;> (try (exfalso; omega))) | refine awp_ret ?_))
  refine awp_loop (fun j : Nat => ⟨[(5, .s 1 0 (j + 1)), (2, .p 0 0 0), (1, .ro u 1 (k.map eByte))], [(0, .box 24 [.ro t 5 (ps.map (ePf f)), .r (.int .i64 root)]), (1, .lst 3 1 (((pathF ps k d root).take (j + 1)).map eNt))], 2⟩) (fun j => j ≤ d) (fun j => d - j) 0 ?_ ?_ ?_
  · exact Nat.zero_le _
  · have h0 : (pathF ps k d root).take (0 + 1) = [root] := by cases d <;> simp [pathF]
    (refine emb [0, 1] ?_ ?_ rfl ?_ ?_ ?_ ?_ <;> simp [okM, okO, lk, ren, renL, renNd, by_, hE, h0, eNt] <;> (try omega) <;> (try (intro i hi; first | (rcases i with _ | _ | i; rfl; rfl; (exfalso; omega)) | (rcases i with _ | _ | _ | i; rfl; rfl; rfl; (exfalso; omega)) | (rcases i with _ | _ | _ | _ | i; rfl; rfl; rfl; rfl; (exfalso; omega)) | (rcases i with _ | _ | _ | _ | _ | i; rfl; rfl; rfl; rfl; rfl; (exfalso; omega)) | (rcases i with _ | _ | _ | _ | _ | _ | i; rfl; rfl; rfl; rfl; rfl; rfl; (exfalso; omega)))))
  intro j hj
  obtain ⟨x, hx⟩ : ∃ x, (pathF ps k d root)[j]? = some x := ⟨_, List.getElem?_eq_getElem (by omega)⟩
  obtain ⟨b1, b2, b3, b4⟩ := hps j x hx
  have hxl : x < ps.length := by
    rcases b4 with rfl | ⟨y, hy⟩
    · exact hr
    · exact hin y x hy
  have hpx := pg_in hxl
  have kv := fun h => kid_val hp (x := x) h k
  have hok := hp x _ hpx
  generalize hP : pg ps x = p at hpx b1 b2 kv hok
  have htj : ((pathF ps k d root).take (j + 1))[j]? = some x := by rw [List.getElem?_take_of_lt (by omega), hx]
  have hl : ((pathF ps k d root).take (j + 1)).length = j + 1 := by rw [List.length_take]; omega
  have e1 : ((j + 1 : Nat) : Int) - 1 = (j : Int) := by omega
  have zj : ((j : Int) < ((j + 1 : Nat) : Int)) = True := eq_true (by omega)
  have bc := beyond_conf E.G f u p k b1
  have pc := place_conf E.G f u p k (srt_page hok) hok.nk
  by_cases hjd : j = d
  · subst hjd
    have b2 : p.leaf = true := by rw [b2]; simp
    simp only [ePf, b2] at bc pc
    (repeat' (first | refine awp_seq ?_ | refine awp_block ?_ | refine awp_skip ?_ | refine awp_exit ?_ | ((first | refine rR (fun K kp hK hkp => ?_) | refine rD (id := 8) mixed 9 [0,1,2,3,4,5,6,7,8] (fun K kp hK hkp => ?_) | refine cR bc ?_ | refine cD bc ?_ | refine cR pc ?_ | refine cD pc ?_ | refine iG ?_ | refine iD ?_); simp (implicitDefEqProofs := false) (maxSteps := 2000000) (disch := omega) only [go_sem, e1, zj, htj, hl, hpx, b2, ePf, eNt]; (repeat' (first | (refine hK _ ?_; clear hK hkp kp K) | (with_reducible refine And.intro ?_ ?_) | omega))) | ((first | refine aG (fun h => ?_) (fun h => ?_) | refine aD (fun h => ?_) (fun h => ?_) | refine aX (fun h => ?_) (fun h => ?_)) <;> simp only [h]) | refine awp_cond_t rfl ?_ | refine awp_cond_f rfl ?_ | ((refine awp_cond rfl (fun h => ?_) (fun h => ?_) <;> try simp only [ifs] at h) <;> (try (exfalso; omega))) | refine awp_ret ?_))
    have htk : (pathF ps k j root).take (j + 1) = pathF ps k j root := List.take_of_length_le (by omega)
    rw [htk]
    (refine retA_is (by (simp (implicitDefEqProofs := false) (maxSteps := 2000000) (disch := omega) only [go_sem, Go.Proofs.Try.results45, hpl]); rfl) ?_; refine embS_frz (by simp only [oneA]; simp (implicitDefEqProofs := false) (maxSteps := 2000000) (disch := omega) only [go_sem, hpl]; rfl) ?_; refine (embV_nil hE (by simp) ?_).s; simp [oneA, ren, renL, hpl])
    exact List.take_of_length_le (by simp [hpl])
  · have b2 : p.leaf = false := by rw [b2]; simp [hjd]
    have b3 := b3 (by omega)
    have kv := kv b2
    simp only [ePf, b2] at bc pc
    have htk : (pathF ps k d root).take (j + 1 + 1) = (pathF ps k d root).take (j + 1) ++ [kidM ps k x] := by rw [List.take_add_one (i := j + 1), b3]; rfl
    (repeat' (first | refine awp_seq ?_ | refine awp_block ?_ | refine awp_skip ?_ | refine awp_exit ?_ | ((first | refine rR (fun K kp hK hkp => ?_) | refine rD (id := 8) mixed 9 [0,1,2,3,4,5,6,7,8] (fun K kp hK hkp => ?_) | refine cR bc ?_ | refine cD bc ?_ | refine cR pc ?_ | refine cD pc ?_ | refine iG ?_ | refine iD ?_); simp (implicitDefEqProofs := false) (maxSteps := 2000000) (disch := omega) only [go_sem, e1, zj, htj, hl, hpx, b2, kv, ePf, eI, eNt]; (repeat' (first | (refine hK _ ?_; clear hK hkp kp K) | (with_reducible refine And.intro ?_ ?_) | omega))) | ((first | refine aG (fun h => ?_) (fun h => ?_) | refine aD (fun h => ?_) (fun h => ?_) | refine aX (fun h => ?_) (fun h => ?_)) <;> simp only [h]) | refine awp_cond_t rfl ?_ | refine awp_cond_f rfl ?_ | ((refine awp_cond rfl (fun h => ?_) (fun h => ?_) <;> try simp only [ifs] at h) <;> (try (exfalso; omega))) | refine awp_ret ?_))
    ((first | (refine nextB (j + 1) ?_ ?_ ?_) | (refine nextA (j + 1) ?_ ?_ ?_) | (refine nextE (j + 1) ?_ ?_ ?_)); rotate_left; (· (try dsimp only); (first | omega | (simp only [List.length_drop, List.length_cons, List.length_append]; omega) | (simp; done) | (simp; omega))); (· (refine emb [0, 4] ?_ ?_ rfl ?_ ?_ ?_ ?_ <;> simp [okM, okO, lk, ren, renL, renNd, by_, hE, htk, eNt, List.take_take, Nat.min_self] <;> (try omega) <;> (try (intro i hi; first | (rcases i with _ | _ | i; rfl; rfl; (exfalso; omega)) | (rcases i with _ | _ | _ | i; rfl; rfl; rfl; (exfalso; omega)) | (rcases i with _ | _ | _ | _ | i; rfl; rfl; rfl; rfl; (exfalso; omega)) | (rcases i with _ | _ | _ | _ | _ | i; rfl; rfl; rfl; rfl; rfl; (exfalso; omega)) | (rcases i with _ | _ | _ | _ | _ | _ | i; rfl; rfl; rfl; rfl; rfl; rfl; (exfalso; omega)))))))
    omega
end Go.AM
/- The abstract machine: calls of the library that rewrite one own row of plain cells. -/
/- slices.Delete of one element of a row of one-cell elements (keys, numbers). -/
namespace Go.Proofs.Yteebiklebedneaa
open Go.RowKit Go.Lib
theorem dinfo_I : (Try.prog.info? 3).map (fun i => (i.zero, i.size, i.bytes)) = some (some (.int .i64 0), 1, 8) := by kernel_rfl
end Go.Proofs.Yteebiklebedneaa
namespace Go.Proofs.Yteebiklebedneaa
open Go.RowKit Go.Lib
theorem dinfo_K : (Try.prog.info? 30).map (fun i => (i.zero, i.size, i.bytes)) = some (some (.slice none 0 0), 1, 24) := by kernel_rfl
end Go.Proofs.Yteebiklebedneaa
/- slices.Delete of one element of an own row of one-cell elements, as a contract. -/
namespace Go.AM
open Go Go.RowKit
def sg (x : AV) : List AV := [x]
end Go.AM
/- slices.Insert of one element at rows of one-cell elements: the library's own text walked, turned to this seat from the shelf's walk at []int (by gen_ins.py). -/
set_option linter.unusedVariables false
set_option linter.unusedSimpArgs false
namespace Go.Proofs.Yteebiklebedneaa
open Go.RowKit Go.Lib
theorem step_copy_runI {P : Program} {ops : Array Oper} {o : Oper} {a : Act} {w : World} {K : Act → World → Prop} {Q : Exit → Act → World → Prop} {E : Prop}
    (hg : o.guard = none) (d x : Operand) (dT sT : TypeId) (hop : o.op = Op.call { callee := Callee.builtin Builtin.copy, args := #[d, x], argTypes := #[dT, sT] })
    (v u : Value) (hd : a.eval d = v) (hx : a.eval x = u) {v' : Value} {w' : World} (hr : (Builtin.copy_ #[dT, sT] o.type #[v, u]).run P w = .ok v' w') (hK : K (a.put o.dst v') w') :
    if Region.wanted o (yielded ops a.tmps) = true then Oper.wp P o a w K Q else E := by
  have hw : Region.wanted o (yielded ops a.tmps) = true := by simp [Region.wanted, hg]
  rw [if_pos hw]
  unfold Oper.wp
  simp [execOp, hop, resolve, invoke, builtin, hd, hx, hr, Result.andThen]
  exact hK

theorem isSome_setC (b : Nat) (vs : List Value) (o : Nat) (w : World) (h : ∀ j, j < vs.length → (w.cell? ⟨b, o + j, none⟩).isSome = true) (k : Nat) (hk : (w.cell? ⟨b, k, none⟩).isSome = true) : ((w.setCells b o vs).cell? ⟨b, k, none⟩).isSome = true := by
  by_cases hin : o ≤ k ∧ k < o + vs.length
  · have := World.cell?_setCells_in b vs o w h (k - o) (by omega)
    rw [show o + (k - o) = k by omega] at this
    rw [this]; rfl
  · rw [World.cell?_setCells_out b vs o w ⟨b, k, none⟩ (fun _ _ => by show k < o ∨ o + vs.length ≤ k; omega)]
    exact hk

set_option maxHeartbeats 4000000 in
set_option maxRecDepth 1000000 in
theorem insI_shift (b off n c i vb voff m vc : Nat) (cs vs : List Value) (w : World) (hi : i < n) (hm : 0 < m) (hroom : n + m ≤ c) (hc63 : n + m ≤ 9223372036854775807) (hvb : vb ≠ b)
    (hcl : cs.length = n) (hvl : vs.length = m)
    (hcs : ∀ j v, cs[j]? = some v → w.cell? ⟨b, off + j, none⟩ = some v) (hsp : ∀ j, j < n + m → (w.cell? ⟨b, off + j, none⟩).isSome = true) (hfz : ∀ j, j < n + m → w.frozen? ⟨b, off + j, none⟩ = false)
    (hvs : ∀ j v, vs[j]? = some v → w.cell? ⟨vb, voff + j, none⟩ = some v) (h1c : ∀ v ∈ cs, v.oneCell' = true) (h1v : ∀ v ∈ vs, v.oneCell' = true)
    (tA tB : TypeId) (kA kB : Nat) (hsa : w.shape? vb = some (tA, kA)) (hsb : w.shape? b = some (tB, kB)) (hkB : kB ≠ 0) (hfa : w.frozen? ⟨vb, voff, none⟩ = false) (hfe : w.frozen? ⟨vb, kA, none⟩ = false) :
    Calls Try.prog 49 #[.slice (some ⟨b, off, none⟩) n c, .int .i64 i, .slice (some ⟨vb, voff, none⟩) m vc] w fun e w' =>
      e = .returned (.slice (some ⟨b, off, none⟩) (n + m) c) ∧ w' = (w.drew.setCells b (off + (i + m)) (cs.drop i)).setCells b (off + i) vs := by
  have hz1 : ¬ ((m : Int) = 0) := by omega
  have hz2 : ¬ ((i : Int) = (n : Int)) := by omega
  have hsz : (Try.prog.info? 3).map (·.size) = some 1 := by
    obtain ⟨i0, hi0, h0, h1, h2⟩ := info_parts dinfo_I
    rw [hi0]; simp [h1]
  have hov : ∀ lb cb, (callFunc 62 #[.slice (some ⟨vb, voff, none⟩) m vc, .slice (some ⟨b, off + (i + m), none⟩) lb cb]).run Try.prog w = .ok (.value (.bool false)) w := fun lb cb => by
    rw [run_callFunc_extern Try.func62 (by kernel_rfl) (by kernel_rfl) (by kernel_rfl) (e := Extern.SlicesOverlaps.overlaps #[50, 50] #[4]) (by kernel_rfl),
      Lib.run_overlaps_apart w 50 4 3 Try.underlying50 1 (Try.sizeOf3) ⟨vb, voff, none⟩ ⟨b, off + (i + m), none⟩ m vc lb cb hvb tA tB kA kB hsa hsb hkB hfa hfe]
    rfl
  have hdl : (cs.drop i).length = n - i := by rw [List.length_drop, hcl]
  have mixed : Try.prog.follows .mixedOrders = true := by kernel_rfl
  have hw1 : IntKind.i64.wrap ((i : Int) + (m : Int)) = (i : Int) + (m : Int) := by rw [IntKind.wrap_i64]; omega
  have hb1 : (0 : Int) ≤ (i : Int) + (m : Int) := by omega
  have hin : i ≤ n := by omega
  have htn : ((i : Int) + (m : Int)).toNat = i + m := by omega
  have hb2 : ¬ (c = i + m) := by omega
  have hb3 : (i : Int) ≤ (n : Int) + (m : Int) := by omega
  have hb4 : ¬ (c = i) := by omega
  have hcp1 : ∀ ty dc sc, (Builtin.copy_ #[50, 50] ty #[.slice (some ⟨b, off + (i + m), none⟩) (n + m - (i + m)) dc, .slice (some ⟨b, off + i, none⟩) (n + m - i) sc]).run Try.prog w.drew = .ok (goInt (cs.drop i).length) (w.drew.setCells b (off + (i + m)) (cs.drop i)) := fun ty dc sc =>
    run_copy_cells w.drew _ _ ty 3 b (off + (i + m)) (n + m - (i + m)) dc ⟨b, off + i, none⟩ (n + m - i) sc (cs.drop i) Try.underlying50 hsz (by rw [hdl]; simp only [Nat.min_def]; split <;> omega)
      (fun j v hj => by rw [Addr.add_lit, Nat.add_assoc]; exact hcs (i + j) v (by rwa [List.getElem?_drop] at hj))
      (fun j hj => by rw [Nat.add_assoc]; exact hsp _ (by omega)) (fun j hj => by rw [Nat.add_assoc]; exact hfz _ (by omega)) (fun v hv => h1c v (List.mem_of_mem_drop hv))
  obtain ⟨W1, hW1⟩ : ∃ W1, W1 = w.drew.setCells b (off + (i + m)) (cs.drop i) := ⟨_, rfl⟩
  have hsp1 : ∀ k, k < n + m → (W1.cell? ⟨b, off + k, none⟩).isSome = true := fun k hk => by
    rw [hW1]
    exact isSome_setC b _ _ _ (fun j hj => by rw [Nat.add_assoc]; exact hsp _ (by omega)) _ (hsp k hk)
  have hcp2 : ∀ (W : World), (∀ x, W.cell? x = W1.cell? x) → (∀ x, W.frozen? x = W1.frozen? x) → ∀ ty dc, (Builtin.copy_ #[50, 50] ty #[.slice (some ⟨b, off + i, none⟩) (n + m - i) dc, .slice (some ⟨vb, voff, none⟩) m vc]).run Try.prog W = .ok (goInt vs.length) (W.setCells b (off + i) vs) := fun W hWc hWf ty dc =>
    run_copy_cells W _ _ ty 3 b (off + i) (n + m - i) dc ⟨vb, voff, none⟩ m vc vs Try.underlying50 hsz (by rw [hvl]; simp only [Nat.min_def]; split <;> omega)
      (fun j v hj => by
        rw [Addr.add_lit, hWc, hW1, World.cell?_setCells_out b _ _ _ _ (fun h _ => absurd h hvb)]
        exact hvs j v hj)
      (fun j hj => by rw [hWc, Nat.add_assoc]; exact hsp1 _ (by omega)) (fun j hj => by rw [hWf, hW1, World.frozen?_setCells, Nat.add_assoc]; exact hfz _ (by omega)) h1v
  rw [← hW1] at hcp1
  go_enter Try.func49, Try.ntmps49
  go_wp2_with (simp only [hov])
  go_region_law_o (refine step_copy_runI rfl _ _ 50 50 rfl _ _ (by simp [Act.eval, Act.put]) (by simp [Act.eval, Act.put]) (hcp1 _ _ _) ?_)
  go_wp2_with (at_builtin; refine wpList_copy_runI _ rfl _ _ 50 50 rfl _ _ rfl rfl (hcp2 _ (fun _ => rfl) (fun _ => rfl) _ _) ?_)
  go_ret
  first | exact ⟨rfl, rfl⟩ | exact ⟨rfl, by rw [hW1]⟩
set_option maxHeartbeats 4000000 in
set_option maxRecDepth 1000000 in
theorem insI_end_room (b off n c vb voff m vc : Nat) (vs : List Value) (w : World) (hm : 0 < m) (hroom : n + m ≤ c) (hc63 : n + m ≤ 9223372036854775807)
    (hvl : vs.length = m) (hsp : ∀ j, j < m → (w.cell? ⟨b, off + n + j, none⟩).isSome = true) (hfz : ∀ j, j < m → w.frozen? ⟨b, off + n + j, none⟩ = false)
    (hvs : ∀ j v, vs[j]? = some v → w.cell? ⟨vb, voff + j, none⟩ = some v) (h1v : ∀ v ∈ vs, v.oneCell' = true) :
    Calls Try.prog 49 #[.slice (some ⟨b, off, none⟩) n c, .int .i64 n, .slice (some ⟨vb, voff, none⟩) m vc] w fun e w' =>
      e = .returned (.slice (some ⟨b, off, none⟩) (n + m) c) ∧ w' = w.setCells b (off + n) vs := by
  have mixed : Try.prog.follows .mixedOrders = true := by kernel_rfl
  have hz1 : ¬ ((m : Int) = 0) := by omega
  have hsrc : Src Try.prog 1 50 (.slice (some ⟨vb, voff, none⟩) m vc) m vs w := Src.ofSlice w Try.underlying50 ⟨vb, voff, none⟩ m vc vs (by omega) (fun j u hj => by rw [Addr.add_lit]; exact hvs j u hj) h1v
  go_enter Try.func49, Try.ntmps49
  go_wp2_with (at_builtin; refine wpList_append_room1 _ rfl _ _ 50 50 rfl 3 _ _ Try.underlying50 dinfo_I b off n c rfl _ rfl m vs hsrc hroom (by rw [hvl]; exact hsp) (by rw [hvl]; exact hfz) ?_)
  go_ret
  exact ⟨rfl, rfl⟩
set_option maxHeartbeats 4000000 in
set_option maxRecDepth 1000000 in
theorem insI_end_grow (base : Option Addr) (n c vb voff m vc : Nat) (cs vs : List Value) (w : World) (hm : 0 < m) (hnc : n ≤ c) (hroom : c < n + m) (hbig : (n + m) * 8 ≤ 140737488355328)
    (hcl : cs.length = n) (hvl : vs.length = m) (hnil : base = none → n = 0)
    (hcs : ∀ a, base = some a → ∀ j v, cs[j]? = some v → w.cell? (a.add j) = some v)
    (hvs : ∀ j v, vs[j]? = some v → w.cell? ⟨vb, voff + j, none⟩ = some v) (h1v : ∀ v ∈ vs, v.oneCell' = true) :
    Calls Try.prog 49 #[.slice base n c, .int .i64 n, .slice (some ⟨vb, voff, none⟩) m vc] w fun e w' =>
      e = .returned (.slice (some ⟨w.heap.size, 0, none⟩) (n + m) (grownCap w (n + m) c 3)) ∧
      w' = w.drew.alloc (.cells ((cs ++ vs).toArray ++ Builtin.zeroCells (Value.int .i64 0).cells (grownCap w (n + m) c 3 - (n + m))) 3) := by
  have mixed : Try.prog.follows .mixedOrders = true := by kernel_rfl
  obtain ⟨i0, hi0, hz0, hzs, hzb⟩ := info_parts dinfo_I
  have hz1 : ¬ ((m : Int) = 0) := by omega
  have hsrc : Src Try.prog i0.size 50 (.slice (some ⟨vb, voff, none⟩) m vc) m vs w := by
    rw [hzs]
    exact Src.ofSlice w Try.underlying50 ⟨vb, voff, none⟩ m vc vs (by omega) (fun j u hj => by rw [Addr.add_lit]; exact hvs j u hj) h1v
  have hold : (Builtin.firstCells i0.size n (.slice base n c)).run Try.prog w.drew = .ok cs.toArray w.drew := by
    rw [hzs]
    cases base with
    | none =>
      have h0 := hnil rfl
      subst h0
      rw [List.length_eq_zero_iff.1 hcl]
      exact run_firstCells_none w.drew 1 0 0 c
    | some a => exact run_firstCells_some w.drew 1 n a n c cs (by omega) (fun j v hj => hcs a rfl j v hj)
  have hrun : ∀ ty, (Builtin.append_ #[50, 50] ty #[.slice base n c, .slice (some ⟨vb, voff, none⟩) m vc]).run Try.prog w = _ := fun ty =>
    run_append_grow_src w 50 50 ty 3 i0 _ Try.underlying50 hi0 hz0 base n c cs hold _ m vs hsrc hroom (by omega) (by rw [hzb]; exact growslice_fits hroom hbig)
  go_enter Try.func49, Try.ntmps49
  cases base with
  | none =>
    have h0 := hnil rfl
    subst h0
    go_wp2_with (at_builtin; refine Lib.wpList_append_run _ rfl _ _ _ _ rfl _ _ rfl rfl _ _ (hrun _) ?_)
    go_ret
    exact ⟨rfl, rfl⟩
  | some a =>
    obtain ⟨ab, ao, asp⟩ := a
    go_wp2_with (at_builtin; refine Lib.wpList_append_run _ rfl _ _ _ _ rfl _ _ rfl rfl _ _ (hrun _) ?_)
    all_goals (go_ret; exact ⟨rfl, rfl⟩)
set_option maxHeartbeats 4000000 in
set_option maxRecDepth 1000000 in
theorem insI_grow (b off n c i vb voff m vc : Nat) (cs vs : List Value) (w : World) (hi : i < n) (hm : 0 < m) (hnc : n ≤ c) (hroom : c < n + m) (hbig : (n + m) * 8 ≤ 140737488355328)
    (hcl : cs.length = n) (hvl : vs.length = m)
    (hcs : ∀ j v, cs[j]? = some v → w.cell? ⟨b, off + j, none⟩ = some v)
    (hvs : ∀ j v, vs[j]? = some v → w.cell? ⟨vb, voff + j, none⟩ = some v) (h1c : ∀ v ∈ cs, v.oneCell' = true) (h1v : ∀ v ∈ vs, v.oneCell' = true) :
    Calls Try.prog 49 #[.slice (some ⟨b, off, none⟩) n c, .int .i64 i, .slice (some ⟨vb, voff, none⟩) m vc] w fun e w' =>
      e = .returned (.slice (some ⟨w.heap.size, 0, none⟩) (n + m) (grownCap w (n + m) c 3)) ∧
      w' = (((w.alloc (.cells ((cs.take i).toArray ++ Builtin.zeroCells (Value.int .i64 0).cells (n + m - i) ++ Builtin.zeroCells (Value.int .i64 0).cells (grownCap w (n + m) c 3 - (n + m))) 3)).drew.setCells w.heap.size i vs).drew).setCells w.heap.size (i + m) (cs.drop i) := by
  have mixed : Try.prog.follows .mixedOrders = true := by kernel_rfl
  obtain ⟨i0, hi0, hz0, hzs, hzb⟩ := info_parts dinfo_I
  have hz1 : ¬ ((m : Int) = 0) := by omega
  have hz2 : ¬ ((i : Int) = (n : Int)) := by omega
  have hz3 : (c : Int) < (n : Int) + (m : Int) := by omega
  have hsz : (Try.prog.info? 3).map (·.size) = some 1 := by rw [hi0]; simp [hzs]
  have hbw : b < w.heap.size := block_lt_of_cell (hcs 0 _ (List.getElem?_eq_getElem (by omega)))
  have hvw : vb < w.heap.size := block_lt_of_cell (hvs 0 _ (List.getElem?_eq_getElem (by omega)))
  have hkk : (n : Int) + (m : Int) - (i : Int) = ((n + m - i : Nat) : Int) := by omega
  have hik : i + (n + m - i) = n + m := by omega
  have hold : (Builtin.firstCells i0.size i (.slice (some ⟨b, off, none⟩) i c)).run Try.prog w.drew = .ok (cs.take i).toArray w.drew := by
    rw [hzs]
    exact run_firstCells_some w.drew 1 i ⟨b, off, none⟩ i c (cs.take i) (by rw [List.length_take]; omega) (fun j v hj => by
      rw [Addr.add_lit]
      rw [List.getElem?_take] at hj
      split at hj
      · exact hcs j v hj
      · cases hj)
  have hrz : ∀ ty, (Builtin.append_ #[50, 3] ty #[.slice (some ⟨b, off, none⟩) i c, .int .i64 ((n : Int) + (m : Int) - (i : Int))]).run Try.prog w =
      .ok (.slice (some ⟨w.heap.size, 0, none⟩) (n + m) (grownCap w (n + m) c 3)) (w.drew.alloc (.cells ((cs.take i).toArray ++ Builtin.zeroCells (Value.int .i64 0).cells (n + m - i) ++ Builtin.zeroCells (Value.int .i64 0).cells (grownCap w (n + m) c 3 - (n + m))) 3)) := fun ty => by
    have h := Lib.run_append_grow_zeros w 50 3 ty 3 i0 _ .i64 .i64 Try.underlying50 Try.underlying3 hi0 hz0 (some ⟨b, off, none⟩) i c (cs.take i) hold (n + m - i) (by omega) (by omega) (by omega) (by omega) (by rw [hzb]; omega) (by rw [hzb, hik]; exact growslice_fits hroom hbig)
    rw [hik] at h
    rw [hkk]
    exact h
  obtain ⟨G, hG⟩ : ∃ G, G = grownCap w (n + m) c 3 := ⟨_, rfl⟩
  obtain ⟨ROW, hROW⟩ : ∃ ROW : Array Value, ROW = (cs.take i).toArray ++ Builtin.zeroCells (Value.int .i64 0).cells (n + m - i) ++ Builtin.zeroCells (Value.int .i64 0).cells (G - (n + m)) := ⟨_, rfl⟩
  rw [← hG] at hrz ⊢
  rw [← hROW] at hrz ⊢
  have hRl : n + m ≤ ROW.size := by
    rw [hROW]
    simp [Builtin.zeroCells, Value.cells]
    omega
  obtain ⟨W1, hW1⟩ : ∃ W1, W1 = w.drew.alloc (.cells ROW 3) := ⟨_, rfl⟩
  rw [← hW1] at hrz
  have hN : ∀ j, j < n + m → (W1.cell? ⟨w.heap.size, j, none⟩).isSome = true := fun j hj => by
    rw [hW1, World.cell?_alloc_at (w := w.drew) ROW _ w.heap.size j rfl, Array.getElem?_eq_getElem (by omega)]; rfl
  have hNf : ∀ j, W1.frozen? ⟨w.heap.size, j, none⟩ = false := fun j => by rw [hW1]; exact World.frozen?_alloc_at (w := w.drew) ROW _ w.heap.size j rfl
  have hOb : ∀ j v, w.cell? ⟨b, j, none⟩ = some v → W1.cell? ⟨b, j, none⟩ = some v := fun j v h => by rw [hW1, World.cell?_alloc_past (w := w.drew) _ b j hbw]; exact h
  have hOv : ∀ j v, w.cell? ⟨vb, j, none⟩ = some v → W1.cell? ⟨vb, j, none⟩ = some v := fun j v h => by rw [hW1, World.cell?_alloc_past (w := w.drew) _ vb j hvw]; exact h
  have hcpA : ∀ (W : World), (∀ x, W.cell? x = W1.cell? x) → (∀ x, W.frozen? x = W1.frozen? x) → ∀ ty dc, (Builtin.copy_ #[50, 50] ty #[.slice (some ⟨w.heap.size, i, none⟩) (n + m - i) dc, .slice (some ⟨vb, voff, none⟩) m vc]).run Try.prog W = .ok (goInt vs.length) (W.setCells w.heap.size i vs) := fun W hWc hWf ty dc =>
    run_copy_cells W _ _ ty 3 w.heap.size i (n + m - i) dc ⟨vb, voff, none⟩ m vc vs Try.underlying50 hsz (by rw [hvl]; simp only [Nat.min_def]; split <;> omega)
      (fun j v hj => by rw [Addr.add_lit, hWc]; exact hOv _ v (hvs j v hj))
      (fun j hj => by rw [hWc]; exact hN _ (by omega)) (fun j hj => by rw [hWf]; exact hNf _) h1v
  have hGn : n + m ≤ G := by rw [hG]; exact grownCap_ge w _ _ _
  have hG63 : G ≤ 9223372036854775807 := by
    have := grownCap_le_maxLen w (n + m) c 3 (by unfold maxLen; omega)
    rw [← hG] at this
    unfold maxLen at this
    omega
  have hGi : ¬ (G = i) := by omega
  have hGim : ¬ (G = i + m) := by omega
  have hci : ¬ (c = i) := by omega
  have hbN : b ≠ w.heap.size := by omega
  have hdl : (cs.drop i).length = n - i := by rw [List.length_drop, hcl]
  have hcpB : ∀ (W : World), (∀ x, W.cell? x = (W1.setCells w.heap.size i vs).cell? x) → (∀ x, W.frozen? x = (W1.setCells w.heap.size i vs).frozen? x) → ∀ ty dc sc, (Builtin.copy_ #[50, 50] ty #[.slice (some ⟨w.heap.size, i + m, none⟩) (n + m - (i + m)) dc, .slice (some ⟨b, off + i, none⟩) (n - i) sc]).run Try.prog W = .ok (goInt (cs.drop i).length) (W.setCells w.heap.size (i + m) (cs.drop i)) := fun W hWc hWf ty dc sc =>
    run_copy_cells W _ _ ty 3 w.heap.size (i + m) (n + m - (i + m)) dc ⟨b, off + i, none⟩ (n - i) sc (cs.drop i) Try.underlying50 hsz (by rw [hdl]; simp only [Nat.min_def]; split <;> omega)
      (fun j v hj => by
        rw [Addr.add_lit, hWc, World.cell?_setCells_out _ _ _ _ _ (fun h _ => absurd h hbN), Nat.add_assoc]
        exact hOb _ v (hcs (i + j) v (by rwa [List.getElem?_drop] at hj)))
      (fun j hj => by rw [hWc]; exact isSome_setC _ _ _ _ (fun t ht => hN _ (by omega)) _ (hN _ (by omega)))
      (fun j hj => by rw [hWf, World.frozen?_setCells]; exact hNf _) (fun v hv => h1c v (List.mem_of_mem_drop hv))
  subst hW1
  have hE1 : ∀ x, ((w.alloc (.cells ROW 3)).drew).cell? x = (w.drew.alloc (.cells ROW 3)).cell? x := fun x => rfl
  have hE2 : ∀ x, ((w.alloc (.cells ROW 3)).drew).frozen? x = (w.drew.alloc (.cells ROW 3)).frozen? x := fun x => rfl
  have hF1 : ∀ x, (((w.alloc (.cells ROW 3)).drew.setCells w.heap.size i vs).drew).cell? x = ((w.drew.alloc (.cells ROW 3)).setCells w.heap.size i vs).cell? x := fun x => rfl
  have hF2 : ∀ x, (((w.alloc (.cells ROW 3)).drew.setCells w.heap.size i vs).drew).frozen? x = ((w.drew.alloc (.cells ROW 3)).setCells w.heap.size i vs).frozen? x := fun x => rfl
  have hw1 : IntKind.i64.wrap ((i : Int) + (m : Int)) = (i : Int) + (m : Int) := by rw [IntKind.wrap_i64]; omega
  have hb1 : (0 : Int) ≤ (i : Int) + (m : Int) := by omega
  have hin : i ≤ n := by omega
  have htn : ((i : Int) + (m : Int)).toNat = i + m := by omega
  have hb3 : (i : Int) ≤ (n : Int) := by omega
  clear hkk hik hold hROW hG hRl
  go_enter Try.func49, Try.ntmps49
  go_wp2_with (first
    | (at_builtin; refine Lib.wpList_append_run _ rfl _ _ _ _ rfl _ _ rfl rfl _ _ (hrz _) ?_)
    | (at_builtin; refine wpList_copy_runI _ rfl _ _ 50 50 rfl _ _ rfl rfl (hcpA _ hE1 hE2 _ _) ?_)
    | (at_builtin; refine wpList_copy_runI _ rfl _ _ 50 50 rfl _ _ rfl rfl (hcpB _ (fun _ => rfl) (fun _ => rfl) _ _ _) ?_))
  go_region_law_o (refine step_copy_runI rfl _ _ 50 50 rfl (.slice (some ⟨w.heap.size, i + m, none⟩) (n + m - (i + m)) (G - (i + m))) (.slice (some ⟨b, off + i, none⟩) (n - i) (c - i)) (by simp [Act.eval, Act.put]) (by simp [Act.eval, Act.put]) (hcpB _ hF1 hF2 3 (G - (i + m)) (c - i)) ?_)
  go_wp2
  go_ret
  exact ⟨rfl, rfl⟩
set_option maxHeartbeats 4000000 in
set_option maxRecDepth 1000000 in
theorem insK_shift (b off n c i vb voff m vc : Nat) (cs vs : List Value) (w : World) (hi : i < n) (hm : 0 < m) (hroom : n + m ≤ c) (hc63 : n + m ≤ 9223372036854775807) (hvb : vb ≠ b)
    (hcl : cs.length = n) (hvl : vs.length = m)
    (hcs : ∀ j v, cs[j]? = some v → w.cell? ⟨b, off + j, none⟩ = some v) (hsp : ∀ j, j < n + m → (w.cell? ⟨b, off + j, none⟩).isSome = true) (hfz : ∀ j, j < n + m → w.frozen? ⟨b, off + j, none⟩ = false)
    (hvs : ∀ j v, vs[j]? = some v → w.cell? ⟨vb, voff + j, none⟩ = some v) (h1c : ∀ v ∈ cs, v.oneCell' = true) (h1v : ∀ v ∈ vs, v.oneCell' = true)
    (tA tB : TypeId) (kA kB : Nat) (hsa : w.shape? vb = some (tA, kA)) (hsb : w.shape? b = some (tB, kB)) (hkB : kB ≠ 0) (hfa : w.frozen? ⟨vb, voff, none⟩ = false) (hfe : w.frozen? ⟨vb, kA, none⟩ = false) :
    Calls Try.prog 48 #[.slice (some ⟨b, off, none⟩) n c, .int .i64 i, .slice (some ⟨vb, voff, none⟩) m vc] w fun e w' =>
      e = .returned (.slice (some ⟨b, off, none⟩) (n + m) c) ∧ w' = (w.drew.setCells b (off + (i + m)) (cs.drop i)).setCells b (off + i) vs := by
  have hz1 : ¬ ((m : Int) = 0) := by omega
  have hz2 : ¬ ((i : Int) = (n : Int)) := by omega
  have hsz : (Try.prog.info? 30).map (·.size) = some 1 := by
    obtain ⟨i0, hi0, h0, h1, h2⟩ := info_parts dinfo_K
    rw [hi0]; simp [h1]
  have hov : ∀ lb cb, (callFunc 60 #[.slice (some ⟨vb, voff, none⟩) m vc, .slice (some ⟨b, off + (i + m), none⟩) lb cb]).run Try.prog w = .ok (.value (.bool false)) w := fun lb cb => by
    rw [run_callFunc_extern Try.func60 (by kernel_rfl) (by kernel_rfl) (by kernel_rfl) (e := Extern.SlicesOverlaps.overlaps #[49, 49] #[4]) (by kernel_rfl),
      Lib.run_overlaps_apart w 49 4 30 Try.underlying49 1 (Try.sizeOf30) ⟨vb, voff, none⟩ ⟨b, off + (i + m), none⟩ m vc lb cb hvb tA tB kA kB hsa hsb hkB hfa hfe]
    rfl
  have hdl : (cs.drop i).length = n - i := by rw [List.length_drop, hcl]
  have mixed : Try.prog.follows .mixedOrders = true := by kernel_rfl
  have hw1 : IntKind.i64.wrap ((i : Int) + (m : Int)) = (i : Int) + (m : Int) := by rw [IntKind.wrap_i64]; omega
  have hb1 : (0 : Int) ≤ (i : Int) + (m : Int) := by omega
  have hin : i ≤ n := by omega
  have htn : ((i : Int) + (m : Int)).toNat = i + m := by omega
  have hb2 : ¬ (c = i + m) := by omega
  have hb3 : (i : Int) ≤ (n : Int) + (m : Int) := by omega
  have hb4 : ¬ (c = i) := by omega
  have hcp1 : ∀ ty dc sc, (Builtin.copy_ #[49, 49] ty #[.slice (some ⟨b, off + (i + m), none⟩) (n + m - (i + m)) dc, .slice (some ⟨b, off + i, none⟩) (n + m - i) sc]).run Try.prog w.drew = .ok (goInt (cs.drop i).length) (w.drew.setCells b (off + (i + m)) (cs.drop i)) := fun ty dc sc =>
    run_copy_cells w.drew _ _ ty 30 b (off + (i + m)) (n + m - (i + m)) dc ⟨b, off + i, none⟩ (n + m - i) sc (cs.drop i) Try.underlying49 hsz (by rw [hdl]; simp only [Nat.min_def]; split <;> omega)
      (fun j v hj => by rw [Addr.add_lit, Nat.add_assoc]; exact hcs (i + j) v (by rwa [List.getElem?_drop] at hj))
      (fun j hj => by rw [Nat.add_assoc]; exact hsp _ (by omega)) (fun j hj => by rw [Nat.add_assoc]; exact hfz _ (by omega)) (fun v hv => h1c v (List.mem_of_mem_drop hv))
  obtain ⟨W1, hW1⟩ : ∃ W1, W1 = w.drew.setCells b (off + (i + m)) (cs.drop i) := ⟨_, rfl⟩
  have hsp1 : ∀ k, k < n + m → (W1.cell? ⟨b, off + k, none⟩).isSome = true := fun k hk => by
    rw [hW1]
    exact isSome_setC b _ _ _ (fun j hj => by rw [Nat.add_assoc]; exact hsp _ (by omega)) _ (hsp k hk)
  have hcp2 : ∀ (W : World), (∀ x, W.cell? x = W1.cell? x) → (∀ x, W.frozen? x = W1.frozen? x) → ∀ ty dc, (Builtin.copy_ #[49, 49] ty #[.slice (some ⟨b, off + i, none⟩) (n + m - i) dc, .slice (some ⟨vb, voff, none⟩) m vc]).run Try.prog W = .ok (goInt vs.length) (W.setCells b (off + i) vs) := fun W hWc hWf ty dc =>
    run_copy_cells W _ _ ty 30 b (off + i) (n + m - i) dc ⟨vb, voff, none⟩ m vc vs Try.underlying49 hsz (by rw [hvl]; simp only [Nat.min_def]; split <;> omega)
      (fun j v hj => by
        rw [Addr.add_lit, hWc, hW1, World.cell?_setCells_out b _ _ _ _ (fun h _ => absurd h hvb)]
        exact hvs j v hj)
      (fun j hj => by rw [hWc, Nat.add_assoc]; exact hsp1 _ (by omega)) (fun j hj => by rw [hWf, hW1, World.frozen?_setCells, Nat.add_assoc]; exact hfz _ (by omega)) h1v
  rw [← hW1] at hcp1
  go_enter Try.func48, Try.ntmps48
  go_wp2_with (simp only [hov])
  go_region_law_o (refine step_copy_runI rfl _ _ 49 49 rfl _ _ (by simp [Act.eval, Act.put]) (by simp [Act.eval, Act.put]) (hcp1 _ _ _) ?_)
  go_wp2_with (at_builtin; refine wpList_copy_runI _ rfl _ _ 49 49 rfl _ _ rfl rfl (hcp2 _ (fun _ => rfl) (fun _ => rfl) _ _) ?_)
  go_ret
  first | exact ⟨rfl, rfl⟩ | exact ⟨rfl, by rw [hW1]⟩
set_option maxHeartbeats 4000000 in
set_option maxRecDepth 1000000 in
theorem insK_end_room (b off n c vb voff m vc : Nat) (vs : List Value) (w : World) (hm : 0 < m) (hroom : n + m ≤ c) (hc63 : n + m ≤ 9223372036854775807)
    (hvl : vs.length = m) (hsp : ∀ j, j < m → (w.cell? ⟨b, off + n + j, none⟩).isSome = true) (hfz : ∀ j, j < m → w.frozen? ⟨b, off + n + j, none⟩ = false)
    (hvs : ∀ j v, vs[j]? = some v → w.cell? ⟨vb, voff + j, none⟩ = some v) (h1v : ∀ v ∈ vs, v.oneCell' = true) :
    Calls Try.prog 48 #[.slice (some ⟨b, off, none⟩) n c, .int .i64 n, .slice (some ⟨vb, voff, none⟩) m vc] w fun e w' =>
      e = .returned (.slice (some ⟨b, off, none⟩) (n + m) c) ∧ w' = w.setCells b (off + n) vs := by
  have mixed : Try.prog.follows .mixedOrders = true := by kernel_rfl
  have hz1 : ¬ ((m : Int) = 0) := by omega
  have hsrc : Src Try.prog 1 49 (.slice (some ⟨vb, voff, none⟩) m vc) m vs w := Src.ofSlice w Try.underlying49 ⟨vb, voff, none⟩ m vc vs (by omega) (fun j u hj => by rw [Addr.add_lit]; exact hvs j u hj) h1v
  go_enter Try.func48, Try.ntmps48
  go_wp2_with (at_builtin; refine wpList_append_room1 _ rfl _ _ 49 49 rfl 30 _ _ Try.underlying49 dinfo_K b off n c rfl _ rfl m vs hsrc hroom (by rw [hvl]; exact hsp) (by rw [hvl]; exact hfz) ?_)
  go_ret
  exact ⟨rfl, rfl⟩
set_option maxHeartbeats 4000000 in
set_option maxRecDepth 1000000 in
theorem insK_end_grow (base : Option Addr) (n c vb voff m vc : Nat) (cs vs : List Value) (w : World) (hm : 0 < m) (hnc : n ≤ c) (hroom : c < n + m) (hbig : (n + m) * 24 ≤ 140737488355328)
    (hcl : cs.length = n) (hvl : vs.length = m) (hnil : base = none → n = 0)
    (hcs : ∀ a, base = some a → ∀ j v, cs[j]? = some v → w.cell? (a.add j) = some v)
    (hvs : ∀ j v, vs[j]? = some v → w.cell? ⟨vb, voff + j, none⟩ = some v) (h1v : ∀ v ∈ vs, v.oneCell' = true) :
    Calls Try.prog 48 #[.slice base n c, .int .i64 n, .slice (some ⟨vb, voff, none⟩) m vc] w fun e w' =>
      e = .returned (.slice (some ⟨w.heap.size, 0, none⟩) (n + m) (grownCap w (n + m) c 30)) ∧
      w' = w.drew.alloc (.cells ((cs ++ vs).toArray ++ Builtin.zeroCells (Value.slice none 0 0).cells (grownCap w (n + m) c 30 - (n + m))) 30) := by
  have mixed : Try.prog.follows .mixedOrders = true := by kernel_rfl
  obtain ⟨i0, hi0, hz0, hzs, hzb⟩ := info_parts dinfo_K
  have hz1 : ¬ ((m : Int) = 0) := by omega
  have hsrc : Src Try.prog i0.size 49 (.slice (some ⟨vb, voff, none⟩) m vc) m vs w := by
    rw [hzs]
    exact Src.ofSlice w Try.underlying49 ⟨vb, voff, none⟩ m vc vs (by omega) (fun j u hj => by rw [Addr.add_lit]; exact hvs j u hj) h1v
  have hold : (Builtin.firstCells i0.size n (.slice base n c)).run Try.prog w.drew = .ok cs.toArray w.drew := by
    rw [hzs]
    cases base with
    | none =>
      have h0 := hnil rfl
      subst h0
      rw [List.length_eq_zero_iff.1 hcl]
      exact run_firstCells_none w.drew 1 0 0 c
    | some a => exact run_firstCells_some w.drew 1 n a n c cs (by omega) (fun j v hj => hcs a rfl j v hj)
  have hrun : ∀ ty, (Builtin.append_ #[49, 49] ty #[.slice base n c, .slice (some ⟨vb, voff, none⟩) m vc]).run Try.prog w = _ := fun ty =>
    run_append_grow_src w 49 49 ty 30 i0 _ Try.underlying49 hi0 hz0 base n c cs hold _ m vs hsrc hroom (by omega) (by rw [hzb]; exact growslice_fits hroom hbig)
  go_enter Try.func48, Try.ntmps48
  cases base with
  | none =>
    have h0 := hnil rfl
    subst h0
    go_wp2_with (at_builtin; refine Lib.wpList_append_run _ rfl _ _ _ _ rfl _ _ rfl rfl _ _ (hrun _) ?_)
    go_ret
    exact ⟨rfl, rfl⟩
  | some a =>
    obtain ⟨ab, ao, asp⟩ := a
    go_wp2_with (at_builtin; refine Lib.wpList_append_run _ rfl _ _ _ _ rfl _ _ rfl rfl _ _ (hrun _) ?_)
    all_goals (go_ret; exact ⟨rfl, rfl⟩)
set_option maxHeartbeats 4000000 in
set_option maxRecDepth 1000000 in
theorem insK_grow (b off n c i vb voff m vc : Nat) (cs vs : List Value) (w : World) (hi : i < n) (hm : 0 < m) (hnc : n ≤ c) (hroom : c < n + m) (hbig : (n + m) * 24 ≤ 140737488355328)
    (hcl : cs.length = n) (hvl : vs.length = m)
    (hcs : ∀ j v, cs[j]? = some v → w.cell? ⟨b, off + j, none⟩ = some v)
    (hvs : ∀ j v, vs[j]? = some v → w.cell? ⟨vb, voff + j, none⟩ = some v) (h1c : ∀ v ∈ cs, v.oneCell' = true) (h1v : ∀ v ∈ vs, v.oneCell' = true) :
    Calls Try.prog 48 #[.slice (some ⟨b, off, none⟩) n c, .int .i64 i, .slice (some ⟨vb, voff, none⟩) m vc] w fun e w' =>
      e = .returned (.slice (some ⟨w.heap.size, 0, none⟩) (n + m) (grownCap w (n + m) c 30)) ∧
      w' = (((w.alloc (.cells ((cs.take i).toArray ++ Builtin.zeroCells (Value.slice none 0 0).cells (n + m - i) ++ Builtin.zeroCells (Value.slice none 0 0).cells (grownCap w (n + m) c 30 - (n + m))) 30)).drew.setCells w.heap.size i vs).drew).setCells w.heap.size (i + m) (cs.drop i) := by
  have mixed : Try.prog.follows .mixedOrders = true := by kernel_rfl
  obtain ⟨i0, hi0, hz0, hzs, hzb⟩ := info_parts dinfo_K
  have hz1 : ¬ ((m : Int) = 0) := by omega
  have hz2 : ¬ ((i : Int) = (n : Int)) := by omega
  have hz3 : (c : Int) < (n : Int) + (m : Int) := by omega
  have hsz : (Try.prog.info? 30).map (·.size) = some 1 := by rw [hi0]; simp [hzs]
  have hbw : b < w.heap.size := block_lt_of_cell (hcs 0 _ (List.getElem?_eq_getElem (by omega)))
  have hvw : vb < w.heap.size := block_lt_of_cell (hvs 0 _ (List.getElem?_eq_getElem (by omega)))
  have hkk : (n : Int) + (m : Int) - (i : Int) = ((n + m - i : Nat) : Int) := by omega
  have hik : i + (n + m - i) = n + m := by omega
  have hold : (Builtin.firstCells i0.size i (.slice (some ⟨b, off, none⟩) i c)).run Try.prog w.drew = .ok (cs.take i).toArray w.drew := by
    rw [hzs]
    exact run_firstCells_some w.drew 1 i ⟨b, off, none⟩ i c (cs.take i) (by rw [List.length_take]; omega) (fun j v hj => by
      rw [Addr.add_lit]
      rw [List.getElem?_take] at hj
      split at hj
      · exact hcs j v hj
      · cases hj)
  have hrz : ∀ ty, (Builtin.append_ #[49, 3] ty #[.slice (some ⟨b, off, none⟩) i c, .int .i64 ((n : Int) + (m : Int) - (i : Int))]).run Try.prog w =
      .ok (.slice (some ⟨w.heap.size, 0, none⟩) (n + m) (grownCap w (n + m) c 30)) (w.drew.alloc (.cells ((cs.take i).toArray ++ Builtin.zeroCells (Value.slice none 0 0).cells (n + m - i) ++ Builtin.zeroCells (Value.slice none 0 0).cells (grownCap w (n + m) c 30 - (n + m))) 30)) := fun ty => by
    have h := Lib.run_append_grow_zeros w 49 3 ty 30 i0 _ .i64 .i64 Try.underlying49 Try.underlying3 hi0 hz0 (some ⟨b, off, none⟩) i c (cs.take i) hold (n + m - i) (by omega) (by omega) (by omega) (by omega) (by rw [hzb]; omega) (by rw [hzb, hik]; exact growslice_fits hroom hbig)
    rw [hik] at h
    rw [hkk]
    exact h
  obtain ⟨G, hG⟩ : ∃ G, G = grownCap w (n + m) c 30 := ⟨_, rfl⟩
  obtain ⟨ROW, hROW⟩ : ∃ ROW : Array Value, ROW = (cs.take i).toArray ++ Builtin.zeroCells (Value.slice none 0 0).cells (n + m - i) ++ Builtin.zeroCells (Value.slice none 0 0).cells (G - (n + m)) := ⟨_, rfl⟩
  rw [← hG] at hrz ⊢
  rw [← hROW] at hrz ⊢
  have hRl : n + m ≤ ROW.size := by
    rw [hROW]
    simp [Builtin.zeroCells, Value.cells]
    omega
  obtain ⟨W1, hW1⟩ : ∃ W1, W1 = w.drew.alloc (.cells ROW 30) := ⟨_, rfl⟩
  rw [← hW1] at hrz
  have hN : ∀ j, j < n + m → (W1.cell? ⟨w.heap.size, j, none⟩).isSome = true := fun j hj => by
    rw [hW1, World.cell?_alloc_at (w := w.drew) ROW _ w.heap.size j rfl, Array.getElem?_eq_getElem (by omega)]; rfl
  have hNf : ∀ j, W1.frozen? ⟨w.heap.size, j, none⟩ = false := fun j => by rw [hW1]; exact World.frozen?_alloc_at (w := w.drew) ROW _ w.heap.size j rfl
  have hOb : ∀ j v, w.cell? ⟨b, j, none⟩ = some v → W1.cell? ⟨b, j, none⟩ = some v := fun j v h => by rw [hW1, World.cell?_alloc_past (w := w.drew) _ b j hbw]; exact h
  have hOv : ∀ j v, w.cell? ⟨vb, j, none⟩ = some v → W1.cell? ⟨vb, j, none⟩ = some v := fun j v h => by rw [hW1, World.cell?_alloc_past (w := w.drew) _ vb j hvw]; exact h
  have hcpA : ∀ (W : World), (∀ x, W.cell? x = W1.cell? x) → (∀ x, W.frozen? x = W1.frozen? x) → ∀ ty dc, (Builtin.copy_ #[49, 49] ty #[.slice (some ⟨w.heap.size, i, none⟩) (n + m - i) dc, .slice (some ⟨vb, voff, none⟩) m vc]).run Try.prog W = .ok (goInt vs.length) (W.setCells w.heap.size i vs) := fun W hWc hWf ty dc =>
    run_copy_cells W _ _ ty 30 w.heap.size i (n + m - i) dc ⟨vb, voff, none⟩ m vc vs Try.underlying49 hsz (by rw [hvl]; simp only [Nat.min_def]; split <;> omega)
      (fun j v hj => by rw [Addr.add_lit, hWc]; exact hOv _ v (hvs j v hj))
      (fun j hj => by rw [hWc]; exact hN _ (by omega)) (fun j hj => by rw [hWf]; exact hNf _) h1v
  have hGn : n + m ≤ G := by rw [hG]; exact grownCap_ge w _ _ _
  have hG63 : G ≤ 9223372036854775807 := by
    have := grownCap_le_maxLen w (n + m) c 30 (by unfold maxLen; omega)
    rw [← hG] at this
    unfold maxLen at this
    omega
  have hGi : ¬ (G = i) := by omega
  have hGim : ¬ (G = i + m) := by omega
  have hci : ¬ (c = i) := by omega
  have hbN : b ≠ w.heap.size := by omega
  have hdl : (cs.drop i).length = n - i := by rw [List.length_drop, hcl]
  have hcpB : ∀ (W : World), (∀ x, W.cell? x = (W1.setCells w.heap.size i vs).cell? x) → (∀ x, W.frozen? x = (W1.setCells w.heap.size i vs).frozen? x) → ∀ ty dc sc, (Builtin.copy_ #[49, 49] ty #[.slice (some ⟨w.heap.size, i + m, none⟩) (n + m - (i + m)) dc, .slice (some ⟨b, off + i, none⟩) (n - i) sc]).run Try.prog W = .ok (goInt (cs.drop i).length) (W.setCells w.heap.size (i + m) (cs.drop i)) := fun W hWc hWf ty dc sc =>
    run_copy_cells W _ _ ty 30 w.heap.size (i + m) (n + m - (i + m)) dc ⟨b, off + i, none⟩ (n - i) sc (cs.drop i) Try.underlying49 hsz (by rw [hdl]; simp only [Nat.min_def]; split <;> omega)
      (fun j v hj => by
        rw [Addr.add_lit, hWc, World.cell?_setCells_out _ _ _ _ _ (fun h _ => absurd h hbN), Nat.add_assoc]
        exact hOb _ v (hcs (i + j) v (by rwa [List.getElem?_drop] at hj)))
      (fun j hj => by rw [hWc]; exact isSome_setC _ _ _ _ (fun t ht => hN _ (by omega)) _ (hN _ (by omega)))
      (fun j hj => by rw [hWf, World.frozen?_setCells]; exact hNf _) (fun v hv => h1c v (List.mem_of_mem_drop hv))
  subst hW1
  have hE1 : ∀ x, ((w.alloc (.cells ROW 30)).drew).cell? x = (w.drew.alloc (.cells ROW 30)).cell? x := fun x => rfl
  have hE2 : ∀ x, ((w.alloc (.cells ROW 30)).drew).frozen? x = (w.drew.alloc (.cells ROW 30)).frozen? x := fun x => rfl
  have hF1 : ∀ x, (((w.alloc (.cells ROW 30)).drew.setCells w.heap.size i vs).drew).cell? x = ((w.drew.alloc (.cells ROW 30)).setCells w.heap.size i vs).cell? x := fun x => rfl
  have hF2 : ∀ x, (((w.alloc (.cells ROW 30)).drew.setCells w.heap.size i vs).drew).frozen? x = ((w.drew.alloc (.cells ROW 30)).setCells w.heap.size i vs).frozen? x := fun x => rfl
  have hw1 : IntKind.i64.wrap ((i : Int) + (m : Int)) = (i : Int) + (m : Int) := by rw [IntKind.wrap_i64]; omega
  have hb1 : (0 : Int) ≤ (i : Int) + (m : Int) := by omega
  have hin : i ≤ n := by omega
  have htn : ((i : Int) + (m : Int)).toNat = i + m := by omega
  have hb3 : (i : Int) ≤ (n : Int) := by omega
  clear hkk hik hold hROW hG hRl
  go_enter Try.func48, Try.ntmps48
  go_wp2_with (first
    | (at_builtin; refine Lib.wpList_append_run _ rfl _ _ _ _ rfl _ _ rfl rfl _ _ (hrz _) ?_)
    | (at_builtin; refine wpList_copy_runI _ rfl _ _ 49 49 rfl _ _ rfl rfl (hcpA _ hE1 hE2 _ _) ?_)
    | (at_builtin; refine wpList_copy_runI _ rfl _ _ 49 49 rfl _ _ rfl rfl (hcpB _ (fun _ => rfl) (fun _ => rfl) _ _ _) ?_))
  go_region_law_o (refine step_copy_runI rfl _ _ 49 49 rfl (.slice (some ⟨w.heap.size, i + m, none⟩) (n + m - (i + m)) (G - (i + m))) (.slice (some ⟨b, off + i, none⟩) (n - i) (c - i)) (by simp [Act.eval, Act.put]) (by simp [Act.eval, Act.put]) (hcpB _ hF1 hF2 3 (G - (i + m)) (c - i)) ?_)
  go_wp2
  go_ret
  exact ⟨rfl, rfl⟩
end Go.Proofs.Yteebiklebedneaa
/- slices.Insert of one element at an own row of one-cell elements, as a contract. -/
namespace Go.AM
open Go Go.RowKit
def insX {α : Type} (l : List α) (i : Nat) (x : α) : List α := l.take i ++ x :: l.drop i
theorem insX_len {α : Type} {l : List α} {i : Nat} (x : α) (h : i ≤ l.length) : (insX l i x).length = l.length + 1 := by
  unfold insX; rw [List.length_append, List.length_cons, List.length_take, List.length_drop]; omega
theorem insX_get {α : Type} {l : List α} {i : Nat} (x : α) (h : i ≤ l.length) (q : Nat) : (insX l i x)[q]? = if q < i then l[q]? else if q = i then some x else l[q - 1]? := by
  unfold insX
  have hl : (l.take i).length = i := by rw [List.length_take]; omega
  by_cases hq : q < i
  · rw [if_pos hq, List.getElem?_append_left (by omega), List.getElem?_take_of_lt hq]
  · rw [if_neg hq, List.getElem?_append_right (by omega), hl]
    by_cases e : q = i
    · subst e; simp
    · rw [if_neg e]
      obtain ⟨m, rfl⟩ : ∃ m, q = i + (m + 1) := ⟨q - i - 1, by omega⟩
      rw [show i + (m + 1) - i = m + 1 by omega, List.getElem?_cons_succ, List.getElem?_drop]
      congr 1
theorem insX_map {α β : Type} (f : α → β) (l : List α) (i : Nat) (x : α) : (insX l i x).map f = insX (l.map f) i (f x) := by
  simp [insX, List.map_append, List.map_take, List.map_drop]
/-- What a call of Insert leaves: a new row. -/
abbrev InsNew (T : TypeId) (w w' : World) (n : Nat) (ls : List Value) (e : Ending) : Prop :=
  ∃ c' row, e = .returned (.slice (some ⟨w.heap.size, 0, none⟩) (n + 1) c') ∧ n + 1 ≤ c' ∧ Sys w w' ∧ w.heap.size ≤ w'.heap.size ∧ (∀ k, k < w.heap.size → w'.heap[k]? = w.heap[k]?) ∧
    w'.heap[w.heap.size]? = some (.cells row T (0, 0)) ∧ c' ≤ row.size ∧ ∀ m, m < n + 1 → row[m]? = ls[m]?
/-- What a call of Insert leaves: the row in its place, or a new one. -/
def InsAt (T : TypeId) (w w' : World) (b off n c : Nat) (ls : List Value) (e : Ending) : Prop :=
  (e = .returned (.slice (some ⟨b, off, none⟩) (n + 1) c) ∧ n + 1 ≤ c ∧ Sys w w' ∧ w'.heap.size = w.heap.size ∧ (∀ k, k ≠ b → w'.heap[k]? = w.heap[k]?) ∧
    ∀ cells fr, w.heap[b]? = some (.cells cells T fr) → off + c ≤ cells.size → ∃ cells', w'.heap[b]? = some (.cells cells' T fr) ∧ cells'.size = cells.size ∧ ∀ m, m < n + 1 → cells'[off + m]? = ls[m]?) ∨
  InsNew T w w' n ls e
/-- In place, elements behind it. -/
theorem insAt_shift (T : TypeId) {w : World} {b off n c i : Nat} {cs : List Value} {y : Value} (hcl : cs.length = n) (hi : i < n) (hc : n + 1 ≤ c) (hcs : ∀ (j : Nat) v, cs[j]? = some v → w.cell? ⟨b, off + j, none⟩ = some v) :
    InsAt T w ((w.drew.setCells b (off + (i + 1)) (cs.drop i)).setCells b (off + i) [y]) b off n c (insX cs i y) (.returned (.slice (some ⟨b, off, none⟩) (n + 1) c)) := by
  have hd : w.drew.heap = w.heap := rfl
  have s1 := sys_setCells b (cs.drop i) (off + (i + 1)) w.drew
  have s2 := sys_setCells b [y] (off + i) (w.drew.setCells b (off + (i + 1)) (cs.drop i))
  obtain ⟨u0, hu0⟩ : ∃ u, cs[0]? = some u := ⟨_, List.getElem?_eq_getElem (by omega)⟩
  obtain ⟨cells0, T0, fr0, hb0⟩ : ∃ cells T0 fr, w.heap[b]? = some (.cells cells T0 fr) := by
    have := hcs 0 u0 hu0
    unfold World.cell? at this
    split at this
    · rename_i q; exact ⟨_, _, _, q⟩
    all_goals first | cases this | (simp at this)
  obtain ⟨a1, a2, a3⟩ := heap_setCells b (cs.drop i) (off + (i + 1)) w.drew cells0 T0 fr0 hb0
  obtain ⟨b1, b2, b3⟩ := heap_setCells b [y] (off + i) (w.drew.setCells b (off + (i + 1)) (cs.drop i)) _ T0 fr0 a3
  refine .inl ⟨rfl, hc, (show Sys w w.drew from ⟨rfl, rfl, rfl⟩).trans (s1.trans s2), by rw [b1, a1, hd], fun k hk => by rw [b2 k hk, a2 k hk, hd], fun cells fr hb hsz => ?_⟩
  rw [hb0] at hb
  cases hb
  have hdl : (cs.drop i).length = n - i := by rw [List.length_drop, hcl]
  have hS1 := setMany_get (cs.drop i) (off + (i + 1)) cells0 (by rw [hdl]; omega)
  have hS2 := setMany_get [y] (off + i) (setMany cells0 (off + (i + 1)) (cs.drop i)) (by rw [setMany_size, List.length_singleton]; omega)
  refine ⟨_, b3, by rw [setMany_size, setMany_size], fun m hm => ?_⟩
  rw [hS2, List.length_singleton, insX_get y (by omega), hS1, hdl]
  by_cases h1 : m < i
  · rw [if_pos h1, if_neg (by omega), if_neg (by omega)]
    obtain ⟨v, hv⟩ : ∃ v, cs[m]? = some v := ⟨_, List.getElem?_eq_getElem (by omega)⟩
    rw [hv, ← cell_of hb0]; exact hcs m v hv
  · rw [if_neg h1]
    by_cases h2 : m = i
    · subst h2; rw [if_pos rfl, if_pos (by omega), Nat.sub_self]; rfl
    · rw [if_neg h2, if_neg (by omega), if_pos (by omega), List.getElem?_drop]
      congr 1; omega
/-- In place, at the end. -/
theorem insAt_end (T : TypeId) {w : World} {b off n c : Nat} {cs : List Value} {y : Value} (hcl : cs.length = n) (hc : n + 1 ≤ c) (hcs : ∀ (j : Nat) v, cs[j]? = some v → w.cell? ⟨b, off + j, none⟩ = some v) (hex : ∃ cells T fr, w.heap[b]? = some (.cells cells T fr)) :
    InsAt T w (w.setCells b (off + n) [y]) b off n c (insX cs n y) (.returned (.slice (some ⟨b, off, none⟩) (n + 1) c)) := by
  have s1 := sys_setCells b [y] (off + n) w
  obtain ⟨cells0, T0, fr0, hb0⟩ := hex
  obtain ⟨a1, a2, a3⟩ := heap_setCells b [y] (off + n) w cells0 T0 fr0 hb0
  refine .inl ⟨rfl, hc, s1, a1, a2, fun cells fr hb hsz => ?_⟩
  rw [hb0] at hb
  cases hb
  have hS1 := setMany_get [y] (off + n) cells0 (by rw [List.length_singleton]; omega)
  refine ⟨_, a3, by rw [setMany_size], fun m hm => ?_⟩
  rw [hS1, List.length_singleton, insX_get y (by omega)]
  by_cases h1 : m < n
  · rw [if_pos h1, if_neg (by omega)]
    obtain ⟨v, hv⟩ : ∃ v, cs[m]? = some v := ⟨_, List.getElem?_eq_getElem (by omega)⟩
    rw [hv, ← cell_of hb0]; exact hcs m v hv
  · obtain rfl : m = n := by omega
    rw [if_pos (show off + m ≤ off + m ∧ off + m < off + m + 1 by omega), if_neg (Nat.lt_irrefl _), if_pos rfl, Nat.sub_self]; rfl
theorem insX_end {α : Type} (l : List α) (y : α) : insX l l.length y = l ++ [y] := by simp [insX]
/-- A new row: at the end. -/
theorem insAt_new (T : TypeId) {w : World} {n c' : Nat} {cs : List Value} {y : Value} {z : Array Value} (hcl : cs.length = n) (hc : n + 1 ≤ c') (hz : c' ≤ n + 1 + z.size) :
    InsNew T w (w.drew.alloc (.cells ((cs ++ [y]).toArray ++ z) T)) n (insX cs n y) (.returned (.slice (some ⟨w.heap.size, 0, none⟩) (n + 1) c')) := by
  refine ⟨c', _, rfl, hc, ⟨rfl, rfl, rfl⟩, ?_, fun k hk => ?_, World.alloc_heap_new w.drew _, ?_, fun m hm => ?_⟩
  · show w.heap.size ≤ (w.heap.push _).size
    simp
  · show (w.heap.push _)[k]? = _
    rw [Array.getElem?_push, if_neg (by omega)]
  · simp [hcl]; omega
  · rw [← hcl, insX_end, Array.getElem?_append_left (by simp [hcl]; exact hm)]
    simp
/-- A new row: elements behind it. -/
theorem insAt_grow_new (T : TypeId) {w : World} {n c' i : Nat} {cs : List Value} {y : Value} {z1 z2 : Array Value} (hcl : cs.length = n) (hi : i < n) (hc : n + 1 ≤ c') (h1 : z1.size = n + 1 - i) (h2 : z2.size = c' - (n + 1)) :
    InsNew T w ((((w.alloc (.cells ((cs.take i).toArray ++ z1 ++ z2) T)).drew.setCells w.heap.size i [y]).drew).setCells w.heap.size (i + 1) (cs.drop i)) n (insX cs i y) (.returned (.slice (some ⟨w.heap.size, 0, none⟩) (n + 1) c')) := by
  obtain ⟨row, hrow⟩ : ∃ row : Array Value, row = (cs.take i).toArray ++ z1 ++ z2 := ⟨_, rfl⟩
  have hsz : row.size = c' := by rw [hrow]; simp [hcl, h1, h2]; omega
  have hpre : ∀ m, m < i → row[m]? = cs[m]? := fun m hm => by
    rw [hrow, Array.append_assoc, Array.getElem?_append_left (by simp [hcl]; omega)]
    simp [List.getElem?_take, hm]
  rw [← hrow]
  clear hrow
  obtain ⟨w1, hw1⟩ : ∃ w1, w1 = (w.alloc (.cells row T)).drew := ⟨_, rfl⟩
  have hb : w1.heap[w.heap.size]? = some (.cells row T (0, 0)) := by rw [hw1]; exact World.alloc_heap_new w _
  have hs1 : w1.heap.size = w.heap.size + 1 := by rw [hw1]; show (w.heap.push _).size = _; simp
  have ho : ∀ k, k < w.heap.size → w1.heap[k]? = w.heap[k]? := fun k hk => by
    rw [hw1]; show (w.heap.push _)[k]? = _
    rw [Array.getElem?_push, if_neg (by omega)]
  have hy1 : Sys w w1 := by rw [hw1]; exact ⟨rfl, rfl, rfl⟩
  rw [← hw1]
  clear hw1
  obtain ⟨a1, a2, a3⟩ := heap_setCells w.heap.size [y] i w1 row T (0, 0) hb
  have s1 := sys_setCells w.heap.size [y] i w1
  generalize hw2 : w1.setCells w.heap.size i [y] = w2 at a1 a2 a3 s1 ⊢
  obtain ⟨b1, b2, b3⟩ := heap_setCells w.heap.size (cs.drop i) (i + 1) w2.drew (setMany row i [y]) T (0, 0) a3
  have s2 := sys_setCells w.heap.size (cs.drop i) (i + 1) w2.drew
  have hd : w2.drew.heap = w2.heap := rfl
  refine ⟨c', _, rfl, hc, hy1.trans (s1.trans ((show Sys w2 w2.drew from ⟨rfl, rfl, rfl⟩).trans s2)), by rw [b1, hd, a1, hs1]; omega, fun k hk => by rw [b2 k (by omega), hd, a2 k (by omega), ho k hk], b3, by rw [setMany_size, setMany_size, hsz]; exact Nat.le_refl _, fun m hm => ?_⟩
  have hdl : (cs.drop i).length = n - i := by rw [List.length_drop, hcl]
  have hS1 := setMany_get [y] i row (by rw [List.length_singleton]; omega)
  have hS2 := setMany_get (cs.drop i) (i + 1) (setMany row i [y]) (by rw [setMany_size, hdl]; omega)
  rw [hS2, insX_get y (by omega), hS1, hdl, List.length_singleton]
  by_cases q1 : m < i
  · rw [if_neg (show ¬ (i + 1 ≤ m ∧ m < i + 1 + (n - i)) by omega), if_neg (show ¬ (i ≤ m ∧ m < i + 1) by omega), if_pos q1, hpre m q1]
  · by_cases q2 : m = i
    · subst q2
      rw [if_neg (show ¬ (m + 1 ≤ m ∧ m < m + 1 + (n - m)) by omega), if_pos (show m ≤ m ∧ m < m + 1 by omega), if_neg q1, if_pos rfl, Nat.sub_self]; rfl
    · rw [if_pos (show i + 1 ≤ m ∧ m < i + 1 + (n - i) by omega), if_neg q1, if_neg q2, List.getElem?_drop]
      congr 1; omega
end Go.AM
/- slices.Insert as a contract: the row and the one element are own things. -/
namespace Go.AM
open Go Go.RowKit
/-- One own thing is made of others, which are gone. -/
theorem mem_made {w w' : World} {own : Nat → Prop} {z : Zone} {G : List (Nat × List Value)} {o : List (Nat × Nd)} {th : List NLoc} {n : Nat} {L : NLoc} {nd : Nd} (hm : Mem ⟨w, own, z, G, th, []⟩ o n th z w) (hp : L.ph = false) (hL : L.b < w'.heap.size) (hz : ∀ t, ¬ z t L.b) (hown : own L.b ∨ w.heap.size ≤ L.b)
    (hs : w.heap.size ≤ w'.heap.size) (hb : ∀ b, b < w.heap.size → ¬ own b → w'.heap[b]? = w.heap[b]?) (hzb : ∀ t b, z t b → w'.heap[b]? = w.heap[b]?) (hy : Sys w w') (hn : NdAt w' z (th ++ [L]) L nd) (hu : nd.isU = false) : Mem ⟨w, own, z, G, th, []⟩ [(n, nd)] (n + 1) (th ++ [L]) z w' := by
  have hlen := hm.len
  refine ⟨by rw [List.length_append, hlen]; rfl, fun i x hi => ?_, fun i j x y A B hi hj hA hB _ _ _ => ?_, fun t b hz => Nat.lt_of_lt_of_le (hm.zlt t b hz) hs, hs, fun b hb1 hb2 => hb b hb1 hb2, fun t b h => h, fun b h => .inl h, fun b h => h, fun g cs hg => ?_, fun i M h => pre_get _ h, hy, uls_none (by simp [noUo, hu])⟩
  · simp only [lk] at hi
    by_cases h0 : n = i
    · subst h0; rw [if_pos rfl] at hi; cases hi
      refine ⟨L, ?_, hn, fun _ => ⟨hL, hz, hown⟩⟩
      rw [List.getElem?_append_right (by omega), hlen, Nat.sub_self]; rfl
    · rw [if_neg h0] at hi; cases hi
  · simp only [lk] at hi hj
    by_cases h0 : n = i
    · by_cases h1 : n = j
      · omega
      · rw [if_neg h1] at hj; cases hj
    · rw [if_neg h0] at hi; cases hi
  · obtain ⟨h1, h2⟩ := hm.globs g cs hg
    exact ⟨h1, fun j u hu => (cell_heap (hzb true g h1) j).trans (h2 j u hu)⟩
set_option maxHeartbeats 2000000 in
theorem ins_con {P : Program} {f T : Nat} (G : List (Nat × List Value)) (hok : okFn P f = true) (xs : List AV) (x : AV) (i : Nat) (hi : i ≤ xs.length) (hn : xs.length ≤ 1048576)
    (H : ∀ (w : World) (b off c vb voff vc : Nat) (cs : List Value) (y : Value), vb ≠ b → (∀ (j : Nat) v, cs[j]? = some v → w.cell? ⟨b, off + j, none⟩ = some v) → (∀ j, j < c → (w.cell? ⟨b, off + j, none⟩).isSome = true ∧ w.frozen? ⟨b, off + j, none⟩ = false) → w.cell? ⟨vb, voff, none⟩ = some y →
      (∀ v ∈ cs, v.oneCell' = true) → y.oneCell' = true → cs.length ≤ c → i ≤ cs.length → cs.length ≤ 1048576 → (∃ tA kA, w.shape? vb = some (tA, kA) ∧ w.frozen? ⟨vb, voff, none⟩ = false ∧ w.frozen? ⟨vb, kA, none⟩ = false) → (∃ cells fr, w.heap[b]? = some (.cells cells T fr)) →
      Calls P f #[.slice (some ⟨b, off, none⟩) cs.length c, .int .i64 i, .slice (some ⟨vb, voff, none⟩) 1 vc] w fun e w' => InsAt T w w' b off cs.length c (insX cs i y) e)
    (H0 : ∀ (w : World) (vb voff vc : Nat) (y : Value), w.cell? ⟨vb, voff, none⟩ = some y → y.oneCell' = true → Calls P f #[.slice none 0 0, .int .i64 0, .slice (some ⟨vb, voff, none⟩) 1 vc] w fun e w' => InsNew T w w' 0 [y] e) :
    Con P G f [.s 0 0 xs.length, .r (.int .i64 i), .s 1 0 1] [(0, .lst T 1 (xs.map sg)), (1, .lst T 1 [sg x])] 2 (Is (.s 2 0 (xs.length + 1)) [(2, .lst T 1 ((insX xs i x).map sg))] 3) No := by
  refine ⟨hok, fun w th z own vs ho hmem hr => ?_⟩
  obtain ⟨v, r, rfl, g1, g2⟩ := hr.head
  obtain ⟨v2, r2, rfl, g3, g4⟩ := g2.head
  obtain ⟨v3, r3, rfl, g5, g6⟩ := g4.head
  obtain rfl := g3.r_inv
  obtain rfl := g6.of_nil
  obtain ⟨L, M, rfl⟩ : ∃ L M, th = [L, M] := by
    have := hmem.len
    match th, this with
    | [a, b], _ => exact ⟨a, b, rfl⟩
  obtain ⟨L', e1, e2, e3⟩ := hmem.nds 0 _ rfl
  obtain rfl : L = L' := by simpa using e1
  obtain ⟨M', d1, d2, d3⟩ := hmem.nds 1 _ rfl
  obtain rfl : M = M' := by simpa using d1
  -- the one element
  rcases d2 with ⟨dp, de⟩ | ⟨dp, dcells, dfr, db, df, dk, dsz, dle, dcl⟩
  · simp at de
  obtain ⟨y, y1, y2, y3⟩ := (dcl 0 (sg x) rfl).2 0 x rfl
  simp only [Nat.zero_mul, Nat.add_zero] at y1
  obtain ⟨vc, xo, rfl, hv1, hv2, hxo⟩ : ∃ c o, v3 = .slice (some ⟨M.b, o, none⟩) 1 c ∧ 1 ≤ c ∧ c ≤ M.cap ∧ o = M.o := by
    generalize hq : (1 : Nat) = q at g5
    cases g5 with
    | s _ _ _ _ c o M' hL hp' h3 h4 h5 =>
      obtain rfl : M = M' := by simpa [← hq] using hL
      exact ⟨c, o, rfl, h3, by omega, by simpa using h5 (by omega)⟩
    | sn _ _ _ M' hL hp' => exact absurd hq (by omega)
  subst hxo
  have hycell : w.cell? ⟨M.b, M.o, none⟩ = some y := by rw [cell_of db]; exact y1
  have hdsz : M.o < dcells.size := (Array.getElem?_eq_some_iff.1 y1).1
  have hshape : ∃ tA kA, w.shape? M.b = some (tA, kA) ∧ w.frozen? ⟨M.b, M.o, none⟩ = false ∧ w.frozen? ⟨M.b, kA, none⟩ = false :=
    ⟨T, dcells.size, by simp [World.shape?, db], frozen_of db df hdsz, frozen_end db df (Nat.lt_succ_self _)⟩
  have hmemb := fun (b : Nat) (hb : b < w.heap.size) (_ : ¬ own b) => (rfl : w.heap[b]? = w.heap[b]?)
  -- a new row answers
  have fresh : ∀ (cs : List Value) e w', (∀ (q : Nat) a, (insX xs i x)[q]? = some a → ∃ u, (insX cs i y)[q]? = some u ∧ Rep w z [] a u ∧ u.oneCell' = true) → InsNew T w w' xs.length (insX cs i y) e →
      ∃ v u o' n' th' z', ((e = .returned v ∧ Is (.s 2 0 (xs.length + 1)) [(2, .lst T 1 ((insX xs i x).map sg))] 3 u o' n') ∨ (e = .panicked [{ v := v, recovered := false }] ∧ No u o' n')) ∧ Mem ⟨w, own, z, G, [L, M], []⟩ o' n' th' z' w' ∧ Rep w' z' th' u v := by
    rintro cs e w' hel ⟨c', row, rfl, hc', hsys, hsize, hold, hnew, hrow, hget⟩
    have hle : Le w z w' z := ⟨fun _ _ h => h, fun t b hz => hold b (hmem.zlt t b hz)⟩
    refine ⟨_, .s 2 0 (xs.length + 1), _, 3, [L, M] ++ [⟨w.heap.size, 0, 1, c', false⟩], z, .inl ⟨rfl, rfl, rfl, rfl⟩, mem_made hmem rfl (Array.getElem?_eq_some_iff.1 hnew).1 (fun t hz => Nat.lt_irrefl _ (hmem.zlt t _ hz)) (.inr (Nat.le_refl _)) hsize (fun b hb _ => hold b hb) (fun t b hz => hold b (hmem.zlt t b hz)) hsys ?_ rfl, .s _ 2 0 _ c' 0 ⟨w.heap.size, 0, 1, c', false⟩ rfl rfl hc' (by simp) (fun _ => by simp)⟩
    refine .inr ⟨rfl, row, (0, 0), hnew, fun i _ => by simp, rfl, by simpa using hrow, by rw [List.length_map, insX_len x hi]; exact hc', fun q el hq => ?_⟩
    rw [List.getElem?_map] at hq
    obtain ⟨a, ha, rfl⟩ := Option.map_eq_some_iff.1 hq
    refine ⟨rfl, fun j a' ha' => ?_⟩
    have hj : j = 0 := by
      have : j < 1 := (List.getElem?_eq_some_iff.1 ha').1
      omega
    subst hj
    obtain rfl : a = a' := by simpa [sg] using ha'
    obtain ⟨u, u1, u2, u3⟩ := hel q a ha
    have hql : q < xs.length + 1 := by rw [← insX_len x hi]; exact (List.getElem?_eq_some_iff.1 ha).1
    exact ⟨u, by simp only [Nat.mul_one, Nat.zero_add, Nat.add_zero]; rw [hget q hql]; exact u1, u2.on' hle, u3⟩
  rcases e2 with ⟨hp, he⟩ | ⟨hp, cells, fr, hb, hf, hk, hsz, hle, hcl⟩
  · -- the nil row
    obtain rfl : xs = [] := by simpa using he
    obtain rfl : i = 0 := by simpa using hi
    have hv : v = .slice none 0 0 := by
      cases g1 with
      | s _ _ _ _ c o L2 hL hp' => obtain rfl : L = L2 := by simpa using hL
                                   rw [hp] at hp'; cases hp'
      | sn => rfl
    subst hv
    refine (H0 w M.b M.o vc y hycell y3).mono fun e w' h => ?_
    refine fresh [] e w' (fun q a hq => ?_) h
    have hq : [x][q]? = some a := hq
    show ∃ u, [y][q]? = some u ∧ Rep w z [] a u ∧ u.oneCell' = true
    cases q with
    | zero => cases hq; exact ⟨y, rfl, y2, y3⟩
    | succ q => simp at hq
  -- the row
  have hlt := (e3 hp).1
  have hown : own L.b := ho _ ⟨0, _, L, rfl, rfl, hp, rfl⟩
  have hnz := (e3 hp).2.1
  obtain ⟨c, o, rfl, hc1, hc2, hx0⟩ : ∃ c o, v = .slice (some ⟨L.b, o, none⟩) xs.length c ∧ xs.length ≤ c ∧ c ≤ L.cap ∧ (0 < c → o = L.o) := by
    generalize hq : xs.length = q at g1
    cases g1 with
    | s _ _ _ _ c o L2 hL hp' h3 h4 h5 =>
      obtain rfl : L = L2 := by simpa using hL
      exact ⟨c, o, rfl, h3, by omega, fun hc => by simpa using h5 hc⟩
    | sn _ _ _ L2 hL hp' => obtain rfl : L = L2 := by simpa using hL
                            rw [hp] at hp'; cases hp'
  rw [hk] at hsz
  have hne : M.b ≠ L.b := fun e => by
    have := hmem.inj 1 0 _ _ M L rfl rfl rfl rfl dp hp e
    cases this
  have hold : ∀ (j : Nat) a, xs[j]? = some a → ∃ u, cells[L.o + j]? = some u ∧ Rep w z [] a u ∧ u.oneCell' = true := by
    intro j a hj
    obtain ⟨_, q2⟩ := hcl j (sg a) (by rw [List.getElem?_map, hj]; rfl)
    obtain ⟨u, q3, q4, q5⟩ := q2 0 a rfl
    rw [hk] at q3
    exact ⟨u, by simpa using q3, q4, q5⟩
  obtain ⟨cs, hcs⟩ : ∃ cs, cs = (cells.toList.drop L.o).take xs.length := ⟨_, rfl⟩
  have hll : cs.length = xs.length := by
    have : cells.toList.length = cells.size := rfl
    rw [hcs, List.length_take, List.length_drop]; omega
  have hlg : ∀ m, m < xs.length → cs[m]? = cells[L.o + m]? := by
    intro m hm
    rw [hcs, List.getElem?_take_of_lt hm, List.getElem?_drop, Array.getElem?_toList]
  have hlx : ∀ (m : Nat) u, cs[m]? = some u → ∃ a, xs[m]? = some a ∧ cells[L.o + m]? = some u ∧ Rep w z [] a u ∧ u.oneCell' = true := by
    intro m u hu
    have hm : m < xs.length := by rw [← hll]; exact (List.getElem?_eq_some_iff.1 hu).1
    obtain ⟨u', h1, h2, h3⟩ := hold m xs[m] (List.getElem?_eq_getElem hm)
    rw [hlg m hm] at hu
    rw [hu] at h1
    cases h1
    exact ⟨_, List.getElem?_eq_getElem hm, hu, h2, h3⟩
  have hel : ∀ (q : Nat) a, (insX xs i x)[q]? = some a → ∃ u, (insX cs i y)[q]? = some u ∧ Rep w z [] a u ∧ u.oneCell' = true := by
    intro q a hq
    rw [insX_get x hi] at hq
    rw [insX_get y (by omega)]
    have get : ∀ m, xs[m]? = some a → ∃ u, cs[m]? = some u ∧ Rep w z [] a u ∧ u.oneCell' = true := fun m hm => by
      obtain ⟨u, h1, h2, h3⟩ := hold m a hm
      exact ⟨u, by rw [hlg m (List.getElem?_eq_some_iff.1 hm).1]; exact h1, h2, h3⟩
    by_cases h1 : q < i
    · rw [if_pos h1] at hq ⊢; exact get q hq
    · rw [if_neg h1] at hq ⊢
      by_cases h2 : q = i
      · rw [if_pos h2] at hq ⊢; cases hq; exact ⟨y, rfl, y2, y3⟩
      · rw [if_neg h2] at hq ⊢; exact get _ hq
  have hoff : 0 < c → o = L.o := hx0
  have hrun := H w L.b o c M.b M.o vc cs y hne (fun j u hu => by
      obtain ⟨_, _, h, _, _⟩ := hlx j u hu
      have hj : j < xs.length := by rw [← hll]; exact (List.getElem?_eq_some_iff.1 hu).1
      rw [hoff (by omega), cell_of hb]; exact h)
    (fun j hj => by
      rw [hoff (by omega)]
      have : L.o + j < cells.size := by omega
      exact ⟨by rw [cell_of hb, Array.getElem?_eq_getElem this]; rfl, frozen_of hb hf this⟩)
    hycell (fun u hu => by
      obtain ⟨m, hm⟩ := List.mem_iff_getElem?.1 hu
      obtain ⟨_, _, _, _, h⟩ := hlx m u hm
      exact h) y3 (by omega) (by omega) (by omega) hshape ⟨cells, fr, hb⟩
  rw [hll] at hrun
  refine hrun.mono ?_
  rintro e w' (⟨rfl, hcn, hsys, hsize, hother, hcells⟩ | hnew)
  · obtain rfl := hoff (by omega)
    obtain ⟨cells', hb', hs', hget⟩ := hcells cells fr hb (by omega)
    have hLe : Le w z w' z := ⟨fun _ _ h => h, fun t b hz => hother b (fun e => hnz t (e ▸ hz))⟩
    refine ⟨_, .s 2 0 (xs.length + 1), _, 3, [L, M] ++ [L], z, .inl ⟨rfl, rfl, rfl, rfl⟩, mem_made hmem hp (by rw [hsize]; exact hlt) hnz (.inl hown) (Nat.le_of_eq hsize.symm) (fun b _ hb2 => hother b (fun e => hb2 (e ▸ hown))) (fun t b hz => hLe.same t b hz) hsys ?_ rfl, .s _ 2 0 _ c L.o L rfl hp hcn (by omega) (fun _ => by simp)⟩
    refine .inr ⟨hp, cells', fr, hb', fun m hm => hf m (by omega), hk, by rw [hs', hk]; exact hsz, by rw [List.length_map, insX_len x hi]; omega, fun q el hq => ?_⟩
    rw [List.getElem?_map] at hq
    obtain ⟨a, ha, rfl⟩ := Option.map_eq_some_iff.1 hq
    refine ⟨by rw [hk]; rfl, fun j a' ha' => ?_⟩
    have hj : j = 0 := by
      have : j < 1 := (List.getElem?_eq_some_iff.1 ha').1
      omega
    subst hj
    obtain rfl : a = a' := by simpa [sg] using ha'
    obtain ⟨u, u1, u2, u3⟩ := hel q a ha
    have hql : q < xs.length + 1 := by rw [← insX_len x hi]; exact (List.getElem?_eq_some_iff.1 ha).1
    exact ⟨u, by rw [hk, Nat.mul_one, Nat.add_zero, hget q hql]; exact u1, u2.on' hLe, u3⟩
  · exact fresh cs e w' hel hnew
end Go.AM
/- slices.Insert at keys and numbers, as contracts. -/
namespace Go.AM
open Go Go.RowKit Go.Lib
set_option maxHeartbeats 1000000 in
theorem insI_con (G : List (Nat × List Value)) (l : List Int) (a : Int) (i : Nat) (hi : i ≤ l.length) (hn : l.length ≤ 1048576) :
    Con Go.Proofs.Try.prog G 49 [.s 0 0 l.length, .r (.int .i64 i), .s 1 0 1] [(0, .lst 3 1 (l.map eI)), (1, .lst 3 1 [eI a])] 2 (Is (.s 2 0 (l.length + 1)) [(2, .lst 3 1 ((insX l i a).map eI))] 3) No := by
  have key := ins_con (P := Go.Proofs.Try.prog) (f := 49) (T := 3) G (by kernel_rfl) (l.map fun a => .r (.int .i64 a)) (.r (.int .i64 a)) i (by simpa using hi) (by simpa using hn)
    (fun w b off c vb voff vc cs y hne hcs hfr hy h1c h1y hlc hic hn1 hsh hex => by
      obtain ⟨tA, kA, s1, s2, s3⟩ := hsh
      obtain ⟨cells, fr, hb⟩ := hex
      have hvs : ∀ (j : Nat) v, [y][j]? = some v → w.cell? ⟨vb, voff + j, none⟩ = some v := fun j v hj => by
        cases j with
        | zero => cases hj; exact hy
        | succ j => simp at hj
      have h1v : ∀ v ∈ [y], v.oneCell' = true := fun v hv => by simp at hv; subst hv; exact h1y
      by_cases hin : i < cs.length
      · by_cases hroom : cs.length + 1 ≤ c
        · have hsz : cells.size ≠ 0 := by
            have := (hfr 0 (by omega)).1
            rw [cell_of hb] at this
            intro e
            rw [Array.getElem?_eq_none (by omega)] at this
            cases this
          refine (Go.Proofs.Yteebiklebedneaa.insI_shift b off cs.length c i vb voff 1 vc cs [y] w hin (by omega) hroom (by omega) hne rfl rfl hcs (fun j hj => (hfr j (by omega)).1) (fun j hj => (hfr j (by omega)).2) hvs h1c h1v tA 3 kA cells.size s1 (by simp [World.shape?, hb]) hsz s2 s3).mono ?_
          rintro e w' ⟨rfl, rfl⟩
          exact insAt_shift 3 rfl hin hroom hcs
        · refine (Go.Proofs.Yteebiklebedneaa.insI_grow b off cs.length c i vb voff 1 vc cs [y] w hin (by omega) hlc (by omega) (by omega) rfl rfl hcs hvs h1c h1v).mono ?_
          rintro e w' ⟨rfl, rfl⟩
          exact .inr (insAt_grow_new 3 rfl hin (grownCap_ge w _ _ _) (by simp [Builtin.zeroCells, Value.cells]) (by simp [Builtin.zeroCells, Value.cells]))
      · obtain rfl : i = cs.length := by omega
        by_cases hroom : cs.length + 1 ≤ c
        · refine (Go.Proofs.Yteebiklebedneaa.insI_end_room b off cs.length c vb voff 1 vc [y] w (by omega) hroom (by omega) rfl (fun j hj => by rw [Nat.add_assoc]; exact (hfr _ (by omega)).1) (fun j hj => by rw [Nat.add_assoc]; exact (hfr _ (by omega)).2) hvs h1v).mono ?_
          rintro e w' ⟨rfl, rfl⟩
          exact insAt_end 3 rfl hroom hcs ⟨cells, _, fr, hb⟩
        · refine (Go.Proofs.Yteebiklebedneaa.insI_end_grow (some ⟨b, off, none⟩) cs.length c vb voff 1 vc cs [y] w (by omega) hlc (by omega) (by omega) rfl rfl (fun e => by cases e) (fun a ha j v hj => by cases ha; rw [Addr.add_lit]; exact hcs j v hj) hvs h1v).mono ?_
          rintro e w' ⟨rfl, rfl⟩
          exact .inr (insAt_new 3 rfl (grownCap_ge w _ _ _) (by simp [Builtin.zeroCells, Value.cells]; omega)))
    (fun w vb voff vc y hy h1y => by
      have hvs : ∀ (j : Nat) v, [y][j]? = some v → w.cell? ⟨vb, voff + j, none⟩ = some v := fun j v hj => by
        cases j with
        | zero => cases hj; exact hy
        | succ j => simp at hj
      have h1v : ∀ v ∈ [y], v.oneCell' = true := fun v hv => by simp at hv; subst hv; exact h1y
      refine (Go.Proofs.Yteebiklebedneaa.insI_end_grow none 0 0 vb voff 1 vc [] [y] w (by omega) (by omega) (by omega) (by omega) rfl rfl (fun _ => rfl) (fun a ha => by cases ha) hvs h1v).mono ?_
      rintro e w' ⟨rfl, rfl⟩
      exact insAt_new (cs := []) 3 rfl (grownCap_ge w _ _ _) (by simp [Builtin.zeroCells, Value.cells]; omega))
  rw [← insX_map, List.map_map, List.map_map, List.length_map] at key
  exact key
set_option maxHeartbeats 1000000 in
theorem insK_con (G : List (Nat × List Value)) (l : List Ky) (a : Ky) (i : Nat) (hi : i ≤ l.length) (hn : l.length ≤ 1048576) :
    Con Go.Proofs.Try.prog G 48 [.s 0 0 l.length, .r (.int .i64 i), .s 1 0 1] [(0, .lst 30 1 (l.map eKy)), (1, .lst 30 1 [eKy a])] 2 (Is (.s 2 0 (l.length + 1)) [(2, .lst 30 1 ((insX l i a).map eKy))] 3) No := by
  have key := ins_con (P := Go.Proofs.Try.prog) (f := 48) (T := 30) G (by kernel_rfl) (l.map fun a => .ro true 1 (a.map eByte)) (.ro true 1 (a.map eByte)) i (by simpa using hi) (by simpa using hn)
    (fun w b off c vb voff vc cs y hne hcs hfr hy h1c h1y hlc hic hn1 hsh hex => by
      obtain ⟨tA, kA, s1, s2, s3⟩ := hsh
      obtain ⟨cells, fr, hb⟩ := hex
      have hvs : ∀ (j : Nat) v, [y][j]? = some v → w.cell? ⟨vb, voff + j, none⟩ = some v := fun j v hj => by
        cases j with
        | zero => cases hj; exact hy
        | succ j => simp at hj
      have h1v : ∀ v ∈ [y], v.oneCell' = true := fun v hv => by simp at hv; subst hv; exact h1y
      by_cases hin : i < cs.length
      · by_cases hroom : cs.length + 1 ≤ c
        · have hsz : cells.size ≠ 0 := by
            have := (hfr 0 (by omega)).1
            rw [cell_of hb] at this
            intro e
            rw [Array.getElem?_eq_none (by omega)] at this
            cases this
          refine (Go.Proofs.Yteebiklebedneaa.insK_shift b off cs.length c i vb voff 1 vc cs [y] w hin (by omega) hroom (by omega) hne rfl rfl hcs (fun j hj => (hfr j (by omega)).1) (fun j hj => (hfr j (by omega)).2) hvs h1c h1v tA 30 kA cells.size s1 (by simp [World.shape?, hb]) hsz s2 s3).mono ?_
          rintro e w' ⟨rfl, rfl⟩
          exact insAt_shift 30 rfl hin hroom hcs
        · refine (Go.Proofs.Yteebiklebedneaa.insK_grow b off cs.length c i vb voff 1 vc cs [y] w hin (by omega) hlc (by omega) (by omega) rfl rfl hcs hvs h1c h1v).mono ?_
          rintro e w' ⟨rfl, rfl⟩
          exact .inr (insAt_grow_new 30 rfl hin (grownCap_ge w _ _ _) (by simp [Builtin.zeroCells, Value.cells]) (by simp [Builtin.zeroCells, Value.cells]))
      · obtain rfl : i = cs.length := by omega
        by_cases hroom : cs.length + 1 ≤ c
        · refine (Go.Proofs.Yteebiklebedneaa.insK_end_room b off cs.length c vb voff 1 vc [y] w (by omega) hroom (by omega) rfl (fun j hj => by rw [Nat.add_assoc]; exact (hfr _ (by omega)).1) (fun j hj => by rw [Nat.add_assoc]; exact (hfr _ (by omega)).2) hvs h1v).mono ?_
          rintro e w' ⟨rfl, rfl⟩
          exact insAt_end 30 rfl hroom hcs ⟨cells, _, fr, hb⟩
        · refine (Go.Proofs.Yteebiklebedneaa.insK_end_grow (some ⟨b, off, none⟩) cs.length c vb voff 1 vc cs [y] w (by omega) hlc (by omega) (by omega) rfl rfl (fun e => by cases e) (fun a ha j v hj => by cases ha; rw [Addr.add_lit]; exact hcs j v hj) hvs h1v).mono ?_
          rintro e w' ⟨rfl, rfl⟩
          exact .inr (insAt_new 30 rfl (grownCap_ge w _ _ _) (by simp [Builtin.zeroCells, Value.cells]; omega)))
    (fun w vb voff vc y hy h1y => by
      have hvs : ∀ (j : Nat) v, [y][j]? = some v → w.cell? ⟨vb, voff + j, none⟩ = some v := fun j v hj => by
        cases j with
        | zero => cases hj; exact hy
        | succ j => simp at hj
      have h1v : ∀ v ∈ [y], v.oneCell' = true := fun v hv => by simp at hv; subst hv; exact h1y
      refine (Go.Proofs.Yteebiklebedneaa.insK_end_grow none 0 0 vb voff 1 vc [] [y] w (by omega) (by omega) (by omega) (by omega) rfl rfl (fun _ => rfl) (fun a ha => by cases ha) hvs h1v).mono ?_
      rintro e w' ⟨rfl, rfl⟩
      exact insAt_new (cs := []) 30 rfl (grownCap_ge w _ _ _) (by simp [Builtin.zeroCells, Value.cells]; omega))
  rw [← insX_map, List.map_map, List.map_map, List.length_map] at key
  exact key
end Go.AM
/- slices.Clone of rows of keys, as own rows. -/
namespace Go.AM
open Go Go.RowKit
attribute [local irreducible] AWP retA
set_option maxRecDepth 100000 in
set_option maxHeartbeats 2000000 in
theorem cloneKs_any (w : World) (a : Option Addr) (c : Nat) : Calls Go.Proofs.Try.prog 64 #[.slice a 0 c] w fun e w' => (∃ v, e = .returned v ∧ w'.ownsRow w.heap.size 30 1 v 0 []) ∧ Below w.heap.size w w' := by
  have hq : ∀ w, (binOp .eql 49 (.slice a 0 c) (.slice none 0 0)).run Go.Proofs.Try.prog w = .ok (.bool a.isNone) w := fun w => Lib.run_eql_slice_nil w 49 30 a 0 c 0 0 Go.Proofs.Try.underlying49
  go_enter Go.Proofs.Try.func64, Go.Proofs.Try.ntmps64
  cases a with
  | none =>
    go_wp2
    go_ret
    exact ⟨⟨.slice none 0 0, rfl, World.ownsRow_nil _ _ _ _⟩, Below.refl _ _⟩
  | some p =>
    go_wp2
    go_ret
    exact ⟨⟨.slice (some ⟨w.heap.size, 0, none⟩) 0 0, rfl, rfl, .inr ⟨w.heap.size, 0, #[], rfl, Nat.le_refl _, World.alloc_heap_new w _, Nat.le_refl _, Nat.zero_le _, rfl, rfl⟩⟩, (Below.refl _ w).alloc (Nat.le_refl _) _⟩
set_option maxRecDepth 100000 in
theorem cloneKs1_con (G : List (Nat × List Value)) (t : Bool) (x : Ky) (l : List Ky) (hl : l.length ≤ 1048576) : Con Go.Proofs.Try.prog G 64 [.ro t 1 ((x :: l).map eKy)] [] 0 (Is (.s 0 0 (x :: l).length) [(0, .lst 30 1 ((x :: l).map eKy))] 1) No := by
  refine con_of_awp Go.Proofs.Try.func64 rfl (by kernel_rfl) (of_decide_eq_true (by kernel_rfl)) ?_; intro E hG hE; subst hG; simp only [ent]
  (repeat' (first | refine awp_seq ?_ | refine awp_block ?_ | refine awp_skip ?_ | refine awp_exit ?_ | ((first | refine rR (fun K kp hK hkp => ?_) | refine iG ?_); simp (implicitDefEqProofs := false) (maxSteps := 2000000) (disch := omega) only [go_sem]; (repeat' (first | (refine hK _ ?_; clear hK hkp kp K) | (with_reducible refine And.intro ?_ ?_) | omega))) | ((first | refine aG (fun h => ?_) (fun h => ?_) | refine aD (fun h => ?_) (fun h => ?_) | refine aX (fun h => ?_) (fun h => ?_)) <;> simp only [h]) | refine awp_cond_t rfl ?_ | refine awp_cond_f rfl ?_ | ((refine awp_cond rfl (fun h => ?_) (fun h => ?_) <;> try simp only [ifs] at h) <;> (try (exfalso; omega))) | refine awp_ret ?_))
  (refine retA_is (by (simp (implicitDefEqProofs := false) (maxSteps := 2000000) (disch := omega) only [go_sem, Go.Proofs.Try.results64]); rfl) ?_; refine (embV [1] ?_ ?_ ?_ ?_ ?_ ?_).s <;> simp [oneA, okO, lk, ren, renL, renNd, by_, hE] <;> (try (intro i hi; first | (rcases i with _ | _ | i; rfl; rfl; (exfalso; omega)) | (rcases i with _ | _ | _ | i; rfl; rfl; rfl; (exfalso; omega)) | (rcases i with _ | _ | _ | _ | i; rfl; rfl; rfl; rfl; (exfalso; omega)) | (rcases i with _ | _ | _ | _ | _ | i; rfl; rfl; rfl; rfl; rfl; (exfalso; omega)) | (rcases i with _ | _ | _ | _ | _ | _ | i; rfl; rfl; rfl; rfl; rfl; rfl; (exfalso; omega)))))
theorem cloneKs_own (G : List (Nat × List Value)) (t : Bool) (l : List Ky) (hl : l.length ≤ 1048576) : Con Go.Proofs.Try.prog G 64 [.ro t 1 (l.map eKy)] [] 0 (Is (.s 0 0 l.length) [(0, .lst 30 1 (l.map eKy))] 1) No := by
  cases l with
  | cons x r => exact cloneKs1_con G t x r (by simp only [List.length_cons] at hl; omega)
  | nil =>
    exact con_of_owns (P := Go.Proofs.Try.prog) (T := 30) (k := 1) (els := []) (fl := []) (by kernel_rfl) (fun i e h => by simp at h) (fun w z vs hz hr hG => by
      obtain ⟨v, r, rfl, h1, h2⟩ := hr.head
      obtain rfl := h2.of_nil
      obtain ⟨a, c, rfl⟩ := ro_nil_inv h1
      exact cloneKs_any w a c)
end Go.AM
/- Trees: all entries, in order: plain law. -/
namespace Go.AM
abbrev Et := Ky × Int
def entL (ps : List PG) (x : Nat) : List Et := (pg ps x).keys.zip (pg ps x).kids
def entsF (ps : List PG) (d i : Nat) : List Et := (lvl ps d [i]).flatMap (entL ps)
theorem entL_keys {ps : List PG} {x : Nat} {e : Et} (h : e ∈ entL ps x) : e.1 ∈ (pg ps x).keys := (List.of_mem_zip h).1
theorem ent_len {ps : List PG} (hp : AllOK ps) (x : Nat) : (entL ps x).length ≤ 4 := by
  rw [entL, List.length_zip]
  by_cases h : x < ps.length
  · have := (ok_in hp h).nk; omega
  · have : pg ps x = default := by rw [pg, List.getD_eq_getElem?_getD, List.getElem?_eq_none (by omega)]; rfl
    rw [this]; exact Nat.zero_le _
theorem flatE_len {ps : List PG} (hp : AllOK ps) : ∀ (l : List Nat), (l.flatMap (entL ps)).length ≤ 4 * l.length
  | [] => Nat.le_refl _
  | x :: r => by
    have := flatE_len hp r
    have := ent_len hp x
    rw [List.flatMap_cons, List.length_append, List.length_cons]; omega
theorem find_zip (k : Ky) : ∀ (ks : List Ky) (is : List Int), ks.length = is.length → SrtK ks → (ks.zip is).find? (fun e => e.1 == k) = if ks[lowB k ks]? = some k then some (k, is.getD (lowB k ks) 0) else none
  | [], is, _, _ => by simp
  | x :: r, [], h, _ => by simp at h
  | x :: r, n :: s, h, hs => by
    have hs' : SrtK r := fun i j a b hij ha hb => hs (i + 1) (j + 1) a b (by omega) (by simpa using ha) (by simpa using hb)
    rw [List.zip_cons_cons, List.find?_cons]
    by_cases hx : ltK x k = true
    · have hne : (x == k) = false := by
        rw [beq_eq_false_iff_ne]; rintro rfl; rw [ltK_irrefl] at hx; cases hx
      have hl : lowB k (x :: r) = lowB k r + 1 := by rw [lowB, if_pos hx]
      rw [hl]
      simp only [hne, List.getElem?_cons_succ, List.getD_cons_succ]
      exact find_zip k r s (by simpa using h) hs'
    · have hl : lowB k (x :: r) = 0 := by rw [lowB, if_neg hx]
      rw [hl]
      simp only [List.getElem?_cons_zero, List.getD_cons_zero]
      by_cases he : x = k
      · subst he; simp
      · have hne : (x == k) = false := by rw [beq_eq_false_iff_ne]; exact he
        rw [if_neg (by simpa using he)]
        simp only [hne]
        refine List.find?_eq_none.2 fun e he' => ?_
        have h1 := (List.of_mem_zip he').1
        obtain ⟨j, hj⟩ := List.mem_iff_getElem?.1 h1
        have h2 := hs 0 (j + 1) x e.1 (by omega) rfl (by simpa using hj)
        simp only [beq_iff_eq]
        rintro rfl
        exact hx h2
theorem find_flat_none {ps : List PG} {k : Ky} {l : List Nat} (h : ∀ x ∈ l, ∀ e ∈ (pg ps x).keys, e ≠ k) : (l.flatMap (entL ps)).find? (fun e => e.1 == k) = none := by
  refine List.find?_eq_none.2 fun e he => ?_
  obtain ⟨x, hx, he⟩ := List.mem_flatMap.1 he
  simpa using h x hx e.1 (entL_keys he)
def foundM (l : List Et) (k : Ky) : Int × Int := match l.find? (fun e => e.1 == k) with
  | some e => (e.2, 0)
  | none => (0, 8)
def findM (p : PG) (k : Ky) : Int × Int := if p.keys[placeM p k]? = some k then (p.kids.getD (placeM p k) 0, 0) else (0, 8)
theorem ltK_ne {a b : Ky} (h : ltK a b = true) : a ≠ b := by rintro rfl; rw [ltK_irrefl] at h; cases h
theorem found_find {ps : List PG} (hp : AllOK ps) {d root : Nat} (hg : Good ps d root [] []) (k : Ky) (hl : leafF ps k d root < ps.length) : foundM (entsF ps d root) k = findM (pg ps (leafF ps k d root)) k := by
  obtain ⟨A, B, e, hA, hB, lo, hi, hgl, _⟩ := leaf_split hp k d root [] [] hg (.inl rfl)
  have hlf := hgl.1
  have hok := ok_in hp hl
  generalize leafF ps k d root = x at *
  have hkl := hok.kl hlf
  have hpl : placeM (pg ps x) k = lowB k (pg ps x).keys := if_neg fun h => by rw [hlf] at h; cases h.1
  rw [foundM, entsF, e, List.flatMap_append, List.flatMap_cons, List.find?_append, List.find?_append, find_flat_none (fun x hx e he => ltK_ne (hA x hx e he)), find_flat_none (fun x hx e he => (ltK_ne (hB x hx e he)).symm), entL, find_zip k _ _ hkl.symm (srt_page hok), findM, hpl]
  by_cases h : (pg ps x).keys[lowB k (pg ps x).keys]? = some k
  · rw [if_pos h, if_pos h]; rfl
  · rw [if_neg h, if_neg h]; rfl
end Go.AM
/- TreeCopy. -/
namespace Go.AM
open Go Go.RowKit
attribute [local irreducible] AWP retA
set_option maxRecDepth 100000 in
set_option maxHeartbeats 4000000 in
theorem treeCopy_con (G : List (Nat × List Value)) (t : Bool) (ps : List PG) (root : Int) (ho : okPs2 ps) : Con Go.Proofs.Try.prog G 26 [.agg [.ro t 5 (ps.map eP), .r (.int .i64 root)]] [] 0 (Is (.agg [.ro true 5 (ps.map eP), .r (.int .i64 root)]) [] 0) No := by
  have hn := ho.1
  refine con_of_awp Go.Proofs.Try.func26 rfl (by kernel_rfl) (of_decide_eq_true (by kernel_rfl)) ?_; intro E hG hE; subst hG; simp only [ent]
  (repeat' (first | refine awp_seq ?_ | refine awp_block ?_ | refine awp_skip ?_ | refine awp_exit ?_ | ((first | refine rR (fun K kp hK hkp => ?_) | refine rD (id := 15) mixed 8 [0,1,2,3,4,5,6,7] (fun K kp hK hkp => ?_) | refine iG ?_ | refine iD ?_); simp (implicitDefEqProofs := false) (maxSteps := 2000000) (disch := omega) only [go_sem, eP]; (repeat' (first | (refine hK _ ?_; clear hK hkp kp K) | (with_reducible refine And.intro ?_ ?_) | omega))) | ((first | refine aG (fun h => ?_) (fun h => ?_) | refine aD (fun h => ?_) (fun h => ?_) | refine aX (fun h => ?_) (fun h => ?_)) <;> simp only [h]) | refine awp_cond_t rfl ?_ | refine awp_cond_f rfl ?_ | ((refine awp_cond rfl (fun h => ?_) (fun h => ?_) <;> try simp only [ifs] at h) <;> (try (exfalso; omega))) | refine awp_ret ?_))
  (refine AWP.emb (emb_nilB 2 0 52 5 rfl rfl (by simp)) ?_; simp only [List.set_cons_zero, List.set_cons_succ, lk, ↓reduceIte, Nat.reduceAdd])
  refine awp_loop (fun i : Nat => ⟨[(4, .r (.int .i64 i)), (3, .p 2 0 0), (2, .p 1 0 0), (1, .p 0 0 0)], [(0, .box 24 [.ro t 5 (ps.map eP), .r (.int .i64 root)]), (1, .box 24 [.r (.slice none 0 0), .r (.int .i64 0)]), (2, .box 24 [.s 3 0 i, .r (.int .i64 root)]), (3, .lst 52 5 ((ps.take i).map eP))], 4⟩) (fun i => i ≤ ps.length) (fun i => ps.length - i) 0 ?_ ?_ ?_
  · exact Nat.zero_le _
  · (refine emb [0, 1, 2, 3] ?_ ?_ rfl ?_ ?_ ?_ ?_ <;> simp [okM, okO, lk, ren, renL, renNd, by_, hE, renOp] <;> (try omega) <;> (try (intro i hi; first | (rcases i with _ | _ | i; rfl; rfl; (exfalso; omega)) | (rcases i with _ | _ | _ | i; rfl; rfl; rfl; (exfalso; omega)) | (rcases i with _ | _ | _ | _ | i; rfl; rfl; rfl; rfl; (exfalso; omega)) | (rcases i with _ | _ | _ | _ | _ | i; rfl; rfl; rfl; rfl; rfl; (exfalso; omega)) | (rcases i with _ | _ | _ | _ | _ | _ | i; rfl; rfl; rfl; rfl; rfl; rfl; (exfalso; omega)))))
  intro i hi
  by_cases hlt : i < ps.length
  · have zi : ((i : Int) < (ps.length : Int)) = True := eq_true (by omega)
    obtain ⟨p, hp⟩ : ∃ p, ps[i]? = some p := ⟨ps[i], by simp [hlt]⟩
    obtain ⟨h1, h2, h3, h4⟩ := ho.2 p (List.mem_of_getElem? hp)
    have bc := bytesCopy_con E.G true p.high h3
    (repeat' (first | refine awp_seq ?_ | refine awp_block ?_ | refine awp_skip ?_ | refine awp_exit ?_ | ((first | refine rR (fun K kp hK hkp => ?_) | refine rU (id := 6) mixed 9 [⟨0, 0, [], [(0, 1)]⟩, ⟨0, 0, [0], [(0, 1)]⟩, ⟨0, 0, [], [(0, 1)]⟩, ⟨0, 0, [2], [(0, 1)]⟩, ⟨0, 0, [2, 3], [(0, 1)]⟩, ⟨0, 0, [], [(0, 1)]⟩, ⟨0, 0, [5], [(0, 1)]⟩, ⟨0, 0, [0, 1, 2, 3, 4, 5, 6], [(0, 1)]⟩, ⟨0, 1, [], []⟩] 1 [25, 26, 27, 28, 29, 30, 31, 32, 6] [] (fun K kp hK hkp => ?_) | refine rD (id := 15) mixed 8 [0,1,2,3,4,5,6,7] (fun K kp hK hkp => ?_) | refine cR bc ?_ | refine cD bc ?_ | refine cU bc ?_ | refine iG ?_ | refine iD ?_); simp (implicitDefEqProofs := false) (maxSteps := 2000000) (disch := omega) only [go_sem, zi, hp, eP]; (repeat' (first | (refine hK _ ?_; clear hK hkp kp K) | (with_reducible refine And.intro ?_ ?_) | omega))) | ((first | refine aG (fun h => ?_) (fun h => ?_) | refine aD (fun h => ?_) (fun h => ?_) | refine aX (fun h => ?_) (fun h => ?_)) <;> simp only [h]) | refine awp_cond_t rfl ?_ | refine awp_cond_f rfl ?_ | ((refine awp_cond rfl (fun h => ?_) (fun h => ?_) <;> try simp only [ifs] at h) <;> (try (exfalso; omega))) | refine awp_ret ?_))
    (refine AWP.emb (emb_nilB 5 1 30 1 rfl rfl (by simp)) ?_; simp only [List.set_cons_zero, List.set_cons_succ, lk, ↓reduceIte, Nat.reduceAdd])
    (refine AWP.emb (emb_nilB 5 2 3 1 rfl rfl (by simp)) ?_; simp only [List.set_cons_zero, List.set_cons_succ, lk, ↓reduceIte, Nat.reduceAdd])
    refine awp_loop (fun k : Nat => ⟨[(7, .r (.int .i64 k)), (6, .p 5 0 0), (5, .p 4 0 0), (4, .r (.int .i64 i)), (3, .p 2 0 0), (2, .p 1 0 0), (1, .p 0 0 0)], [(0, .box 24 [.ro t 5 (ps.map eP), .r (.int .i64 root)]), (1, .box 24 [.r (.slice none 0 0), .r (.int .i64 0)]), (2, .box 24 [.s 3 0 i, .r (.int .i64 root)]), (3, .lst 52 5 ((ps.take i).map eP)), (4, .box 52 (eP p)), (5, .box 52 [.r (.bool p.leaf), .s 6 0 (k), .s 7 0 (0), .ro true 1 (p.high.map eByte), .r (.int .i64 p.next)]), (6, .lst 30 1 ((p.keys.take k).map eKy)), (7, .lst 3 1 [])], 8⟩) (fun k => k ≤ p.keys.length) (fun k => p.keys.length - k) 0 ?_ ?_ ?_
    · exact Nat.zero_le _
    · (refine emb [0, 1, 2, 3, 4, 5, 6, 7] ?_ ?_ rfl ?_ ?_ ?_ ?_ <;> simp [okM, okO, lk, ren, renL, renNd, by_, hE, eP] <;> (try omega) <;> (try (intro i hi; first | (rcases i with _ | _ | i; rfl; rfl; (exfalso; omega)) | (rcases i with _ | _ | _ | i; rfl; rfl; rfl; (exfalso; omega)) | (rcases i with _ | _ | _ | _ | i; rfl; rfl; rfl; rfl; (exfalso; omega)) | (rcases i with _ | _ | _ | _ | _ | i; rfl; rfl; rfl; rfl; rfl; (exfalso; omega)) | (rcases i with _ | _ | _ | _ | _ | _ | i; rfl; rfl; rfl; rfl; rfl; rfl; (exfalso; omega)))))
    intro k hk
    by_cases hkl : k < p.keys.length
    · have zk : ((k : Int) < (p.keys.length : Int)) = True := eq_true (by omega)
      obtain ⟨x, hx⟩ : ∃ x, p.keys[k]? = some x := ⟨p.keys[k], by simp [hkl]⟩
      have xc := bytesCopy_con E.G true x (h4 x (List.mem_of_getElem? hx))
      have htk : p.keys.take (k + 1) = p.keys.take k ++ [x] := by rw [List.take_add_one, hx]; rfl
      have hl : (p.keys.take k).length = k := by rw [List.length_take]; omega
      (repeat' (first | refine awp_seq ?_ | refine awp_block ?_ | refine awp_skip ?_ | refine awp_exit ?_ | ((first | refine rR (fun K kp hK hkp => ?_) | refine rD (id := 15) mixed 8 [0,1,2,3,4,5,6,7] (fun K kp hK hkp => ?_) | refine cR xc ?_ | refine cD xc ?_ | refine iG ?_ | refine iD ?_); simp (implicitDefEqProofs := false) (maxSteps := 2000000) (disch := omega) only [go_sem, zk, hx, eP, eKy, hl, Value.oneCell']; (repeat' (first | (refine hK _ ?_; clear hK hkp kp K) | (with_reducible refine And.intro ?_ ?_) | omega))) | ((first | refine aG (fun h => ?_) (fun h => ?_) | refine aD (fun h => ?_) (fun h => ?_) | refine aX (fun h => ?_) (fun h => ?_)) <;> simp only [h]) | refine awp_cond_t rfl ?_ | refine awp_cond_f rfl ?_ | ((refine awp_cond rfl (fun h => ?_) (fun h => ?_) <;> try simp only [ifs] at h) <;> (try (exfalso; omega))) | refine awp_ret ?_))
      ((first | (refine nextB (k + 1) ?_ ?_ ?_) | (refine nextA (k + 1) ?_ ?_ ?_) | (refine nextE (k + 1) ?_ ?_ ?_)); rotate_left; (· (try dsimp only); (first | omega | (simp only [List.length_drop, List.length_cons, List.length_append]; omega) | (simp; done) | (simp; omega))); (· (refine emb [0, 1, 2, 3, 4, 5, 9, 7] ?_ ?_ rfl ?_ ?_ ?_ ?_ <;> simp [okM, okO, lk, ren, renL, renNd, by_, hE, htk, eKy, eP, List.take_take, Nat.min_self] <;> (try omega) <;> (try (intro i hi; first | (rcases i with _ | _ | i; rfl; rfl; (exfalso; omega)) | (rcases i with _ | _ | _ | i; rfl; rfl; rfl; (exfalso; omega)) | (rcases i with _ | _ | _ | _ | i; rfl; rfl; rfl; rfl; (exfalso; omega)) | (rcases i with _ | _ | _ | _ | _ | i; rfl; rfl; rfl; rfl; rfl; (exfalso; omega)) | (rcases i with _ | _ | _ | _ | _ | _ | i; rfl; rfl; rfl; rfl; rfl; rfl; (exfalso; omega)))))))
      omega
    · obtain rfl : k = p.keys.length := by omega
      rw [List.take_length]
      (repeat' (first | refine awp_seq ?_ | refine awp_block ?_ | refine awp_skip ?_ | refine awp_exit ?_ | ((first | refine rR (fun K kp hK hkp => ?_) | refine rD (id := 15) mixed 8 [0,1,2,3,4,5,6,7] (fun K kp hK hkp => ?_) | refine iG ?_ | refine iD ?_); simp (implicitDefEqProofs := false) (maxSteps := 2000000) (disch := omega) only [go_sem, eP]; (repeat' (first | (refine hK _ ?_; clear hK hkp kp K) | (with_reducible refine And.intro ?_ ?_) | omega))) | ((first | refine aG (fun h => ?_) (fun h => ?_) | refine aD (fun h => ?_) (fun h => ?_) | refine aX (fun h => ?_) (fun h => ?_)) <;> simp only [h]) | refine awp_cond_t rfl ?_ | refine awp_cond_f rfl ?_ | ((refine awp_cond rfl (fun h => ?_) (fun h => ?_) <;> try simp only [ifs] at h) <;> (try (exfalso; omega))) | refine awp_ret ?_))
      refine awp_loop (fun k : Nat => ⟨[(9, .r (.int .i64 k)), (6, .p 5 0 0), (5, .p 4 0 0), (4, .r (.int .i64 i)), (3, .p 2 0 0), (2, .p 1 0 0), (1, .p 0 0 0)], [(0, .box 24 [.ro t 5 (ps.map eP), .r (.int .i64 root)]), (1, .box 24 [.r (.slice none 0 0), .r (.int .i64 0)]), (2, .box 24 [.s 3 0 i, .r (.int .i64 root)]), (3, .lst 52 5 ((ps.take i).map eP)), (4, .box 52 (eP p)), (5, .box 52 [.r (.bool p.leaf), .s 6 0 (p.keys.length), .s 7 0 (k), .ro true 1 (p.high.map eByte), .r (.int .i64 p.next)]), (6, .lst 30 1 (p.keys.map eKy)), (7, .lst 3 1 ((p.kids.take k).map eI))], 8⟩) (fun k => k ≤ p.kids.length) (fun k => p.kids.length - k) 0 ?_ ?_ ?_
      · exact Nat.zero_le _
      · (refine emb [0, 1, 2, 3, 4, 5, 6, 7] ?_ ?_ rfl ?_ ?_ ?_ ?_ <;> simp [okM, okO, lk, ren, renL, renNd, by_, hE, eP] <;> (try omega) <;> (try (intro i hi; first | (rcases i with _ | _ | i; rfl; rfl; (exfalso; omega)) | (rcases i with _ | _ | _ | i; rfl; rfl; rfl; (exfalso; omega)) | (rcases i with _ | _ | _ | _ | i; rfl; rfl; rfl; rfl; (exfalso; omega)) | (rcases i with _ | _ | _ | _ | _ | i; rfl; rfl; rfl; rfl; rfl; (exfalso; omega)) | (rcases i with _ | _ | _ | _ | _ | _ | i; rfl; rfl; rfl; rfl; rfl; rfl; (exfalso; omega)))))
      intro k hk
      by_cases hkl : k < p.kids.length
      · have zk : ((k : Int) < (p.kids.length : Int)) = True := eq_true (by omega)
        obtain ⟨x, hx⟩ : ∃ x, p.kids[k]? = some x := ⟨p.kids[k], by simp [hkl]⟩
        have htk : p.kids.take (k + 1) = p.kids.take k ++ [x] := by rw [List.take_add_one, hx]; rfl
        have hl : (p.kids.take k).length = k := by rw [List.length_take]; omega
        (repeat' (first | refine awp_seq ?_ | refine awp_block ?_ | refine awp_skip ?_ | refine awp_exit ?_ | ((first | refine rR (fun K kp hK hkp => ?_) | refine rX (id := 15) mixed [7] 9 [0,1,2,3,4,5,6,7,8] (fun K kp hK hkp => ?_) | refine iG ?_ | refine iD ?_); simp (implicitDefEqProofs := false) (maxSteps := 2000000) (disch := omega) only [go_sem, zk, hx, eP, eI, hl, Value.oneCell']; (repeat' (first | (refine hK _ ?_; clear hK hkp kp K) | (with_reducible refine And.intro ?_ ?_) | omega))) | ((first | refine aG (fun h => ?_) (fun h => ?_) | refine aD (fun h => ?_) (fun h => ?_) | refine aX (fun h => ?_) (fun h => ?_)) <;> simp only [h]) | refine awp_cond_t rfl ?_ | refine awp_cond_f rfl ?_ | ((refine awp_cond rfl (fun h => ?_) (fun h => ?_) <;> try simp only [ifs] at h) <;> (try (exfalso; omega))) | refine awp_ret ?_))
        ((first | (refine nextB (k + 1) ?_ ?_ ?_) | (refine nextA (k + 1) ?_ ?_ ?_) | (refine nextE (k + 1) ?_ ?_ ?_)); rotate_left; (· (try dsimp only); (first | omega | (simp only [List.length_drop, List.length_cons, List.length_append]; omega) | (simp; done) | (simp; omega))); (· (refine emb [0, 1, 2, 3, 4, 5, 6, 9] ?_ ?_ rfl ?_ ?_ ?_ ?_ <;> simp [okM, okO, lk, ren, renL, renNd, by_, hE, htk, eI, eP, List.take_take, Nat.min_self] <;> (try omega) <;> (try (intro i hi; first | (rcases i with _ | _ | i; rfl; rfl; (exfalso; omega)) | (rcases i with _ | _ | _ | i; rfl; rfl; rfl; (exfalso; omega)) | (rcases i with _ | _ | _ | _ | i; rfl; rfl; rfl; rfl; (exfalso; omega)) | (rcases i with _ | _ | _ | _ | _ | i; rfl; rfl; rfl; rfl; rfl; (exfalso; omega)) | (rcases i with _ | _ | _ | _ | _ | _ | i; rfl; rfl; rfl; rfl; rfl; rfl; (exfalso; omega)))))))
        omega
      · obtain rfl : k = p.kids.length := by omega
        rw [List.take_length]
        have hl : (ps.take i).length = i := by rw [List.length_take]; omega
        have ht : ps.take (i + 1) = ps.take i ++ [p] := by rw [List.take_add_one, hp]; rfl
        (repeat' (first | refine awp_seq ?_ | refine awp_block ?_ | refine awp_skip ?_ | refine awp_exit ?_ | ((first | refine rR (fun K kp hK hkp => ?_) | refine rD (id := 15) mixed 8 [0,1,2,3,4,5,6,7] (fun K kp hK hkp => ?_) | refine iG ?_ | refine iD ?_); simp (implicitDefEqProofs := false) (maxSteps := 2000000) (disch := omega) only [go_sem, eP, hl]; (repeat' (first | (refine hK _ ?_; clear hK hkp kp K) | (with_reducible refine And.intro ?_ ?_) | omega))) | ((first | refine aG (fun h => ?_) (fun h => ?_) | refine aD (fun h => ?_) (fun h => ?_) | refine aX (fun h => ?_) (fun h => ?_)) <;> simp only [h]) | refine awp_cond_t rfl ?_ | refine awp_cond_f rfl ?_ | ((refine awp_cond rfl (fun h => ?_) (fun h => ?_) <;> try simp only [ifs] at h) <;> (try (exfalso; omega))) | refine awp_ret ?_))
        ((first | (refine nextB (i + 1) ?_ ?_ ?_) | (refine nextA (i + 1) ?_ ?_ ?_) | (refine nextE (i + 1) ?_ ?_ ?_)); rotate_left; (· (try dsimp only); (first | omega | (simp only [List.length_drop, List.length_cons, List.length_append]; omega) | (simp; done) | (simp; omega))); (· (refine emb [0, 1, 2, 9] ?_ ?_ rfl ?_ ?_ ?_ ?_ <;> simp [okM, okO, lk, ren, renL, renNd, by_, hE, ht, eP, List.take_take, Nat.min_self] <;> (try omega) <;> (try (intro i hi; first | (rcases i with _ | _ | i; rfl; rfl; (exfalso; omega)) | (rcases i with _ | _ | _ | i; rfl; rfl; rfl; (exfalso; omega)) | (rcases i with _ | _ | _ | _ | i; rfl; rfl; rfl; rfl; (exfalso; omega)) | (rcases i with _ | _ | _ | _ | _ | i; rfl; rfl; rfl; rfl; rfl; (exfalso; omega)) | (rcases i with _ | _ | _ | _ | _ | _ | i; rfl; rfl; rfl; rfl; rfl; rfl; (exfalso; omega)))))))
        omega
  · obtain rfl : i = ps.length := by omega
    rw [List.take_length]
    (repeat' (first | refine awp_seq ?_ | refine awp_block ?_ | refine awp_skip ?_ | refine awp_exit ?_ | ((first | refine rR (fun K kp hK hkp => ?_) | refine rD (id := 15) mixed 8 [0,1,2,3,4,5,6,7] (fun K kp hK hkp => ?_) | refine iG ?_ | refine iD ?_); simp (implicitDefEqProofs := false) (maxSteps := 2000000) (disch := omega) only [go_sem]; (repeat' (first | (refine hK _ ?_; clear hK hkp kp K) | (with_reducible refine And.intro ?_ ?_) | omega))) | ((first | refine aG (fun h => ?_) (fun h => ?_) | refine aD (fun h => ?_) (fun h => ?_) | refine aX (fun h => ?_) (fun h => ?_)) <;> simp only [h]) | refine awp_cond_t rfl ?_ | refine awp_cond_f rfl ?_ | ((refine awp_cond rfl (fun h => ?_) (fun h => ?_) <;> try simp only [ifs] at h) <;> (try (exfalso; omega))) | refine awp_ret ?_))
    (refine retA_is (by (simp (implicitDefEqProofs := false) (maxSteps := 2000000) (disch := omega) only [go_sem, Go.Proofs.Try.results26]); rfl) ?_; refine embS_frz (by simp only [oneA]; simp (implicitDefEqProofs := false) (maxSteps := 2000000) (disch := omega) only [go_sem]; rfl) ?_; refine (embV_nil hE (by simp) ?_).s; simp [oneA, ren, renL])
end Go.AM
/- The law TreeChecks. -/
namespace Go.AM
open Go Go.RowKit
attribute [local irreducible] AWP retA
theorem trees_con (G : List (Nat × List Value)) (t : Bool) (ps : List PG) (root : Int) (ho : okPs2 ps) : Con Go.Proofs.Try.prog G 9 [.agg [.ro t 5 (ps.map eP), .r (.int .i64 root)]] [] 0 (Is (.agg [.ro true 5 (ps.map eP), .r (.int .i64 root)]) [] 0) No := by
  have tc := treeCopy_con G t ps root ho
  refine con_of_awp Go.Proofs.Try.func9 rfl (by kernel_rfl) (of_decide_eq_true (by kernel_rfl)) ?_; intro E hG hE; subst hG; simp only [ent]
  (repeat' (first | refine awp_seq ?_ | refine awp_block ?_ | refine awp_skip ?_ | refine awp_exit ?_ | ((first | refine rR (fun K kp hK hkp => ?_) | refine cR tc ?_ | refine iG ?_); simp (implicitDefEqProofs := false) (maxSteps := 2000000) (disch := omega) only [go_sem, eP]; (repeat' (first | (refine hK _ ?_; clear hK hkp kp K) | (with_reducible refine And.intro ?_ ?_) | omega))) | ((first | refine aG (fun h => ?_) (fun h => ?_) | refine aD (fun h => ?_) (fun h => ?_) | refine aX (fun h => ?_) (fun h => ?_)) <;> simp only [h]) | refine awp_cond_t rfl ?_ | refine awp_cond_f rfl ?_ | ((refine awp_cond rfl (fun h => ?_) (fun h => ?_) <;> try simp only [ifs] at h) <;> (try (exfalso; omega))) | refine awp_ret ?_))
  (refine retA_is (by (simp (implicitDefEqProofs := false) (maxSteps := 2000000) (disch := omega) only [go_sem, Go.Proofs.Try.results9]); rfl) ?_; refine eN hE ?_; simp [oneA, ren, renL])
theorem okPs_of {ps : List PG} (h : okPs2 ps) : okPs ps := fun p hp => ⟨(h.2 p hp).1, (h.2 p hp).2.1⟩
end Go.AM
/- Trees: all entries, in order: the reference's walk. -/
namespace Go.AM
open Go Go.RowKit
attribute [local irreducible] AWP retA
def eEt (e : Et) : List AV := [.ro true 1 (e.1.map eByte), .r (.int .i64 e.2)]
@[simp] theorem ptA_eEt (a : Et) : (∀ x, x ∈ eEt a → PT x) = True := eq_true (by intro x hx; simp [eEt] at hx; rcases hx with rfl | rfl <;> simp)
instance : PTf eEt := ⟨fun a => of_eq_true (ptA_eEt a)⟩
set_option maxRecDepth 100000 in
set_option maxHeartbeats 4000000 in
theorem entries_con (t : Bool) (ps : List PG) (root : Int) (hp : AllOK ps) (ho : okPs2 ps) (hin : ∀ i x, x ∈ kidsOf ps i → x < ps.length) (hn : ps.length ≤ 4000) : ∀ (d i : Nat) (low high : Ky), Good ps d i low high → i < ps.length → (lvl ps d [i]).length ≤ 4000 →
    ∀ (G : List (Nat × List Value)), Con Go.Proofs.Try.prog G 54 [.agg [.ro t 5 (ps.map eP), .r (.int .i64 root)], .r (.int .i64 i)] [] 0 (Is (.ro true 2 ((entsF ps d i).map eEt)) [] 0) No := by
  intro d
  induction d with
  | zero =>
    intro i low high hg hi hl G
    have hlf := hg.1
    have hpx := pg_in hi
    have hok := hp _ _ hpx
    obtain ⟨o1, o2, o3, o4⟩ := ho.2 _ (List.mem_of_getElem? hpx)
    have he : entsF ps 0 i = (pg ps i).keys.zip (pg ps i).kids := by simp [entsF, lvl, entL]
    rw [he]
    generalize pg ps i = p at *
    have hkl := hok.kl hlf
    have h4 := hok.nk
    refine con_of_awp Go.Proofs.Try.func54 rfl (by kernel_rfl) (of_decide_eq_true (by kernel_rfl)) ?_; intro E hG hE; subst hG; simp only [ent]
    (repeat' (first | refine awp_seq ?_ | refine awp_block ?_ | refine awp_skip ?_ | refine awp_exit ?_ | ((first | refine rR (fun K kp hK hkp => ?_) | refine rD (id := 7) mixed 14 [0,1,2,3,4,5,7,8,9,10,11,6,12,13] (fun K kp hK hkp => ?_) | refine rD (id := 8) mixed 8 [0,1,2,3,4,5,6,7] (fun K kp hK hkp => ?_) | refine iG ?_ | refine iD ?_); simp (implicitDefEqProofs := false) (maxSteps := 2000000) (disch := omega) only [go_sem, hpx, eP, hlf]; (repeat' (first | (refine hK _ ?_; clear hK hkp kp K) | (with_reducible refine And.intro ?_ ?_) | omega))) | ((first | refine aG (fun h => ?_) (fun h => ?_) | refine aD (fun h => ?_) (fun h => ?_) | refine aX (fun h => ?_) (fun h => ?_)) <;> simp only [h]) | refine awp_cond_t rfl ?_ | refine awp_cond_f rfl ?_ | ((refine awp_cond rfl (fun h => ?_) (fun h => ?_) <;> try simp only [ifs] at h) <;> (try (exfalso; omega))) | refine awp_ret ?_))
    (refine AWP.emb (emb_nil 6 36 2 ?_) ?_; (· rfl); dsimp only)
    refine awp_loop (fun j : Nat => ⟨[(7, .r (.int .i64 j)), (6, .s 2 0 j), (5, .p 1 0 0), (2, .p 0 0 0)], [(0, .box 24 [.ro t 5 (ps.map eP), .r (.int .i64 root)]), (1, .box 52 [.r (.bool true), .ro true 1 (p.keys.map eKy), .ro true 1 (p.kids.map eI), .ro true 1 (p.high.map eByte), .r (.int .i64 p.next)]), (2, .lst 36 2 (((p.keys.zip p.kids).take j).map eEt))], 3⟩) (fun j => j ≤ p.keys.length) (fun j => p.keys.length - j) 0 ?_ ?_ ?_
    · exact Nat.zero_le _
    · (refine emb [0, 1, 2] ?_ ?_ rfl ?_ ?_ ?_ ?_ <;> simp [okM, okO, lk, ren, renL, renNd, by_, hE] <;> (try omega) <;> (try (intro i hi; first | (rcases i with _ | _ | i; rfl; rfl; (exfalso; omega)) | (rcases i with _ | _ | _ | i; rfl; rfl; rfl; (exfalso; omega)) | (rcases i with _ | _ | _ | _ | i; rfl; rfl; rfl; rfl; (exfalso; omega)) | (rcases i with _ | _ | _ | _ | _ | i; rfl; rfl; rfl; rfl; rfl; (exfalso; omega)) | (rcases i with _ | _ | _ | _ | _ | _ | i; rfl; rfl; rfl; rfl; rfl; rfl; (exfalso; omega)))))
    intro j hj
    by_cases hlt : j < p.keys.length
    · have zj : ((j : Int) < (p.kids.length : Int)) = True := eq_true (by omega)
      obtain ⟨x, hx⟩ : ∃ x, p.keys[j]? = some x := ⟨_, List.getElem?_eq_getElem hlt⟩
      obtain ⟨y, hy⟩ : ∃ y, p.kids[j]? = some y := ⟨_, List.getElem?_eq_getElem (by omega)⟩
      have bc := bytesCopy_con E.G true x (o4 x (List.mem_of_getElem? hx))
      have hz : (p.keys.zip p.kids)[j]? = some (x, y) := List.getElem?_zip_eq_some.2 ⟨hx, hy⟩
      have htk : (p.keys.zip p.kids).take (j + 1) = (p.keys.zip p.kids).take j ++ [(x, y)] := by rw [List.take_add_one, hz]; rfl
      have hlj : ((p.keys.zip p.kids).take j).length = j := by rw [List.length_take, List.length_zip]; omega
      (repeat' (first | refine awp_seq ?_ | refine awp_block ?_ | refine awp_skip ?_ | refine awp_exit ?_ | ((first | refine rR (fun K kp hK hkp => ?_) | refine rD (id := 7) mixed 14 [0,1,2,3,4,5,7,8,9,10,11,6,12,13] (fun K kp hK hkp => ?_) | refine rD (id := 8) mixed 8 [0,1,2,3,4,5,6,7] (fun K kp hK hkp => ?_) | refine cR bc ?_ | refine cD bc ?_ | refine iG ?_ | refine iD ?_); simp (implicitDefEqProofs := false) (maxSteps := 2000000) (disch := omega) only [go_sem, zj, hx, hy, hlj, eKy, eI, eEt]; (repeat' (first | (refine hK _ ?_; clear hK hkp kp K) | (with_reducible refine And.intro ?_ ?_) | omega))) | ((first | refine aG (fun h => ?_) (fun h => ?_) | refine aD (fun h => ?_) (fun h => ?_) | refine aX (fun h => ?_) (fun h => ?_)) <;> simp only [h]) | refine awp_cond_t rfl ?_ | refine awp_cond_f rfl ?_ | ((refine awp_cond rfl (fun h => ?_) (fun h => ?_) <;> try simp only [ifs] at h) <;> (try (exfalso; omega))) | refine awp_ret ?_))
      ((first | (refine nextB (j + 1) ?_ ?_ ?_) | (refine nextA (j + 1) ?_ ?_ ?_) | (refine nextE (j + 1) ?_ ?_ ?_)); rotate_left; (· (try dsimp only); (first | omega | (simp only [List.length_drop, List.length_cons, List.length_append]; omega) | (simp; done) | (simp; omega))); (· (refine emb [0, 1, 4] ?_ ?_ rfl ?_ ?_ ?_ ?_ <;> simp [okM, okO, lk, ren, renL, renNd, by_, hE, htk, eEt, List.take_take, Nat.min_self] <;> (try omega) <;> (try (intro i hi; first | (rcases i with _ | _ | i; rfl; rfl; (exfalso; omega)) | (rcases i with _ | _ | _ | i; rfl; rfl; rfl; (exfalso; omega)) | (rcases i with _ | _ | _ | _ | i; rfl; rfl; rfl; rfl; (exfalso; omega)) | (rcases i with _ | _ | _ | _ | _ | i; rfl; rfl; rfl; rfl; rfl; (exfalso; omega)) | (rcases i with _ | _ | _ | _ | _ | _ | i; rfl; rfl; rfl; rfl; rfl; rfl; (exfalso; omega)))))))
      omega
    · obtain rfl : j = p.keys.length := by omega
      have zj : ((p.keys.length : Int) < (p.kids.length : Int)) = False := eq_false (by omega)
      have htk : (p.keys.zip p.kids).take p.keys.length = p.keys.zip p.kids := List.take_of_length_le (by rw [List.length_zip]; omega)
      rw [htk]
      have hzl : (p.keys.zip p.kids).length = p.keys.length := by rw [List.length_zip]; omega
      (repeat' (first | refine awp_seq ?_ | refine awp_block ?_ | refine awp_skip ?_ | refine awp_exit ?_ | ((first | refine rR (fun K kp hK hkp => ?_) | refine rD (id := 7) mixed 14 [0,1,2,3,4,5,7,8,9,10,11,6,12,13] (fun K kp hK hkp => ?_) | refine rD (id := 8) mixed 8 [0,1,2,3,4,5,6,7] (fun K kp hK hkp => ?_) | refine iG ?_ | refine iD ?_); simp (implicitDefEqProofs := false) (maxSteps := 2000000) (disch := omega) only [go_sem, zj]; (repeat' (first | (refine hK _ ?_; clear hK hkp kp K) | (with_reducible refine And.intro ?_ ?_) | omega))) | ((first | refine aG (fun h => ?_) (fun h => ?_) | refine aD (fun h => ?_) (fun h => ?_) | refine aX (fun h => ?_) (fun h => ?_)) <;> simp only [h]) | refine awp_cond_t rfl ?_ | refine awp_cond_f rfl ?_ | ((refine awp_cond rfl (fun h => ?_) (fun h => ?_) <;> try simp only [ifs] at h) <;> (try (exfalso; omega))) | refine awp_ret ?_))
      (refine retA_is (by (simp (implicitDefEqProofs := false) (maxSteps := 2000000) (disch := omega) only [go_sem, Go.Proofs.Try.results54, hzl]); rfl) ?_; refine embS_frz (by simp only [oneA]; simp (implicitDefEqProofs := false) (maxSteps := 2000000) (disch := omega) only [go_sem, hzl]; rfl) ?_; refine (embV_nil hE (by simp) ?_).s; simp [oneA, ren, renL, hzl])
      exact List.take_of_length_le (by simp [hkl])
  | succ d ih =>
    intro i low high hg hi hl G
    have hlf := hg.1
    have hks := hg.2.2.2
    have hpx := pg_in hi
    have hok := hp _ _ hpx
    have hkd : ∀ (j kid : Nat), (kidsOf ps i)[j]? = some kid → (pg ps i).kids[j]? = some (kid : Int) := fun j kid h => by
      rw [kidsOf, if_neg (by simp [hlf]), List.getElem?_map, Option.map_eq_some_iff] at h
      obtain ⟨y, hy, rfl⟩ := h
      have h0 := (hok.kd j (List.getElem?_eq_some_iff.1 hy).1).1
      rw [List.getD_eq_getElem?_getD, hy] at h0
      have h0 : 0 ≤ y := h0
      rw [hy]; congr 1; omega
    have hkn : (kidsOf ps i).length = (pg ps i).kids.length := by rw [kidsOf, if_neg (by simp [hlf]), List.length_map]
    have hL : lvl ps (d + 1) [i] = lvl ps d (kidsOf ps i) := lvl_one _ _ _
    have hK : ∀ kid, kid ∈ kidsOf ps i → kid < ps.length := fun kid h => hin i kid h
    have hF : entsF ps (d + 1) i = (lvl ps d (kidsOf ps i)).flatMap (entL ps) := by rw [entsF, hL]
    rw [hF]
    rw [hL] at hl
    generalize pg ps i = p at hpx hok hkd hkn hlf hks
    generalize kidsOf ps i = ks at *
    have hki := hok.ki hlf
    have h4 := hok.nk
    have hcl : ∀ j, ((lvl ps d (ks.take j)).flatMap (entL ps)).length ≤ 16000 := fun j => by
      have h1 := flatE_len hp (lvl ps d (ks.take j))
      have h2 : (lvl ps d (ks.take j)).length ≤ (lvl ps d ks).length := by
        conv => rhs; rw [← List.take_append_drop j ks, lvl_append, List.length_append]
        omega
      omega
    refine con_of_awp Go.Proofs.Try.func54 rfl (by kernel_rfl) (of_decide_eq_true (by kernel_rfl)) ?_; intro E hG hE; subst hG; simp only [ent]
    (repeat' (first | refine awp_seq ?_ | refine awp_block ?_ | refine awp_skip ?_ | refine awp_exit ?_ | ((first | refine rR (fun K kp hK hkp => ?_) | refine rD (id := 7) mixed 14 [0,1,2,3,4,5,7,8,9,10,11,6,12,13] (fun K kp hK hkp => ?_) | refine rD (id := 8) mixed 8 [0,1,2,3,4,5,6,7] (fun K kp hK hkp => ?_) | refine iG ?_ | refine iD ?_); simp (implicitDefEqProofs := false) (maxSteps := 2000000) (disch := omega) only [go_sem, hpx, eP, hlf]; (repeat' (first | (refine hK _ ?_; clear hK hkp kp K) | (with_reducible refine And.intro ?_ ?_) | omega))) | ((first | refine aG (fun h => ?_) (fun h => ?_) | refine aD (fun h => ?_) (fun h => ?_) | refine aX (fun h => ?_) (fun h => ?_)) <;> simp only [h]) | refine awp_cond_t rfl ?_ | refine awp_cond_f rfl ?_ | ((refine awp_cond rfl (fun h => ?_) (fun h => ?_) <;> try simp only [ifs] at h) <;> (try (exfalso; omega))) | refine awp_ret ?_))
    (refine AWP.emb (emb_nil 6 36 2 ?_) ?_; (· rfl); dsimp only)
    refine awp_loop (fun j : Nat => ⟨[(7, .r (.int .i64 j)), (6, .s 2 0 ((lvl ps d (ks.take j)).flatMap (entL ps)).length), (5, .p 1 0 0), (2, .p 0 0 0)], [(0, .box 24 [.ro t 5 (ps.map eP), .r (.int .i64 root)]), (1, .box 52 [.r (.bool false), .ro true 1 (p.keys.map eKy), .ro true 1 (p.kids.map eI), .ro true 1 (p.high.map eByte), .r (.int .i64 p.next)]), (2, .lst 36 2 (((lvl ps d (ks.take j)).flatMap (entL ps)).map eEt))], 3⟩) (fun j => j ≤ ks.length) (fun j => ks.length - j) 0 ?_ ?_ ?_
    · exact Nat.zero_le _
    · have hl0 : lvl ps d [] = [] := lvl_nil ps d
      (refine emb [0, 1, 2] ?_ ?_ rfl ?_ ?_ ?_ ?_ <;> simp [okM, okO, lk, ren, renL, renNd, by_, hE, hl0] <;> (try omega) <;> (try (intro i hi; first | (rcases i with _ | _ | i; rfl; rfl; (exfalso; omega)) | (rcases i with _ | _ | _ | i; rfl; rfl; rfl; (exfalso; omega)) | (rcases i with _ | _ | _ | _ | i; rfl; rfl; rfl; rfl; (exfalso; omega)) | (rcases i with _ | _ | _ | _ | _ | i; rfl; rfl; rfl; rfl; rfl; (exfalso; omega)) | (rcases i with _ | _ | _ | _ | _ | _ | i; rfl; rfl; rfl; rfl; rfl; rfl; (exfalso; omega)))))
    intro j hj
    by_cases hlt : j < ks.length
    · have zj : ((j : Int) < (p.kids.length : Int)) = True := eq_true (by omega)
      obtain ⟨kid, hkj⟩ : ∃ kid, ks[j]? = some kid := ⟨_, List.getElem?_eq_getElem hlt⟩
      have hy := hkd j kid hkj
      have hlk : (lvl ps d [kid]).length ≤ 4000 := by
        have := congrArg List.length (lvl_split (ps := ps) d hkj)
        simp only [List.length_append] at this; omega
      have rc := ih kid _ _ (hks j kid hkj) (hK kid (List.mem_of_getElem? hkj)) hlk E.G
      have htk : (lvl ps d (ks.take (j + 1))).flatMap (entL ps) = (lvl ps d (ks.take j)).flatMap (entL ps) ++ entsF ps d kid := by rw [List.take_add_one, hkj, entsF, ← List.flatMap_append, ← lvl_append]; rfl
      have hc1 := hcl j
      have hc2 := hcl (j + 1)
      rw [htk, List.length_append] at hc2
      generalize (lvl ps d (ks.take j)).flatMap (entL ps) = cur at *
      generalize entsF ps d kid = add at *
      (repeat' (first | refine awp_seq ?_ | refine awp_block ?_ | refine awp_skip ?_ | refine awp_exit ?_ | ((first | refine rR (fun K kp hK hkp => ?_) | refine rD (id := 7) mixed 14 [0,1,2,3,4,5,7,8,9,10,11,6,12,13] (fun K kp hK hkp => ?_) | refine rD (id := 8) mixed 8 [0,1,2,3,4,5,6,7] (fun K kp hK hkp => ?_) | refine cR rc ?_ | refine cD rc ?_ | refine iG ?_ | refine iD ?_); simp (implicitDefEqProofs := false) (maxSteps := 2000000) (disch := omega) only [go_sem, zj, hy, eI, eEt]; (repeat' (first | (refine hK _ ?_; clear hK hkp kp K) | (with_reducible refine And.intro ?_ ?_) | omega))) | ((first | refine aG (fun h => ?_) (fun h => ?_) | refine aD (fun h => ?_) (fun h => ?_) | refine aX (fun h => ?_) (fun h => ?_)) <;> simp only [h]) | refine awp_cond_t rfl ?_ | refine awp_cond_f rfl ?_ | ((refine awp_cond rfl (fun h => ?_) (fun h => ?_) <;> try simp only [ifs] at h) <;> (try (exfalso; omega))) | refine awp_ret ?_))
      ((first | (refine nextB (j + 1) ?_ ?_ ?_) | (refine nextA (j + 1) ?_ ?_ ?_) | (refine nextE (j + 1) ?_ ?_ ?_)); rotate_left; (· (try dsimp only); (first | omega | (simp only [List.length_drop, List.length_cons, List.length_append]; omega) | (simp; done) | (simp; omega))); (· (refine emb [0, 1, 3] ?_ ?_ rfl ?_ ?_ ?_ ?_ <;> simp [okM, okO, lk, ren, renL, renNd, by_, hE, htk, eEt, List.take_take, Nat.min_self] <;> (try omega) <;> (try (intro i hi; first | (rcases i with _ | _ | i; rfl; rfl; (exfalso; omega)) | (rcases i with _ | _ | _ | i; rfl; rfl; rfl; (exfalso; omega)) | (rcases i with _ | _ | _ | _ | i; rfl; rfl; rfl; rfl; (exfalso; omega)) | (rcases i with _ | _ | _ | _ | _ | i; rfl; rfl; rfl; rfl; rfl; (exfalso; omega)) | (rcases i with _ | _ | _ | _ | _ | _ | i; rfl; rfl; rfl; rfl; rfl; rfl; (exfalso; omega)))))))
      omega
    · obtain rfl : j = ks.length := by omega
      have zj : ((ks.length : Int) < (p.kids.length : Int)) = False := eq_false (by omega)
      have hcj := hcl ks.length
      rw [List.take_length] at hcj ⊢
      (repeat' (first | refine awp_seq ?_ | refine awp_block ?_ | refine awp_skip ?_ | refine awp_exit ?_ | ((first | refine rR (fun K kp hK hkp => ?_) | refine rD (id := 7) mixed 14 [0,1,2,3,4,5,7,8,9,10,11,6,12,13] (fun K kp hK hkp => ?_) | refine rD (id := 8) mixed 8 [0,1,2,3,4,5,6,7] (fun K kp hK hkp => ?_) | refine iG ?_ | refine iD ?_); simp (implicitDefEqProofs := false) (maxSteps := 2000000) (disch := omega) only [go_sem, zj]; (repeat' (first | (refine hK _ ?_; clear hK hkp kp K) | (with_reducible refine And.intro ?_ ?_) | omega))) | ((first | refine aG (fun h => ?_) (fun h => ?_) | refine aD (fun h => ?_) (fun h => ?_) | refine aX (fun h => ?_) (fun h => ?_)) <;> simp only [h]) | refine awp_cond_t rfl ?_ | refine awp_cond_f rfl ?_ | ((refine awp_cond rfl (fun h => ?_) (fun h => ?_) <;> try simp only [ifs] at h) <;> (try (exfalso; omega))) | refine awp_ret ?_))
      (refine retA_is (by (simp (implicitDefEqProofs := false) (maxSteps := 2000000) (disch := omega) only [go_sem, Go.Proofs.Try.results54]); rfl) ?_; refine embS_frz (by simp only [oneA]; simp (implicitDefEqProofs := false) (maxSteps := 2000000) (disch := omega) only [go_sem]; rfl) ?_; refine (embV_nil hE (by simp) ?_).s; simp [oneA, ren, renL])
end Go.AM
/- tree.Find and FoundIn; the law TreeFinds. -/
namespace Go.AM
open Go Go.RowKit
attribute [local irreducible] AWP retA
theorem octetsT_con (G : List (Nat × List Value)) (t : Bool) (l : Ky) (hl : l.length ≤ 140737488351232) : Con Go.Proofs.Try.prog G 14 [.ro t 1 (l.map eByte)] [] 0 (Is (.ro true 1 (l.map eByte)) [] 0) No := by
  refine con_of_awp Go.Proofs.Try.func14 rfl (by kernel_rfl) (of_decide_eq_true (by kernel_rfl)) ?_; intro E hG hE; subst hG; simp only [ent]
  (repeat' (first | refine awp_seq ?_ | refine awp_block ?_ | refine awp_skip ?_ | refine awp_exit ?_ | ((first | refine rR (fun K kp hK hkp => ?_) | refine iG ?_); simp (implicitDefEqProofs := false) (maxSteps := 2000000) (disch := omega) only [go_sem]; (repeat' (first | (refine hK _ ?_; clear hK hkp kp K) | (with_reducible refine And.intro ?_ ?_) | omega))) | ((first | refine aG (fun h => ?_) (fun h => ?_) | refine aD (fun h => ?_) (fun h => ?_) | refine aX (fun h => ?_) (fun h => ?_)) <;> simp only [h]) | refine awp_cond_t rfl ?_ | refine awp_cond_f rfl ?_ | ((refine awp_cond rfl (fun h => ?_) (fun h => ?_) <;> try simp only [ifs] at h) <;> (try (exfalso; omega))) | refine awp_ret ?_))
  (refine retA_is (by (simp (implicitDefEqProofs := false) (maxSteps := 2000000) (disch := omega) only [go_sem, Go.Proofs.Try.results14]); rfl) ?_; refine embS_frz (by simp only [oneA]; simp (implicitDefEqProofs := false) (maxSteps := 2000000) (disch := omega) only [go_sem]; rfl) ?_; refine (embV_nil hE (by simp) ?_).s; simp [oneA, ren, renL])
noncomputable def askM (ps : List PG) (root : Int) (k : Ky) : Int := if chkR ps root ≠ 0 then chkR ps root else if keyB k = true then 0 else 1
theorem checked_con (G : List (Nat × List Value)) (t : Bool) (ps : List PG) (root : Int) (k : Ky) (ho : okPs2 ps) : Con Go.Proofs.Try.prog G 34 [.agg [.ro true 5 (ps.map eP), .r (.int .i64 root)], .ro t 1 (k.map eByte)] [] 0 (Is (.r (.int .i64 (askM ps root k))) [] 0) No := by
  have cc := check_con2 G ps root (okPs_of ho)
  obtain ⟨c, hc⟩ : ∃ c, chkR ps root = c := ⟨_, rfl⟩
  rw [askM]
  rw [hc] at cc ⊢
  refine con_of_awp Go.Proofs.Try.func34 rfl (by kernel_rfl) (of_decide_eq_true (by kernel_rfl)) ?_; intro E hG hE; subst hG; simp only [ent]
  by_cases h0 : c = 0
  · subst h0
    cases hk : keyB k
    · have kc := key_con E.G t k
      rw [hk] at kc
      (repeat' (first | refine awp_seq ?_ | refine awp_block ?_ | refine awp_skip ?_ | refine awp_exit ?_ | ((first | refine rR (fun K kp hK hkp => ?_) | refine cR cc ?_ | refine cR kc ?_ | refine iG ?_); simp (implicitDefEqProofs := false) (maxSteps := 2000000) (disch := omega) only [go_sem, bne_self_eq_false]; (repeat' (first | (refine hK _ ?_; clear hK hkp kp K) | (with_reducible refine And.intro ?_ ?_) | omega))) | ((first | refine aG (fun h => ?_) (fun h => ?_) | refine aD (fun h => ?_) (fun h => ?_) | refine aX (fun h => ?_) (fun h => ?_)) <;> simp only [h]) | refine awp_cond_t rfl ?_ | refine awp_cond_f rfl ?_ | ((refine awp_cond rfl (fun h => ?_) (fun h => ?_) <;> try simp only [ifs] at h) <;> (try (exfalso; omega))) | refine awp_ret ?_))
      (refine retA_is (by (simp (implicitDefEqProofs := false) (maxSteps := 2000000) (disch := omega) only [go_sem, Go.Proofs.Try.results34]); rfl) ?_; refine eN hE ?_; simp [oneA, ren, renL])
    · have kc := key_con E.G t k
      rw [hk] at kc
      (repeat' (first | refine awp_seq ?_ | refine awp_block ?_ | refine awp_skip ?_ | refine awp_exit ?_ | ((first | refine rR (fun K kp hK hkp => ?_) | refine cR cc ?_ | refine cR kc ?_ | refine iG ?_); simp (implicitDefEqProofs := false) (maxSteps := 2000000) (disch := omega) only [go_sem, bne_self_eq_false]; (repeat' (first | (refine hK _ ?_; clear hK hkp kp K) | (with_reducible refine And.intro ?_ ?_) | omega))) | ((first | refine aG (fun h => ?_) (fun h => ?_) | refine aD (fun h => ?_) (fun h => ?_) | refine aX (fun h => ?_) (fun h => ?_)) <;> simp only [h]) | refine awp_cond_t rfl ?_ | refine awp_cond_f rfl ?_ | ((refine awp_cond rfl (fun h => ?_) (fun h => ?_) <;> try simp only [ifs] at h) <;> (try (exfalso; omega))) | refine awp_ret ?_))
      (refine retA_is (by (simp (implicitDefEqProofs := false) (maxSteps := 2000000) (disch := omega) only [go_sem, Go.Proofs.Try.results34]); rfl) ?_; refine eN hE ?_; simp [oneA, ren, renL])
  · have z0 : (c != 0) = true := by simp [h0]
    (repeat' (first | refine awp_seq ?_ | refine awp_block ?_ | refine awp_skip ?_ | refine awp_exit ?_ | ((first | refine rR (fun K kp hK hkp => ?_) | refine cR cc ?_ | refine iG ?_); simp (implicitDefEqProofs := false) (maxSteps := 2000000) (disch := omega) only [go_sem, z0]; (repeat' (first | (refine hK _ ?_; clear hK hkp kp K) | (with_reducible refine And.intro ?_ ?_) | omega))) | ((first | refine aG (fun h => ?_) (fun h => ?_) | refine aD (fun h => ?_) (fun h => ?_) | refine aX (fun h => ?_) (fun h => ?_)) <;> simp only [h]) | refine awp_cond_t rfl ?_ | refine awp_cond_f rfl ?_ | ((refine awp_cond rfl (fun h => ?_) (fun h => ?_) <;> try simp only [ifs] at h) <;> (try (exfalso; omega))) | refine awp_ret ?_))
    (refine retA_is (by (simp (implicitDefEqProofs := false) (maxSteps := 2000000) (disch := omega) only [go_sem, Go.Proofs.Try.results34, h0]); rfl) ?_; refine eN hE ?_; simp [oneA, ren, renL, h0])
theorem treeAndKey_con (G : List (Nat × List Value)) (t u : Bool) (ps : List PG) (root : Int) (k : Ky) (ho : okPs2 ps) : Con Go.Proofs.Try.prog G 36 [.agg [.ro u 5 (ps.map eP), .r (.int .i64 root)], .ro t 1 (k.map eByte)] [] 0 (Is (.r (.int .i64 (askM ps root k))) [] 0) No := by
  have cc := treeFault_con G u ps root (okPs_of ho) ho.1
  obtain ⟨c, hc⟩ : ∃ c, chkR ps root = c := ⟨_, rfl⟩
  rw [askM]
  rw [← chk_flt, hc] at cc
  rw [hc]
  refine con_of_awp Go.Proofs.Try.func36 rfl (by kernel_rfl) (of_decide_eq_true (by kernel_rfl)) ?_; intro E hG hE; subst hG; simp only [ent]
  by_cases h0 : c = 0
  · subst h0
    cases hk : keyB k
    · have kc := keyMay_con E.G t k
      rw [hk] at kc
      (repeat' (first | refine awp_seq ?_ | refine awp_block ?_ | refine awp_skip ?_ | refine awp_exit ?_ | ((first | refine rR (fun K kp hK hkp => ?_) | refine cR cc ?_ | refine cR kc ?_ | refine iG ?_); simp (implicitDefEqProofs := false) (maxSteps := 2000000) (disch := omega) only [go_sem, beq_self_eq_true]; (repeat' (first | (refine hK _ ?_; clear hK hkp kp K) | (with_reducible refine And.intro ?_ ?_) | omega))) | ((first | refine aG (fun h => ?_) (fun h => ?_) | refine aD (fun h => ?_) (fun h => ?_) | refine aX (fun h => ?_) (fun h => ?_)) <;> simp only [h]) | refine awp_cond_t rfl ?_ | refine awp_cond_f rfl ?_ | ((refine awp_cond rfl (fun h => ?_) (fun h => ?_) <;> try simp only [ifs] at h) <;> (try (exfalso; omega))) | refine awp_ret ?_))
      (refine retA_is (by (simp (implicitDefEqProofs := false) (maxSteps := 2000000) (disch := omega) only [go_sem, Go.Proofs.Try.results36]); rfl) ?_; refine eN hE ?_; simp [oneA, ren, renL])
    · have kc := keyMay_con E.G t k
      rw [hk] at kc
      (repeat' (first | refine awp_seq ?_ | refine awp_block ?_ | refine awp_skip ?_ | refine awp_exit ?_ | ((first | refine rR (fun K kp hK hkp => ?_) | refine cR cc ?_ | refine cR kc ?_ | refine iG ?_); simp (implicitDefEqProofs := false) (maxSteps := 2000000) (disch := omega) only [go_sem, beq_self_eq_true]; (repeat' (first | (refine hK _ ?_; clear hK hkp kp K) | (with_reducible refine And.intro ?_ ?_) | omega))) | ((first | refine aG (fun h => ?_) (fun h => ?_) | refine aD (fun h => ?_) (fun h => ?_) | refine aX (fun h => ?_) (fun h => ?_)) <;> simp only [h]) | refine awp_cond_t rfl ?_ | refine awp_cond_f rfl ?_ | ((refine awp_cond rfl (fun h => ?_) (fun h => ?_) <;> try simp only [ifs] at h) <;> (try (exfalso; omega))) | refine awp_ret ?_))
      (refine retA_is (by (simp (implicitDefEqProofs := false) (maxSteps := 2000000) (disch := omega) only [go_sem, Go.Proofs.Try.results36]); rfl) ?_; refine eN hE ?_; simp [oneA, ren, renL])
  · have z0 : (c == 0) = false := by simp [h0]
    (repeat' (first | refine awp_seq ?_ | refine awp_block ?_ | refine awp_skip ?_ | refine awp_exit ?_ | ((first | refine rR (fun K kp hK hkp => ?_) | refine cR cc ?_ | refine iG ?_); simp (implicitDefEqProofs := false) (maxSteps := 2000000) (disch := omega) only [go_sem, z0]; (repeat' (first | (refine hK _ ?_; clear hK hkp kp K) | (with_reducible refine And.intro ?_ ?_) | omega))) | ((first | refine aG (fun h => ?_) (fun h => ?_) | refine aD (fun h => ?_) (fun h => ?_) | refine aX (fun h => ?_) (fun h => ?_)) <;> simp only [h]) | refine awp_cond_t rfl ?_ | refine awp_cond_f rfl ?_ | ((refine awp_cond rfl (fun h => ?_) (fun h => ?_) <;> try simp only [ifs] at h) <;> (try (exfalso; omega))) | refine awp_ret ?_))
    (refine retA_is (by (simp (implicitDefEqProofs := false) (maxSteps := 2000000) (disch := omega) only [go_sem, Go.Proofs.Try.results36, h0]); rfl) ?_; refine eN hE ?_; simp [oneA, ren, renL, h0])
/-- What is asked of a tree that may be. -/
structure Trd (ps : List PG) (r d : Nat) : Prop where
  ok : AllOK ps
  kin : ∀ i x, x ∈ kidsOf ps i → x < ps.length
  good : Good ps d r [] []
  rl : r < ps.length
  n : ps.length ≤ 4000
  dl : d < ps.length
  tr : TreeOK ps r d
theorem trd_of {ps : List PG} {root : Int} (h : ChkOK ps root) : ∃ r d : Nat, root = r ∧ Trd ps r d := by
  obtain ⟨d, T⟩ := tree_of_chk h
  refine ⟨root.toNat, d, by have := h.r0; omega, h.pg, kids_in h.pg, T.good, by have := h.r0; have := h.r1; omega, h.n2, ?_, T⟩
  have hpm := one_pre ps d root.toNat
  have hd := pre_deep (kids_ne h.pg) d root.toNat [] [] T.good
  rw [hpm.length_eq, T.all] at hd
  omega
theorem lvl_cat (ps : List PG) : ∀ (d : Nat) (l : List Nat), (lvl ps d l).length ≤ (cat ps d l).length
  | 0, l => Nat.le_refl _
  | d + 1, l => by
    have := lvl_cat ps d (l.flatMap (kidsOf ps))
    rw [lvl, cat, List.length_append]; omega
theorem Trd.many {ps : List PG} {r d : Nat} (h : Trd ps r d) : (lvl ps d [r]).length ≤ 4000 := by
  have := lvl_cat ps d [r]
  have := h.tr.all
  have := h.n
  omega
theorem Trd.leaf {ps : List PG} {r d : Nat} (h : Trd ps r d) (k : Ky) : leafF ps k d r < ps.length := by
  obtain ⟨_, _, _, b4⟩ := path_step h.ok k d r [] [] h.good (.inl rfl) d _ (path_last ps k d r)
  rcases b4 with e | ⟨y, hy⟩
  · rw [e]; exact h.rl
  · exact h.kin y _ hy
theorem entriesOf_con (G : List (Nat × List Value)) (t : Bool) {ps : List PG} {r d : Nat} (h : Trd ps r d) (ho : okPs2 ps) : Con Go.Proofs.Try.prog G 37 [.agg [.ro t 5 (ps.map eP), .r (.int .i64 r)]] [] 0 (Is (.ro true 2 ((entsF ps d r).map eEt)) [] 0) No := by
  have ec := entries_con t ps r h.ok ho h.kin h.n d r [] [] h.good h.rl h.many G
  refine con_of_awp Go.Proofs.Try.func37 rfl (by kernel_rfl) (of_decide_eq_true (by kernel_rfl)) ?_; intro E hG hE; subst hG; simp only [ent]
  (repeat' (first | refine awp_seq ?_ | refine awp_block ?_ | refine awp_skip ?_ | refine awp_exit ?_ | ((first | refine rR (fun K kp hK hkp => ?_) | refine cR ec ?_ | refine iG ?_); simp (implicitDefEqProofs := false) (maxSteps := 2000000) (disch := omega) only [go_sem]; (repeat' (first | (refine hK _ ?_; clear hK hkp kp K) | (with_reducible refine And.intro ?_ ?_) | omega))) | ((first | refine aG (fun h => ?_) (fun h => ?_) | refine aD (fun h => ?_) (fun h => ?_) | refine aX (fun h => ?_) (fun h => ?_)) <;> simp only [h]) | refine awp_cond_t rfl ?_ | refine awp_cond_f rfl ?_ | ((refine awp_cond rfl (fun h => ?_) (fun h => ?_) <;> try simp only [ifs] at h) <;> (try (exfalso; omega))) | refine awp_ret ?_))
  (refine retA_is (by (simp (implicitDefEqProofs := false) (maxSteps := 2000000) (disch := omega) only [go_sem, Go.Proofs.Try.results37]); rfl) ?_; refine eN hE ?_; simp [oneA, ren, renL])
/-- What Find answers. -/
noncomputable def findA (ps : List PG) (root : Int) (k : Ky) (R : Int × Int) : AV := .tup [.r (.int .i64 (if askM ps root k ≠ 0 then 0 else R.1)), .r (.int .i64 (if askM ps root k ≠ 0 then askM ps root k else R.2))]
theorem ask_chk {ps : List PG} {root : Int} {k : Ky} (h : askM ps root k = 0) : ChkOK ps root := by
  rw [askM] at h
  by_cases hc : ChkOK ps root
  · exact hc
  · rw [chkR_f hc] at h; simp at h
def foundF (k : Ky) : List Et → Int × Int
  | [] => (0, 8)
  | e :: r => if (e.1 == k) = true then (e.2, 0) else foundF k r
theorem foundF_eq (k : Ky) : ∀ l, foundF k l = foundM l k
  | [] => rfl
  | e :: r => by
    rw [foundF, foundM, List.find?_cons]
    cases h : (e.1 == k)
    · simp only [Bool.false_eq_true, ↓reduceIte]; rw [foundF_eq k r, foundM]
    · simp
set_option maxRecDepth 100000 in
set_option maxHeartbeats 4000000 in
theorem found_con (G : List (Nat × List Value)) (t u : Bool) (ps : List PG) (root : Int) (k : Ky) (ho : okPs2 ps) (R : Int × Int) (hR : askM ps root k = 0 → ∀ r d : Nat, root = r → Trd ps r d → R = foundM (entsF ps d r) k) :
    Con Go.Proofs.Try.prog G 15 [.agg [.ro u 5 (ps.map eP), .r (.int .i64 root)], .ro t 1 (k.map eByte)] [] 0 (Is (findA ps root k R) [] 0) No := by
  have cc := treeAndKey_con G t u ps root k ho
  rw [findA]
  by_cases h0 : askM ps root k = 0
  · obtain ⟨r, d, rfl, h⟩ := trd_of (ask_chk h0)
    have hR := hR h0 r d rfl h
    rw [← foundF_eq] at hR
    rw [h0] at cc ⊢
    have ec := entriesOf_con G u h ho
    have hlen := flatE_len h.ok (lvl ps d [r])
    have := h.many
    have hlen : (entsF ps d r).length ≤ 16000 := by rw [entsF]; omega
    generalize entsF ps d r = l at *
    refine con_of_awp Go.Proofs.Try.func15 rfl (by kernel_rfl) (of_decide_eq_true (by kernel_rfl)) ?_; intro E hG hE; subst hG; simp only [ent]
    (repeat' (first | refine awp_seq ?_ | refine awp_block ?_ | refine awp_skip ?_ | refine awp_exit ?_ | ((first | refine rR (fun K kp hK hkp => ?_) | refine cR cc ?_ | refine cR ec ?_ | refine iG ?_); simp (implicitDefEqProofs := false) (maxSteps := 2000000) (disch := omega) only [go_sem, bne_self_eq_false, eEt]; (repeat' (first | (refine hK _ ?_; clear hK hkp kp K) | (with_reducible refine And.intro ?_ ?_) | omega))) | ((first | refine aG (fun h => ?_) (fun h => ?_) | refine aD (fun h => ?_) (fun h => ?_) | refine aX (fun h => ?_) (fun h => ?_)) <;> simp only [h]) | refine awp_cond_t rfl ?_ | refine awp_cond_f rfl ?_ | ((refine awp_cond rfl (fun h => ?_) (fun h => ?_) <;> try simp only [ifs] at h) <;> (try (exfalso; omega))) | refine awp_ret ?_))
    refine awp_loop (fun j : Nat => ⟨[(8, .r (.int .i64 j)), (7, .ro true 2 (l.map eEt)), (1, .ro t 1 (k.map eByte))], [], 0⟩) (fun j => j ≤ l.length ∧ R = foundF k (l.drop j)) (fun j => l.length - j) 0 ?_ ?_ ?_
    · exact ⟨Nat.zero_le _, hR⟩
    · (refine emb [] ?_ ?_ rfl ?_ ?_ ?_ ?_ <;> simp [okM, okO, lk, ren, renL, renNd, by_, hE] <;> (try omega) <;> (try (intro i hi; first | (rcases i with _ | _ | i; rfl; rfl; (exfalso; omega)) | (rcases i with _ | _ | _ | i; rfl; rfl; rfl; (exfalso; omega)) | (rcases i with _ | _ | _ | _ | i; rfl; rfl; rfl; rfl; (exfalso; omega)) | (rcases i with _ | _ | _ | _ | _ | i; rfl; rfl; rfl; rfl; rfl; (exfalso; omega)) | (rcases i with _ | _ | _ | _ | _ | _ | i; rfl; rfl; rfl; rfl; rfl; rfl; (exfalso; omega)))))
    rintro j ⟨hj, hRj⟩
    by_cases hlt : j < l.length
    · have zj : ((j : Int) < (l.length : Int)) = True := eq_true (by omega)
      obtain ⟨x, hx⟩ : ∃ x, l[j]? = some x := ⟨_, List.getElem?_eq_getElem hlt⟩
      rw [drop_at hx, foundF] at hRj
      cases he : (x.1 == k)
      · rw [he] at hRj
        (repeat' (first | refine awp_seq ?_ | refine awp_block ?_ | refine awp_skip ?_ | refine awp_exit ?_ | ((first | refine rR (fun K kp hK hkp => ?_) | refine cR (sKy_con _ _ _ _ _) ?_ | refine iG ?_); simp (implicitDefEqProofs := false) (maxSteps := 2000000) (disch := omega) only [go_sem, zj, hx, eEt, he]; (repeat' (first | (refine hK _ ?_; clear hK hkp kp K) | (with_reducible refine And.intro ?_ ?_) | omega))) | ((first | refine aG (fun h => ?_) (fun h => ?_) | refine aD (fun h => ?_) (fun h => ?_) | refine aX (fun h => ?_) (fun h => ?_)) <;> simp only [h]) | refine awp_cond_t rfl ?_ | refine awp_cond_f rfl ?_ | ((refine awp_cond rfl (fun h => ?_) (fun h => ?_) <;> try simp only [ifs] at h) <;> (try (exfalso; omega))) | refine awp_ret ?_))
        ((first | (refine nextB (j + 1) ?_ ?_ ?_) | (refine nextA (j + 1) ?_ ?_ ?_) | (refine nextE (j + 1) ?_ ?_ ?_)); rotate_left; (· (try dsimp only); (first | omega | (simp only [List.length_drop, List.length_cons, List.length_append]; omega) | (simp; done) | (simp; omega))); (· (refine emb [] ?_ ?_ rfl ?_ ?_ ?_ ?_ <;> simp [okM, okO, lk, ren, renL, renNd, by_, hE] <;> (try omega) <;> (try (intro i hi; first | (rcases i with _ | _ | i; rfl; rfl; (exfalso; omega)) | (rcases i with _ | _ | _ | i; rfl; rfl; rfl; (exfalso; omega)) | (rcases i with _ | _ | _ | _ | i; rfl; rfl; rfl; rfl; (exfalso; omega)) | (rcases i with _ | _ | _ | _ | _ | i; rfl; rfl; rfl; rfl; rfl; (exfalso; omega)) | (rcases i with _ | _ | _ | _ | _ | _ | i; rfl; rfl; rfl; rfl; rfl; rfl; (exfalso; omega)))))))
        exact ⟨by omega, by simpa using hRj⟩
      · rw [he] at hRj
        have hRj : R = (x.2, 0) := by simpa using hRj
        subst hRj
        (repeat' (first | refine awp_seq ?_ | refine awp_block ?_ | refine awp_skip ?_ | refine awp_exit ?_ | ((first | refine rR (fun K kp hK hkp => ?_) | refine cR (sKy_con _ _ _ _ _) ?_ | refine iG ?_); simp (implicitDefEqProofs := false) (maxSteps := 2000000) (disch := omega) only [go_sem, zj, hx, eEt, he]; (repeat' (first | (refine hK _ ?_; clear hK hkp kp K) | (with_reducible refine And.intro ?_ ?_) | omega))) | ((first | refine aG (fun h => ?_) (fun h => ?_) | refine aD (fun h => ?_) (fun h => ?_) | refine aX (fun h => ?_) (fun h => ?_)) <;> simp only [h]) | refine awp_cond_t rfl ?_ | refine awp_cond_f rfl ?_ | ((refine awp_cond rfl (fun h => ?_) (fun h => ?_) <;> try simp only [ifs] at h) <;> (try (exfalso; omega))) | refine awp_ret ?_))
        (refine retA_is (by (simp (implicitDefEqProofs := false) (maxSteps := 2000000) (disch := omega) only [go_sem, Go.Proofs.Try.results15]); rfl) ?_; refine eN hE ?_; simp [oneA, ren, renL])
    · obtain rfl : j = l.length := by omega
      rw [List.drop_length] at hRj
      obtain rfl : R = (0, 8) := hRj
      (repeat' (first | refine awp_seq ?_ | refine awp_block ?_ | refine awp_skip ?_ | refine awp_exit ?_ | ((first | refine rR (fun K kp hK hkp => ?_) | refine iG ?_); simp (implicitDefEqProofs := false) (maxSteps := 2000000) (disch := omega) only [go_sem]; (repeat' (first | (refine hK _ ?_; clear hK hkp kp K) | (with_reducible refine And.intro ?_ ?_) | omega))) | ((first | refine aG (fun h => ?_) (fun h => ?_) | refine aD (fun h => ?_) (fun h => ?_) | refine aX (fun h => ?_) (fun h => ?_)) <;> simp only [h]) | refine awp_cond_t rfl ?_ | refine awp_cond_f rfl ?_ | ((refine awp_cond rfl (fun h => ?_) (fun h => ?_) <;> try simp only [ifs] at h) <;> (try (exfalso; omega))) | refine awp_ret ?_))
      (refine retA_is (by (simp (implicitDefEqProofs := false) (maxSteps := 2000000) (disch := omega) only [go_sem, Go.Proofs.Try.results15]); rfl) ?_; refine eN hE ?_; simp [oneA, ren, renL])
  · have z0 : (askM ps root k != 0) = true := by simp [h0]
    refine con_of_awp Go.Proofs.Try.func15 rfl (by kernel_rfl) (of_decide_eq_true (by kernel_rfl)) ?_; intro E hG hE; subst hG; simp only [ent]
    (repeat' (first | refine awp_seq ?_ | refine awp_block ?_ | refine awp_skip ?_ | refine awp_exit ?_ | ((first | refine rR (fun K kp hK hkp => ?_) | refine cR cc ?_ | refine iG ?_); simp (implicitDefEqProofs := false) (maxSteps := 2000000) (disch := omega) only [go_sem, z0]; (repeat' (first | (refine hK _ ?_; clear hK hkp kp K) | (with_reducible refine And.intro ?_ ?_) | omega))) | ((first | refine aG (fun h => ?_) (fun h => ?_) | refine aD (fun h => ?_) (fun h => ?_) | refine aX (fun h => ?_) (fun h => ?_)) <;> simp only [h]) | refine awp_cond_t rfl ?_ | refine awp_cond_f rfl ?_ | ((refine awp_cond rfl (fun h => ?_) (fun h => ?_) <;> try simp only [ifs] at h) <;> (try (exfalso; omega))) | refine awp_ret ?_))
    (refine retA_is (by (simp (implicitDefEqProofs := false) (maxSteps := 2000000) (disch := omega) only [go_sem, Go.Proofs.Try.results15, h0]); rfl) ?_; refine eN hE ?_; simp [oneA, ren, renL, h0])
end Go.AM
/- What Delete answers. -/
namespace Go.AM
open Go Go.RowKit
theorem rep_treenil {w : World} {z : Zone} {th : List NLoc} {t : Bool} {k : Nat} {x y : AV} {v : Value} (h : Rep w z th (.tup [.agg [.r (.slice none 0 0), x], y]) v) : Rep w z th (.tup [.agg [.ro t k [], x], y]) v := by
  cases h with
  | tup _ c ys hl hx =>
    refine .tup _ _ ys hl (fun i u q h1 h2 => ?_)
    cases i with
    | zero =>
      have := hx 0 _ q rfl h2
      cases h1
      cases this with
      | agg _ c2 us hl2 hx2 =>
        refine .agg _ _ us hl2 (fun j u2 q2 h3 h4 => ?_)
        cases j with
        | zero =>
          have := hx2 0 _ q2 rfl h4
          cases h3
          cases this with
          | r => exact .nil _ _ _ _ _
        | succ j => exact hx2 (j + 1) u2 q2 h3 h4
    | succ i => exact hx (i + 1) u q h1 h2
/-- What Delete answers: pages, root, error. -/
noncomputable def delA (R : List PG × Int × Int) : AV := .tup [.agg [.ro true 5 (R.1.map eP), .r (.int .i64 R.2.1)], .r (.int .i64 R.2.2)]
theorem dfzR_uP (t : Bool) (ps : List PG) : dfzR t (ps.map uP) = ps.map (ePf t) := dfzR_map t uP (ePf t) (dfzC_uP t) ps
attribute [go_sem] dfzR_uP
end Go.AM
/- Inserting: plain law. -/
namespace Go.AM
open Go Go.RowKit
attribute [local irreducible] AWP retA
mutual
theorem wk_refl : ∀ x : AV, wk x x
  | .agg a => wkL_refl a
  | .r v => by unfold wk; split <;> first | trivial | rfl | (rename_i e; cases e)
  | .ro _ _ _ | .re _ _ _ | .s _ _ _ | .p _ _ _ | .tup _ | .fn _ _ | .ifc _ _ | .q _ | .u _ _ _ | .any => by simp [wk]
theorem wkL_refl : ∀ c : List AV, wkL c c
  | [] => trivial
  | x :: r => ⟨wk_refl x, wkL_refl r⟩
end
theorem emb_wk {E : Env} {N : Nat} {st : AS} (n : Nat) {T : TypeId} {k : Nat} {els els' : List (List AV)} (h : lk st.o n = some (.lst T k els)) (hl : els'.length = els.length) (hw : ∀ (i : Nat) (e e' : List AV), els[i]? = some e → els'[i]? = some e' → wkL e e') : Emb E N st (setNd st n (.lst T k els')) := fun th z a w hs =>
  ⟨th, z, hs.say h fun L hL hA => by
    rcases hA with ⟨h1, h2⟩ | ⟨hp, cells, fr, h1, h2, h3, h4, h5, h6⟩
    · subst h2; exact .inl ⟨h1, List.length_eq_zero_iff.1 hl⟩
    · refine .inr ⟨hp, cells, fr, h1, h2, h3, h4, by rw [hl]; exact h5, fun i e' he' => ?_⟩
      have hi : i < els.length := by rw [← hl]; exact (List.getElem?_eq_some_iff.1 he').1
      obtain ⟨e, he⟩ : ∃ e, els[i]? = some e := ⟨_, List.getElem?_eq_getElem hi⟩
      obtain ⟨g1, g2⟩ := h6 i e he
      have hk := hw i e e' he he'
      have hr : Reps w z [] e (e.mapIdx fun j _ => (cells[L.o + i * L.k + j]?).getD undef) := by
        refine ⟨by simp, fun j x y h1 h2 => ?_⟩
        rw [List.getElem?_mapIdx, h1] at h2
        obtain ⟨y', hy', hr, _⟩ := g2 j x h1
        rw [hy'] at h2
        cases h2
        exact hr
      have hr' := wkL_rep hk hr
      refine ⟨by rw [← hr'.1, hr.1, g1], fun j x hx => ?_⟩
      obtain ⟨y, hy, hrx⟩ := hr'.get hx
      have hj : j < e.length := by rw [← hr.1]; exact (List.getElem?_eq_some_iff.1 hy).1
      obtain ⟨y', hy', _, ho⟩ := g2 j _ (List.getElem?_eq_getElem hj)
      rw [List.getElem?_mapIdx, List.getElem?_eq_getElem hj, hy'] at hy
      cases hy
      exact ⟨y', hy', hrx, ho⟩⟩
/-- What stands behind a loop that is left by its block is shown once. -/
theorem awp_blk {P : Program} {E : Env} {N : Nat} {st : AS} {AQ : AExit → AS → Prop} {id : Nat} {c rest : Code} (fx : AS) (h : AWP P E N rest fx AQ) (h2 : ∀ K : AS → Prop, (∀ st', Emb E N st' fx → K st') → AWP P E N c st (blockA id (thenA K AQ))) :
    AWP P E N c st (blockA id (thenA (fun st' => AWP P E N rest st' AQ) AQ)) := h2 _ fun st' he => AWP.emb he h
def leftM (p : PG) (up : Ky) (n : Nat) : PG := ⟨p.leaf, p.keys.take 2, p.kids.take (if p.leaf then 2 else 3), up, n⟩
def rightM (p : PG) : PG := ⟨p.leaf, p.keys.drop (if p.leaf then 2 else 3), p.kids.drop (if p.leaf then 2 else 3), p.high, p.next⟩
/-- A page with one key and one kid more. -/
def rowX (p : PG) (i : Nat) (up : Ky) (kid : Int) : PG := ⟨p.leaf, insX p.keys i up, insX p.kids (if p.leaf then i else i + 1) kid, p.high, p.next⟩
def midM (q : PG) : Ky := q.keys.getD 2 []
def splitM (qs : List PG) (i : Nat) (q : PG) : List PG := qs.set i (leftM q (midM q) qs.length) ++ [rightM q]
abbrev InR := List PG × Option (Ky × Int)
def putM (qs : List PG) (i : Nat) (q : PG) : InR := if q.keys.length ≤ 4 then (qs.set i q, none) else (splitM qs i q, some (midM q, (qs.length : Int)))
def stepM (qs : List PG) (i : Nat) (up : Ky) (kid : Int) : InR := putM qs i (rowX (pg qs i) (placeM (pg qs i) up) up kid)
def loopM : List PG → List Nat → Ky → Int → InR
  | qs, [], up, kid => (qs, some (up, kid))
  | qs, i :: r, up, kid => match (stepM qs i up kid).2 with
    | none => ((stepM qs i up kid).1, none)
    | some (u, n) => loopM (stepM qs i up kid).1 r u n
def rootM (root : Nat) (x : InR) : List PG × Int := match x.2 with
  | none => (x.1, root)
  | some (up, kid) => (x.1 ++ [⟨false, [up], [(root : Int), kid], [], -1⟩], x.1.length)
def addF (ps : List PG) (k : Ky) (row : Int) : Nat → Nat → InR
  | 0, i => putM ps i (rowX (pg ps i) (placeM (pg ps i) k) k row)
  | d + 1, i => match (addF ps k row d (kidM ps k i)).2 with
    | none => ((addF ps k row d (kidM ps k i)).1, none)
    | some (up, n) => putM (addF ps k row d (kidM ps k i)).1 i (rowX (pg ps i) (placeM (pg ps i) k) up n)
theorem loopM_append : ∀ (A B : List Nat) (qs : List PG) (up : Ky) (kid : Int), loopM qs (A ++ B) up kid = match (loopM qs A up kid).2 with
    | none => ((loopM qs A up kid).1, none)
    | some (u, n) => loopM (loopM qs A up kid).1 B u n
  | [], B, qs, up, kid => rfl
  | i :: A, B, qs, up, kid => by
    simp only [List.cons_append, loopM]
    cases h : (stepM qs i up kid).2 with
    | none => rfl
    | some x => exact loopM_append A B _ x.1 x.2
theorem insX_mem {α : Type} {l : List α} {i : Nat} {x y : α} (h : y ∈ insX l i x) : y = x ∨ y ∈ l := by
  unfold insX at h
  rcases List.mem_append.1 h with h | h
  · exact .inr (List.mem_of_mem_take h)
  · rcases List.mem_cons.1 h with h | h
    · exact .inl h
    · exact .inr (List.mem_of_mem_drop h)
theorem mid_mem {q : PG} (h : ¬ q.keys.length ≤ 4) : midM q ∈ q.keys := by
  unfold midM
  rw [List.getD_eq_getElem?_getD, List.getElem?_eq_getElem (by omega)]
  exact List.getElem_mem _
theorem put_len (qs : List PG) (i : Nat) (q : PG) : (putM qs i q).1.length = qs.length + (if (putM qs i q).2 = none then 0 else 1) := by
  unfold putM
  split
  · simp
  · simp [splitM]
theorem put_get {qs : List PG} {i j : Nat} {q p : PG} (hij : i ≠ j) (h : qs[j]? = some p) : (putM qs i q).1[j]? = some p := by
  have hl := (List.getElem?_eq_some_iff.1 h).1
  unfold putM
  split
  · show (qs.set i q)[j]? = some p
    rw [List.getElem?_set_ne hij]; exact h
  · show (qs.set i _ ++ [_])[j]? = some p
    rw [List.getElem?_append_left (by simpa using hl), List.getElem?_set_ne hij]; exact h
/-- The place of what parts a page below is that of the key. -/
theorem place_up {p : PG} {n : Nat} (h : PageOK p n) (hl : p.leaf = false) (k up : Ky) (h1 : 0 < placeM p k → ltK up (p.keys.getD (placeM p k - 1) []) = false) (h2 : placeM p k < p.keys.length → ltK up (p.keys.getD (placeM p k) []) = true) : placeM p up = placeM p k := by
  have hs := srt_page h
  have ha := place_le p k
  have hb := place_le p up
  rcases Nat.lt_trichotomy (placeM p up) (placeM p k) with hlt | he | hlt
  · have h1 := h1 (by omega)
    obtain ⟨x, hx⟩ : ∃ x, p.keys[placeM p k - 1]? = some x := ⟨_, List.getElem?_eq_getElem (by omega)⟩
    rw [List.getD_eq_getElem?_getD, hx, Option.getD_some] at h1
    have := place_hi h hl up (m := placeM p k - 1) (by omega) hx
    rw [this] at h1; cases h1
  · exact he
  · have h2 := h2 (by omega)
    obtain ⟨x, hx⟩ : ∃ x, p.keys[placeM p k]? = some x := ⟨_, List.getElem?_eq_getElem (by omega)⟩
    rw [List.getD_eq_getElem?_getD, hx, Option.getD_some] at h2
    have := place_lo h hl up hlt hx
    rw [this] at h2; cases h2
/-- A page's keys by its bounds. -/
theorem key_bound {p : PG} {n : Nat} {low : Ky} (h : PageOK p n) (hf : firstLow p low = true) {x : Ky} (hx : x ∈ p.keys) : ltK x low = false ∧ (p.high = [] ∨ ltK x p.high = true) := by
  refine ⟨?_, ?_⟩
  · obtain ⟨j, hj⟩ := List.mem_iff_getElem?.1 hx
    have hs := srt_page h
    cases hks : p.keys with
    | nil => rw [hks] at hx; cases hx
    | cons y r =>
      rw [firstLow, hks] at hf
      have h1 : ltK y low = false := by simpa using hf
      by_cases hj0 : j = 0
      · subst hj0; rw [hks] at hj; cases hj; exact h1
      · have h2 := hs 0 j y x (by omega) (by rw [hks]; rfl) hj
        cases h3 : ltK x low
        · rfl
        · rw [ltK_trans h2 h3] at h1; cases h1
  · by_cases hh : p.high = []
    · exact .inl hh
    · exact .inr (high_page h hx hh)
theorem ltK_le_trans {a b c : Ky} (h1 : ltK b a = false) (h2 : ltK c b = false) : ltK c a = false := by
  cases h : ltK c a
  · rfl
  · have := ltK_of_lt_le h h1
    rw [this] at h2; cases h2
/-- The pages of a path, by how far down they are. -/
theorem path_good {ps : List PG} (hp : AllOK ps) (k : Ky) : ∀ (d i : Nat) (low high : Ky), Good ps d i low high → ∀ (j x : Nat), (pathF ps k d i)[j]? = some x → ∃ lo hi, Good ps (d - j) x lo hi
  | 0, i, low, high, h, 0, x, hx => by cases hx; exact ⟨low, high, h⟩
  | 0, i, low, high, h, j + 1, x, hx => by simp [pathF] at hx
  | d + 1, i, low, high, h, 0, x, hx => by cases hx; exact ⟨low, high, h⟩
  | d + 1, i, low, high, h, j + 1, x, hx => by
    rw [pathF, List.getElem?_cons_succ] at hx
    have hb := h.2.2.2 _ _ (kid_at hp h.1 k)
    obtain ⟨lo, hi, hg⟩ := path_good hp k d (kidM ps k i) _ _ hb j x hx
    exact ⟨lo, hi, by rw [show d + 1 - (j + 1) = d - j by omega]; exact hg⟩
/-- Both ways of inserting are one. -/
theorem add_loop {ps : List PG} (hp : AllOK ps) (k : Ky) (row : Int) : ∀ (d i : Nat) (low high : Ky), Good ps d i low high → i < ps.length → (∀ i x, x ∈ kidsOf ps i → x < ps.length) → ltK k low = false → (high = [] ∨ ltK k high = true) →
    loopM ps (pathF ps k d i).reverse k row = addF ps k row d i ∧ (∀ (j : Nat) (p : PG), j ∉ pathF ps k d i → ps[j]? = some p → (addF ps k row d i).1[j]? = some p) ∧
      (∀ (up : Ky) (n : Int), (addF ps k row d i).2 = some (up, n) → ltK up low = false ∧ (high = [] ∨ ltK up high = true))
  | 0, i, low, high, hg, hil, hin, h1, h2 => by
    have hok := ok_in hp hil
    refine ⟨?_, fun j p hj hjp => ?_, fun up n he => ?_⟩
    · simp only [pathF, List.reverse_cons, List.reverse_nil, List.nil_append, loopM, addF, stepM]
      cases h : (putM ps i (rowX (pg ps i) (placeM (pg ps i) k) k row)).2 with
      | none => exact Prod.ext rfl h.symm
      | some x => exact Prod.ext rfl h.symm
    · exact put_get (fun e => hj (by simp [pathF, e])) hjp
    · simp only [addF, putM] at he
      split at he
      · cases he
      · rename_i hlen
        have hm := mid_mem hlen
        obtain ⟨rfl, _⟩ : midM _ = up ∧ _ := by simpa using he
        rcases insX_mem hm with e | hm
        · rw [e]; exact ⟨h1, h2⟩
        · have := key_bound hok hg.2.2 hm
          rw [hg.2.1] at this
          exact this
  | d + 1, i, low, high, hg, hil, hin, h1, h2 => by
    have hkids := kids_ne hp
    obtain ⟨g1, g2, g3, g4⟩ := hg
    have hq := ok_inner hp g1
    have ha := kid_at hp g1 k
    have hb := g4 _ _ ha
    have hkl : kidM ps k i < ps.length := hin i _ (List.mem_of_getElem? ha)
    have hlo : ltK k (loP (pg ps i) (placeM (pg ps i) k) low) = false := by
      unfold loP
      split
      · exact h1
      · have hpl := place_le (pg ps i) k
        have hx := List.getElem?_eq_getElem (l := (pg ps i).keys) (i := placeM (pg ps i) k - 1) (by omega)
        rw [List.getD_eq_getElem?_getD, hx]
        exact place_lo hq g1 k (by omega) hx
    have hhi : hiP (pg ps i) (placeM (pg ps i) k) high = [] ∨ ltK k (hiP (pg ps i) (placeM (pg ps i) k) high) = true := by
      unfold hiP
      split
      · rename_i hl
        have hy := List.getElem?_eq_getElem hl
        right
        rw [List.getD_eq_getElem?_getD, hy]
        exact place_hi hq g1 k (Nat.le_refl _) hy
      · exact h2
    obtain ⟨ih1, ih2, ih3⟩ := add_loop hp k row d (kidM ps k i) _ _ hb hkl hin hlo hhi
    have hni : i ∉ pathF ps k d (kidM ps k i) := fun hmem => by
      obtain ⟨j, hj⟩ := List.mem_iff_getElem?.1 hmem
      have hpl := path_len ps k d (kidM ps k i)
      have hjl := (List.getElem?_eq_some_iff.1 hj).1
      obtain ⟨lo', hi', hg'⟩ := path_good hp k d (kidM ps k i) _ _ hb j i hj
      have := good_deep hkids (d + 1) i _ _ _ _ (d - j) ⟨g1, g2, g3, g4⟩ hg'
      omega
    have hpi := ih2 i _ hni (pg_in hil)
    refine ⟨?_, fun j p hj hjp => ?_, fun up n he => ?_⟩
    · rw [pathF, List.reverse_cons, loopM_append, ih1, addF]
      cases h : (addF ps k row d (kidM ps k i)).2 with
      | none => rfl
      | some x =>
        obtain ⟨up, n⟩ := x
        obtain ⟨b1, b2⟩ := ih3 up n h
        have hpl : placeM (pg ps i) up = placeM (pg ps i) k := by
          refine place_up hq g1 k up (fun h0 => ?_) (fun h0 => ?_)
          · unfold loP at b1
            rw [if_neg (by omega)] at b1
            exact b1
          · unfold hiP at b2
            rw [if_pos h0] at b2
            rcases b2 with b2 | b2
            · rw [List.getD_eq_getElem?_getD, List.getElem?_eq_getElem h0] at b2
              exact absurd b2 (key_page hq (List.getElem_mem h0))
            · exact b2
        simp only [loopM, stepM, pg_some hpi, hpl]
        cases h' : (putM (addF ps k row d (kidM ps k i)).1 i (rowX (pg ps i) (placeM (pg ps i) k) up n)).2 with
        | none => exact Prod.ext rfl h'.symm
        | some x => exact Prod.ext rfl h'.symm
    · rw [pathF] at hj
      simp only [List.mem_cons, not_or] at hj
      have hjp2 := ih2 j p hj.2 hjp
      rw [addF]
      cases h : (addF ps k row d (kidM ps k i)).2 with
      | none => exact hjp2
      | some x => exact put_get (Ne.symm hj.1) hjp2
    · rw [addF] at he
      cases h : (addF ps k row d (kidM ps k i)).2 with
      | none => rw [h] at he; cases he
      | some x =>
        obtain ⟨u, m⟩ := x
        rw [h] at he
        obtain ⟨b1, b2⟩ := ih3 u m h
        simp only [putM] at he
        split at he
        · cases he
        · rename_i hlen
          have hm := mid_mem hlen
          obtain ⟨rfl, _⟩ : midM _ = up ∧ _ := by simpa using he
          rcases insX_mem hm with e | hm
          · rw [e]
            refine ⟨?_, ?_⟩
            · unfold loP at b1
              split at b1
              · exact b1
              · have hpl := place_le (pg ps i) k
                have hx := List.getElem?_eq_getElem (l := (pg ps i).keys) (i := placeM (pg ps i) k - 1) (by omega)
                rw [List.getD_eq_getElem?_getD, hx] at b1
                exact ltK_le_trans (key_bound hq g3 (List.getElem_mem (by omega))).1 b1
            · unfold hiP at b2
              split at b2
              · rename_i h0
                have hx := List.getElem?_eq_getElem h0
                rw [List.getD_eq_getElem?_getD, hx] at b2
                rcases b2 with b2 | b2
                · exact absurd b2 (key_page hq (List.getElem_mem h0))
                · rcases (key_bound hq g3 (List.getElem_mem h0)).2 with hh | hh
                  · left; rw [← g2]; exact hh
                  · right; rw [← g2]; exact ltK_trans b2 hh
              · exact b2
          · have := key_bound hq g3 hm
            rw [g2] at this
            exact this
end Go.AM
/- The abstract machine: regions that draw their order, with calls that are given own things; moves that may come late are taken first. -/
