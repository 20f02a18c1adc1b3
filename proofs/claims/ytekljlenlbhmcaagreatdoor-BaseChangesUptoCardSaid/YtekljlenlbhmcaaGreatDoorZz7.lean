/- Texts of the law BaseChecks, part 7: lemmas; what is proved stands in the last text. -/
import Derived.Test.YtekljlenlbhmcaaGreatDoorZz5
import Derived.Test.YtekljlenlbhmcaaGreatDoorZz6
import Derived.Shelf.Strings.Replace
import Derived.Ground.NamesProg
import Derived.Test.YtekljlenlbhmcaaGreatDoorProg
import Derived.Test.YtekljlenlbhmcaaGreatDoorCards
import Derived.Test.YtekljlenlbhmcaaGreatDoorTie
import Derived.Test.YtekljlenlbhmcaaGreatDoorZz1
import Derived.WalkKit
import Derived.ProofKit
import Derived.OpenShut
import Derived.ShutString
import Derived.ChangeOld
import Derived.Below
import Derived.Lib.SmallJoins
import Derived.Deep.DeepHandedRow
import Derived.Lib.LaidTab
import Derived.Test.YtekljlenlbhmcaaGreatDoorRows
import Derived.Test.YtekljlenlbhmcaaGreatDoorZz4
import Derived.JoinedCond
import Derived.SizedLaws
import Derived.Deep.Strs
import Derived.Shelf.Vars
set_option linter.unusedSimpArgs false
set_option linter.unusedVariables false
set_option maxRecDepth 100000
namespace Go.AM
open Go Go.RowKit
open Go.Proofs.YtekljlenlbhmcaaGreatDoor (nameM vcheck)
structure TB where
  nm : ByteArray
  cols : List CO
  rows : List (List V)
  ps : List PG
  root : Int
def eRw (r : List V) : List AV := [.ro true 3 (r.map eV)]
@[simp] theorem ptA_eRw (a : List V) : (∀ x, x ∈ eRw a → PT x) = True := eq_true (by intro x hx; simp only [eRw, List.mem_singleton] at hx; subst hx; exact .ro _ _ (pt_map _ _))
instance : PTf eRw := ⟨fun a => of_eq_true (ptA_eRw a)⟩
def eTB (t : TB) : List AV := [.r (.string t.nm), .ro true 2 (t.cols.map eC), .ro true 1 (t.rows.map eRw), .ro true 5 (t.ps.map eP), .r (.int .i64 t.root)]
@[simp] theorem ptA_eTB (a : TB) : (∀ x, x ∈ eTB a → PT x) = True := eq_true (by
  intro x hx; simp only [eTB, List.mem_cons, List.not_mem_nil, or_false] at hx
  rcases hx with rfl | rfl | rfl | rfl | rfl
  · exact .r _
  · exact .ro _ _ (pt_map _ _)
  · exact .ro _ _ (pt_map _ _)
  · exact .ro _ _ (pt_map _ _)
  · exact .r _)
instance : PTf eTB := ⟨fun a => of_eq_true (ptA_eTB a)⟩
def okRw (r : List V) : Prop := r.length ≤ 1048576 ∧ ∀ v ∈ r, gV v
structure okTB (t : TB) : Prop where
  nm : okS t.nm
  cl : t.cols.length ≤ 1048576
  cs : ∀ c ∈ t.cols, okS c.nm
  rl : t.rows.length ≤ 1048576
  rs : ∀ r ∈ t.rows, okRw r
  ps : okPs2 t.ps
noncomputable def entsOf (ps : List PG) (root : Int) : List Et := by
  classical
  exact if h : ∃ p : Nat × Nat, root = p.1 ∧ Trd ps p.1 p.2 then entsF ps h.choose.2 h.choose.1 else []
theorem entsOf_eq {ps : List PG} {r d : Nat} (h : Trd ps r d) : entsOf ps r = entsF ps d r := by
  have hx : ∃ p : Nat × Nat, (r : Int) = p.1 ∧ Trd ps p.1 p.2 := ⟨(r, d), rfl, h⟩
  unfold entsOf
  rw [dif_pos hx]
  obtain ⟨e, h'⟩ := hx.choose_spec
  have e : r = hx.choose.1 := by omega
  have h2 := h'
  rw [← e] at h2 ⊢
  rw [good_deep (kids_ne h.ok) d r _ _ _ _ hx.choose.2 h.good h2.good]
def keyR (r : List V) : Ky := match encM (r.take 1) with
  | .ok b => b
  | .error _ => []
theorem encV_pos (v : V) : encV v ≠ [] := by unfold encV; simp
theorem keyR_ok {l : List CO} {r : List V} (h : rowsM l r = 0) : ∃ v s, r = v :: s ∧ encM (r.take 1) = .ok (keyR r) ∧ keyB (keyR r) = true := by
  unfold rowsM at h
  split at h
  · rename_i hc; exact absurd h hc
  · rename_i hc
    split at h
    · cases h
    · rename_i hlen
      have hl : l.length ≠ 0 := by
        intro e
        have : colsM l = 1 := by unfold colsM; rw [if_pos (.inl (by omega))]
        simp [this] at hc
      cases r with
      | nil => simp at hlen; omega
      | cons v s =>
        cases l with
        | nil => simp at hl
        | cons c cs =>
          rw [rowsF] at h
          have hv : vcheck v.k v.n v.s = 0 := by
            by_cases hv : vcheck v.k v.n v.s = 0
            · exact hv
            · rw [if_pos hv] at h; exact absurd h hv
          have hlv := encV_len hv
          have he : encM ((v :: s).take 1) = .ok (encV v) := by
            simp only [List.take_succ_cons, List.take_zero]
            unfold encM
            rw [if_neg (by simp), encFrom, if_neg (by simpa using hv), encFrom]
            simp only [List.nil_append]
            rw [if_neg (by omega)]
          have hk : keyR (v :: s) = encV v := by unfold keyR; rw [he]
          refine ⟨v, s, rfl, by rw [he, hk], ?_⟩
          have := List.length_pos_iff.2 (encV_pos v)
          rw [hk, keyB, Bool.and_eq_true, decide_eq_true_eq, decide_eq_true_eq]
          omega
def rowG (ents : List Et) (cols : List CO) (i : Nat) (r : List V) : Bool := decide (rowsM cols r = 0) && decide (foundM ents (keyR r) = ((i : Int), 0))
def rowsG (ents : List Et) (cols : List CO) : Nat → List (List V) → Bool
  | _, [] => true
  | i, r :: s => if r.length = 0 then rowsG ents cols (i + 1) s else if rowG ents cols i r then rowsG ents cols (i + 1) s else false
def manyR : List (List V) → Nat
  | [] => 0
  | r :: s => if r.length = 0 then manyR s else manyR s + 1
noncomputable def tabM (t : TB) : Bool := decide (nameM t.nm = 0) && (decide (colsM t.cols = 0) && (decide (t.rows.length ≤ 40) && (decide (chkR t.ps t.root = 0) && (rowsG (entsOf t.ps t.root) t.cols 0 t.rows && decide (manyR t.rows = (entsOf t.ps t.root).length)))))
noncomputable def baseFrom : List TB → List TB → Int
  | _, [] => 0
  | p, t :: s => if tabM t = false then 11 else if p.any (fun x => x.nm.toList == t.nm.toList) then 11 else baseFrom (p ++ [t]) s
noncomputable def baseM (l : List TB) : Int := if 4 < l.length then 11 else baseFrom [] l
theorem any_found {l : List Et} (h : SrtE l) (i : Int) (k : Ky) : (l.any fun e => (e.2 == i) && (e.1 == k)) = decide (foundM l k = (i, 0)) := by
  rw [foundM]
  cases hf : l.find? (fun e => e.1 == k) with
  | none =>
    have hn := List.find?_eq_none.1 hf
    have e1 : (l.any fun e => (e.2 == i) && (e.1 == k)) = false := by
      rw [List.any_eq_false]
      intro e he
      have := hn e he
      simp at this ⊢
      intro _; exact this
    rw [e1]; simp
  | some e =>
    have hm := List.mem_of_find?_eq_some hf
    have hk := List.find?_some hf
    have hk : e.1 = k := by simpa using hk
    by_cases hi : e.2 = i
    · have : (l.any fun e => (e.2 == i) && (e.1 == k)) = true := List.any_eq_true.2 ⟨e, hm, by simp [hi, hk]⟩
      rw [this]; simp [hi]
    · have e1 : (l.any fun e => (e.2 == i) && (e.1 == k)) = false := by
        rw [List.any_eq_false]
        intro f hf'
        by_cases hfk : f.1 = k
        · by_cases hfe : f = e
          · subst hfe; simp [hi]
          · exfalso
            obtain ⟨a, ha⟩ := List.mem_iff_getElem?.1 hm
            obtain ⟨b, hb⟩ := List.mem_iff_getElem?.1 hf'
            have hp := List.pairwise_iff_getElem.1 h
            obtain ⟨la, ea⟩ := List.getElem?_eq_some_iff.1 ha
            obtain ⟨lb, eb⟩ := List.getElem?_eq_some_iff.1 hb
            rcases Nat.lt_trichotomy a b with hlt | rfl | hlt
            · have := hp a b la lb hlt
              rw [ea, eb, hk, hfk, ltK_irrefl] at this; cases this
            · rw [ea] at eb; exact hfe eb.symm
            · have := hp b a lb la hlt
              rw [ea, eb, hk, hfk, ltK_irrefl] at this; cases this
        · simp [hfk]
      rw [e1]; simp [hi]
theorem scanM_all (l : List Et) : scanM l [] [] = l := by
  unfold scanM
  rw [List.filter_eq_self]
  intro e _
  simp [low_nil]
theorem chk_root {ps : List PG} {root : Int} (h : chkR ps root = 0) : ∃ r d : Nat, root = r ∧ Trd ps r d := by
  by_cases hc : ChkOK ps root
  · exact trd_of hc
  · rw [chkR_f hc] at h; simp at h
theorem askM_of {ps : List PG} {root : Int} {k : Ky} (h : chkR ps root = 0) (hk : keyB k = true) : askM ps root k = 0 := by rw [askM, if_neg (by simpa using h), if_pos hk]
theorem rowsG_step {ents : List Et} {cols : List CO} {rows : List (List V)} {i : Nat} {r : List V} (h : rows[i]? = some r) : rowsG ents cols i (rows.drop i) = if r.length = 0 then rowsG ents cols (i + 1) (rows.drop (i + 1)) else if rowG ents cols i r then rowsG ents cols (i + 1) (rows.drop (i + 1)) else false := by
  rw [drop_at h, rowsG]
theorem manyR_take {rows : List (List V)} {i : Nat} {r : List V} (h : rows[i]? = some r) : manyR (rows.take (i + 1)) = manyR (rows.take i) + if r.length = 0 then 0 else 1 := by
  have ht : rows.take (i + 1) = rows.take i ++ [r] := by rw [List.take_add_one, h]; rfl
  have ha : ∀ (a : List (List V)), manyR (a ++ [r]) = manyR a + if r.length = 0 then 0 else 1 := by
    intro a
    induction a with
    | nil => simp only [List.nil_append, manyR]; split <;> rfl
    | cons x s ih => simp only [List.cons_append, manyR, ih]; split <;> omega
  rw [ht, ha]
theorem manyR_le : ∀ l : List (List V), manyR l ≤ l.length
  | [] => Nat.le_refl _
  | r :: s => by
    have := manyR_le s
    rw [manyR, List.length_cons]; split <;> omega
end Go.AM
namespace Go.AM
open Go Go.RowKit
attribute [local irreducible] AWP retA
set_option maxHeartbeats 4000000 in
theorem valuesCopy_con (G : List (Nat × List Value)) (t : Bool) (r : List V) (hl : r.length ≤ 1048576) : Con Go.Proofs.Tryz.prog G 38 [.ro t 3 (r.map eV)] [] 0 (Is (.ro true 3 (r.map eV)) [] 0) No := by
  refine con_of_awp Go.Proofs.Tryz.func38 rfl (by kernel_rfl) (of_decide_eq_true (by kernel_rfl)) ?_; intro E hG hE; subst hG; simp only [ent]
  (repeat' (first | refine awp_seq ?_ | refine awp_block ?_ | ((refine rR (fun K kp hK hkp => ?_)); simp (implicitDefEqProofs := false) (maxSteps := 2000000) (disch := omega) only [go_sem]; (repeat' (refine hK _ ?_; clear hK hkp kp K)))))
  (refine AWP.emb (emb_nil 3 74 3 ?_) ?_; (· rfl); dsimp only)
  refine awp_loop (fun k : Nat => ⟨[(4, .r (.int .i64 k)), (3, .s 0 0 k), (0, .ro t 3 (r.map eV))], [(0, .lst 74 3 ((r.take k).map eV))], 1⟩) (fun k => k ≤ r.length) (fun k => r.length - k) 0 ?_ ?_ ?_
  · exact Nat.zero_le _
  · (refine embK hE [0] rfl ?_ ?_ <;> simp [okM, okO, lk, ren, renL, renNd, by_] <;> (try omega))
  intro k hk
  by_cases hlt : k < r.length
  · have zk : ((k : Int) < (r.length : Int)) = True := eq_true (by omega)
    obtain ⟨x, hx⟩ : ∃ x, r[k]? = some x := ⟨r[k], by simp [hlt]⟩
    have htk : r.take (k + 1) = r.take k ++ [x] := by rw [List.take_add_one, hx]; rfl
    have hl2 : (r.take k).length = k := by rw [List.length_take]; omega
    (repeat' (first | refine awp_seq ?_ | refine awp_block ?_ | refine awp_skip ?_ | ((refine rR (fun K kp hK hkp => ?_)); simp (implicitDefEqProofs := false) (maxSteps := 2000000) (disch := omega) only [go_sem, zk, hx, eV, hl2, Value.oneCell']; (repeat' (first | (refine hK _ ?_; clear hK hkp kp K) | (with_reducible refine And.intro ?_ ?_) | omega))) | refine awp_cond_t rfl ?_))
    ((refine nextA (k + 1) ?_ ?_ ?_); rotate_left; (· (try dsimp only); (omega)); (· (refine embK hE [2] rfl ?_ ?_ <;> simp [okM, okO, lk, ren, renL, renNd, by_, htk, eV, List.take_take, Nat.min_self] <;> (try omega))))
    omega
  · obtain rfl : k = r.length := by omega
    rw [List.take_length]
    (repeat' (first | refine awp_seq ?_ | refine awp_exit ?_ | ((refine rR (fun K kp hK hkp => ?_)); simp (implicitDefEqProofs := false) (maxSteps := 2000000) (disch := omega) only [go_sem]; (repeat' (refine hK _ ?_; clear hK hkp kp K))) | ((refine awp_cond rfl (fun h => ?_) (fun h => ?_) <;> try simp only [ifs] at h) <;> (try (exfalso; omega))) | refine awp_ret ?_))
    (refine retA_is (by (simp (implicitDefEqProofs := false) (maxSteps := 2000000) (disch := omega) only [go_sem, Go.Proofs.Tryz.results38]); rfl) ?_; refine embS_frz (by simp only [oneA]; simp (implicitDefEqProofs := false) (maxSteps := 2000000) (disch := omega) only [go_sem]; rfl) ?_; refine (embV_nil hE (by simp) ?_).s; simp [oneA, ren, renL])
set_option maxHeartbeats 4000000 in
theorem tableCopy_con (G : List (Nat × List Value)) (b : TB) (ho : okTB b) : Con Go.Proofs.Tryz.prog G 13 [.agg (eTB b)] [] 0 (Is (.agg (eTB b)) [] 0) No := by
  have tc := treeCopy_con G true b.ps b.root ho.ps
  have hcl := ho.cl
  have hrl := ho.rl
  refine con_of_awp Go.Proofs.Tryz.func13 rfl (by kernel_rfl) (of_decide_eq_true (by kernel_rfl)) ?_; intro E hG hE; subst hG; simp only [ent]
  (repeat' (first | refine awp_seq ?_ | refine awp_block ?_ | ((first | refine rR (fun K kp hK hkp => ?_) | refine rU (id := 1) mixed 7 [⟨0, 0, [], [(0, 1)]⟩, ⟨0, 0, [0], [(0, 1)]⟩, ⟨0, 0, [], [(0, 1)]⟩, ⟨0, 0, [2], [(0, 1)]⟩, ⟨0, 0, [2, 3], [(0, 1)]⟩, ⟨0, 0, [0, 1, 2, 3, 4], [(0, 1)]⟩, ⟨0, 1, [], []⟩] 1 [7, 8, 9, 10, 11, 12, 3] [] (fun K kp hK hkp => ?_) | refine cU tc ?_); simp (implicitDefEqProofs := false) (maxSteps := 2000000) (disch := omega) only [go_sem, eTB]; (repeat' (refine hK _ ?_; clear hK hkp kp K)))))
  (refine AWP.emb (emb_nilB 2 1 71 2 rfl rfl (by simp)) ?_; simp only [List.set_cons_zero, List.set_cons_succ, lk, ↓reduceIte, Nat.reduceAdd])
  (refine AWP.emb (emb_nilB 2 2 50 1 rfl rfl (by simp)) ?_; simp only [List.set_cons_zero, List.set_cons_succ, lk, ↓reduceIte, Nat.reduceAdd])
  refine awp_loop (fun k : Nat => ⟨[(4, .r (.int .i64 k)), (3, .p 2 0 0), (2, .p 1 0 0), (1, .p 0 0 0)], [(0, .box 35 (eTB b)), (1, .box 35 [.r (.string ⟨#[]⟩), .r (.slice none 0 0), .r (.slice none 0 0), .r (.slice none 0 0), .r (.int .i64 0)]), (2, .box 35 [.r (.string b.nm), .s 3 0 k, .s 4 0 0, .ro true 5 (b.ps.map eP), .r (.int .i64 b.root)]), (3, .lst 71 2 ((b.cols.take k).map eC)), (4, .lst 50 1 [])], 5⟩) (fun k => k ≤ b.cols.length) (fun k => b.cols.length - k) 0 ?_ ?_ ?_
  · exact Nat.zero_le _
  · (refine embK hE [0, 1, 2, 3, 4] rfl ?_ ?_ <;> simp [okM, okO, lk, ren, renL, renNd, by_, eTB] <;> (try omega))
  intro k hk
  by_cases hlt : k < b.cols.length
  · have zk : ((k : Int) < (b.cols.length : Int)) = True := eq_true (by omega)
    obtain ⟨x, hx⟩ : ∃ x, b.cols[k]? = some x := ⟨b.cols[k], by simp [hlt]⟩
    have htk : b.cols.take (k + 1) = b.cols.take k ++ [x] := by rw [List.take_add_one, hx]; rfl
    have hl2 : (b.cols.take k).length = k := by rw [List.length_take]; omega
    (repeat' (first | refine awp_seq ?_ | refine awp_block ?_ | refine awp_skip ?_ | ((first | refine rR (fun K kp hK hkp => ?_) | refine rX (id := 5) mixed [3] 9 [0,1,2,3,4,5,6,7,8] (fun K kp hK hkp => ?_)); simp (implicitDefEqProofs := false) (maxSteps := 2000000) (disch := omega) only [go_sem, zk, hx, eTB, eC, hl2, Value.oneCell']; (repeat' (first | (refine hK _ ?_; clear hK hkp kp K) | (with_reducible refine And.intro ?_ ?_) | omega))) | refine awp_cond_t rfl ?_))
    ((refine nextA (k + 1) ?_ ?_ ?_); rotate_left; (· (try dsimp only); (omega)); (· (refine embK hE [0, 1, 2, 6, 4] rfl ?_ ?_ <;> simp [okM, okO, lk, ren, renL, renNd, by_, htk, eTB, eC, List.take_take, Nat.min_self] <;> (try omega))))
    omega
  · obtain rfl : k = b.cols.length := by omega
    rw [List.take_length]
    (repeat' (first | refine awp_seq ?_ | refine awp_block ?_ | refine awp_exit ?_ | ((refine rR (fun K kp hK hkp => ?_)); simp (implicitDefEqProofs := false) (maxSteps := 2000000) (disch := omega) only [go_sem, eTB]; (repeat' (refine hK _ ?_; clear hK hkp kp K))) | ((refine awp_cond rfl (fun h => ?_) (fun h => ?_) <;> try simp only [ifs] at h) <;> (try (exfalso; omega)))))
    refine awp_loop (fun k : Nat => ⟨[(5, .r (.int .i64 k)), (3, .p 2 0 0), (2, .p 1 0 0), (1, .p 0 0 0)], [(0, .box 35 (eTB b)), (1, .box 35 [.r (.string ⟨#[]⟩), .r (.slice none 0 0), .r (.slice none 0 0), .r (.slice none 0 0), .r (.int .i64 0)]), (2, .box 35 [.r (.string b.nm), .s 3 0 b.cols.length, .s 4 0 k, .ro true 5 (b.ps.map eP), .r (.int .i64 b.root)]), (3, .lst 71 2 (b.cols.map eC)), (4, .lst 50 1 ((b.rows.take k).map eRw))], 5⟩) (fun k => k ≤ b.rows.length) (fun k => b.rows.length - k) 0 ?_ ?_ ?_
    · exact Nat.zero_le _
    · (refine embK hE [0, 1, 2, 3, 4] rfl ?_ ?_ <;> simp [okM, okO, lk, ren, renL, renNd, by_, eTB] <;> (try omega))
    intro k hk
    by_cases hlt : k < b.rows.length
    · have zk : ((k : Int) < (b.rows.length : Int)) = True := eq_true (by omega)
      obtain ⟨x, hx⟩ : ∃ x, b.rows[k]? = some x := ⟨b.rows[k], by simp [hlt]⟩
      have htk : b.rows.take (k + 1) = b.rows.take k ++ [x] := by rw [List.take_add_one, hx]; rfl
      have hl2 : (b.rows.take k).length = k := by rw [List.length_take]; omega
      have vc := valuesCopy_con E.G true x (ho.rs x (List.mem_of_getElem? hx)).1
      (repeat' (first | refine awp_seq ?_ | refine awp_block ?_ | refine awp_skip ?_ | ((first | refine rR (fun K kp hK hkp => ?_) | refine cR vc ?_); simp (implicitDefEqProofs := false) (maxSteps := 2000000) (disch := omega) only [go_sem, zk, hx, eTB, eRw, hl2, Value.oneCell']; (repeat' (first | (refine hK _ ?_; clear hK hkp kp K) | (with_reducible refine And.intro ?_ ?_) | omega))) | refine awp_cond_t rfl ?_))
      ((refine nextA (k + 1) ?_ ?_ ?_); rotate_left; (· (try dsimp only); (omega)); (· (refine embK hE [0, 1, 2, 3, 6] rfl ?_ ?_ <;> simp [okM, okO, lk, ren, renL, renNd, by_, htk, eTB, eRw, List.take_take, Nat.min_self] <;> (try omega))))
      omega
    · obtain rfl : k = b.rows.length := by omega
      rw [List.take_length]
      (repeat' (first | refine awp_seq ?_ | refine awp_exit ?_ | ((refine rR (fun K kp hK hkp => ?_)); simp (implicitDefEqProofs := false) (maxSteps := 2000000) (disch := omega) only [go_sem, eTB]; (repeat' (refine hK _ ?_; clear hK hkp kp K))) | ((refine awp_cond rfl (fun h => ?_) (fun h => ?_) <;> try simp only [ifs] at h) <;> (try (exfalso; omega))) | refine awp_ret ?_))
      (refine retA_is (by (simp (implicitDefEqProofs := false) (maxSteps := 2000000) (disch := omega) only [go_sem, Go.Proofs.Tryz.results13, eTB]); rfl) ?_; refine embS_frz (by simp only [oneA]; simp (implicitDefEqProofs := false) (maxSteps := 2000000) (disch := omega) only [go_sem, eTB]; rfl) ?_; refine (embV_nil hE (by simp) ?_).s; simp [oneA, ren, renL, eTB])
def okBs (l : List TB) : Prop := l.length ≤ 1048576 ∧ ∀ t ∈ l, okTB t
set_option maxHeartbeats 4000000 in
theorem baseCopy_con (G : List (Nat × List Value)) (l : List TB) (ho : okBs l) : Con Go.Proofs.Tryz.prog G 10 [.agg [.ro true 5 (l.map eTB)]] [] 0 (Is (.agg [.ro true 5 (l.map eTB)]) [] 0) No := by
  have hn := ho.1
  refine con_of_awp Go.Proofs.Tryz.func10 rfl (by kernel_rfl) (of_decide_eq_true (by kernel_rfl)) ?_; intro E hG hE; subst hG; simp only [ent]
  (repeat' (first | refine awp_seq ?_ | refine awp_block ?_ | ((refine rR (fun K kp hK hkp => ?_)); simp (implicitDefEqProofs := false) (maxSteps := 2000000) (disch := omega) only [go_sem]; (repeat' (refine hK _ ?_; clear hK hkp kp K)))))
  (refine AWP.emb (emb_nilB 2 0 35 5 rfl rfl (by simp)) ?_; simp only [List.set_cons_zero, List.set_cons_succ, lk, ↓reduceIte, Nat.reduceAdd])
  refine awp_loop (fun k : Nat => ⟨[(4, .r (.int .i64 k)), (3, .p 2 0 0), (2, .p 1 0 0), (1, .p 0 0 0)], [(0, .box 24 [.ro true 5 (l.map eTB)]), (1, .box 24 [.r (.slice none 0 0)]), (2, .box 24 [.s 3 0 k]), (3, .lst 35 5 ((l.take k).map eTB))], 4⟩) (fun k => k ≤ l.length) (fun k => l.length - k) 0 ?_ ?_ ?_
  · exact Nat.zero_le _
  · (refine embK hE [0, 1, 2, 3] rfl ?_ ?_ <;> simp [okM, okO, lk, ren, renL, renNd, by_] <;> (try omega))
  intro k hk
  by_cases hlt : k < l.length
  · have zk : ((k : Int) < (l.length : Int)) = True := eq_true (by omega)
    obtain ⟨x, hx⟩ : ∃ x, l[k]? = some x := ⟨l[k], by simp [hlt]⟩
    have htk : l.take (k + 1) = l.take k ++ [x] := by rw [List.take_add_one, hx]; rfl
    have hl2 : (l.take k).length = k := by rw [List.length_take]; omega
    have vc := tableCopy_con E.G x (ho.2 x (List.mem_of_getElem? hx))
    simp only [eTB] at vc
    (repeat' (first | refine awp_seq ?_ | refine awp_block ?_ | refine awp_skip ?_ | ((first | refine rR (fun K kp hK hkp => ?_) | refine cR vc ?_); simp (implicitDefEqProofs := false) (maxSteps := 2000000) (disch := omega) only [go_sem, zk, hx, eTB, hl2, Value.oneCell']; (repeat' (first | (refine hK _ ?_; clear hK hkp kp K) | (with_reducible refine And.intro ?_ ?_) | omega))) | refine awp_cond_t rfl ?_))
    ((refine nextA (k + 1) ?_ ?_ ?_); rotate_left; (· (try dsimp only); (omega)); (· (refine embK hE [0, 1, 2, 6] rfl ?_ ?_ <;> simp [okM, okO, lk, ren, renL, renNd, by_, htk, eTB, List.take_take, Nat.min_self] <;> (try omega))))
    omega
  · obtain rfl : k = l.length := by omega
    rw [List.take_length]
    (repeat' (first | refine awp_seq ?_ | refine awp_exit ?_ | ((refine rR (fun K kp hK hkp => ?_)); simp (implicitDefEqProofs := false) (maxSteps := 2000000) (disch := omega) only [go_sem]; (repeat' (refine hK _ ?_; clear hK hkp kp K))) | ((refine awp_cond rfl (fun h => ?_) (fun h => ?_) <;> try simp only [ifs] at h) <;> (try (exfalso; omega))) | refine awp_ret ?_))
    (refine retA_is (by (simp (implicitDefEqProofs := false) (maxSteps := 2000000) (disch := omega) only [go_sem, Go.Proofs.Tryz.results10]); rfl) ?_; refine embS_frz (by simp only [oneA]; simp (implicitDefEqProofs := false) (maxSteps := 2000000) (disch := omega) only [go_sem]; rfl) ?_; refine (embV_nil hE (by simp) ?_).s; simp [oneA, ren, renL])
end Go.AM
namespace Go.AM
open Go Go.RowKit
open Go.Proofs.YtekljlenlbhmcaaGreatDoor (vcheck)
attribute [local irreducible] AWP retA
theorem u8_0 : (0 : UInt8).toNat = 0 := rfl
theorem u8_255n : (255 : UInt8).toNat = 255 := rfl
set_option maxHeartbeats 8000000 in
theorem keyBytes_con (G : List (Nat × List Value)) (t : Bool) (l : List V) (hl : l.length ≤ 1048576) (hg : ∀ v ∈ l, gV v) : Con Go.Proofs.Tryz.prog G 109 [.ro t 3 (l.map eV)] [] 0 (Is (encA (encM l)) [] 0) No := by
  refine con_of_awp Go.Proofs.Tryz.func109 rfl (by kernel_rfl) (of_decide_eq_true (by kernel_rfl)) ?_; intro E hG hE; subst hG; simp only [ent]
  by_cases h6 : 6 < l.length
  · have d1 : decide ((l.length : Int) > 6) = true := decide_eq_true (by omega)
    have hM : encM l = .error 1 := by rw [encM, if_pos h6]
    rw [hM]; simp only [encA]
    (repeat' (first | refine awp_seq ?_ | ((refine rR (fun K kp hK hkp => ?_)); simp (implicitDefEqProofs := false) (maxSteps := 2000000) (disch := omega) only [go_sem, d1]; (repeat' (refine hK _ ?_; clear hK hkp kp K))) | refine awp_cond_t rfl ?_ | refine awp_ret ?_))
    (refine retA_is (by (simp (implicitDefEqProofs := false) (maxSteps := 2000000) (disch := omega) only [go_sem, Go.Proofs.Tryz.results109]); rfl) ?_; refine eN hE ?_; simp [oneA, ren, renL])
  have d1 : decide ((l.length : Int) > 6) = false := decide_eq_false (by omega)
  (repeat' (first | refine awp_seq ?_ | refine awp_block ?_ | refine awp_skip ?_ | ((refine rR (fun K kp hK hkp => ?_)); simp (implicitDefEqProofs := false) (maxSteps := 2000000) (disch := omega) only [go_sem, d1]; (repeat' (refine hK _ ?_; clear hK hkp kp K))) | refine awp_cond_f rfl ?_))
  (refine AWP.emb (emb_nil 4 5 1 ?_) ?_; (· rfl); dsimp only)
  refine awp_loop (fun q : Nat × List UInt8 => ⟨[(5, .r (.int .i64 q.1)), (4, .s 0 0 q.2.length), (0, .ro t 3 (l.map eV))], [(0, .lst 5 1 (q.2.map eByte))], 1⟩) (fun q => q.1 ≤ l.length ∧ q.2.length ≤ 43 * q.1 ∧ encFrom q.2 (l.drop q.1) = encFrom [] l) (fun q => l.length - q.1) (0, []) ?_ ?_ ?_
  · exact ⟨by simp, by simp, rfl⟩
  · (refine embK hE [0] rfl ?_ ?_ <;> simp [okM, okO, lk, ren, renL, renNd, by_] <;> (try omega))
  rintro ⟨i, b⟩ ⟨hi, hb, hno⟩
  simp only at hi hb hno ⊢
  by_cases hlt : i < l.length
  · obtain ⟨v, hx⟩ : ∃ x, l[i]? = some x := ⟨l[i], by simp [hlt]⟩
    have hgv := hg v (List.mem_of_getElem? hx)
    have vc := vfaultC_con E.G v hgv.1
    simp only [eV] at vc
    by_cases hv : vcheck v.k v.n v.s = 0
    · rw [hv] at vc
      have hlen := encV_len hv
      rw [encFrom_step b hx hv] at hno
      obtain hk | ⟨hk, hn⟩ | hk | ⟨hk, hs⟩ := kind_of_check hv
      · have hW : encV v = [0] := by rw [encV, hk]; rfl
        rw [hW] at hno
        (repeat' (first | refine awp_seq ?_ | refine awp_block ?_ | refine awp_skip ?_ | ((first | refine rR (fun K kp hK hkp => ?_) | refine cR vc ?_); simp (implicitDefEqProofs := false) (maxSteps := 2000000) (disch := omega) only [go_sem, hx, eV, hk]; (repeat' (first | (refine hK _ ?_; clear hK hkp kp K) | (with_reducible refine And.intro ?_ ?_) | omega))) | refine awp_cond_f rfl ?_ | ((refine awp_cond rfl (fun h => ?_) (fun h => ?_) <;> try simp only [ifs] at h) <;> (try (exfalso; omega)))))
        ((refine nextA ((i + 1, b ++ [0])) ?_ ?_ ?_); rotate_left; (· (try dsimp only); (omega)); (· (refine embK hE [2] rfl ?_ ?_ <;> simp [okM, okO, lk, ren, renL, renNd, by_, eByte, u8_0, u8_wrap, be8_len] <;> (try omega))))
        exact ⟨by omega, by simp only [List.length_append, List.length_singleton]; omega, hno⟩
      · have hW : encV v = [1, UInt8.ofNat v.n.toNat] := by rw [encV, hk]; rfl
        rw [hW] at hno
        obtain hn | hn := hn
        · rw [hn] at hno
          (repeat' (first | refine awp_seq ?_ | refine awp_block ?_ | refine awp_skip ?_ | ((first | refine rR (fun K kp hK hkp => ?_) | refine cR vc ?_); simp (implicitDefEqProofs := false) (maxSteps := 2000000) (disch := omega) only [go_sem, hx, eV, hk, hn]; (repeat' (first | (refine hK _ ?_; clear hK hkp kp K) | (with_reducible refine And.intro ?_ ?_) | omega))) | refine awp_cond_t rfl ?_ | refine awp_cond_f rfl ?_ | ((refine awp_cond rfl (fun h => ?_) (fun h => ?_) <;> try simp only [ifs] at h) <;> (try (exfalso; omega)))))
          ((refine nextA ((i + 1, b ++ [1, 0])) ?_ ?_ ?_); rotate_left; (· (try dsimp only); (omega)); (· (refine embK hE [4] rfl ?_ ?_ <;> simp [okM, okO, lk, ren, renL, renNd, by_, eByte, u8_0, u8_wrap, be8_len] <;> (try omega))))
          exact ⟨by omega, by simp only [List.length_append, List.length_cons, List.length_nil]; omega, hno⟩
        · rw [hn] at hno
          (repeat' (first | refine awp_seq ?_ | refine awp_block ?_ | refine awp_skip ?_ | ((first | refine rR (fun K kp hK hkp => ?_) | refine cR vc ?_); simp (implicitDefEqProofs := false) (maxSteps := 2000000) (disch := omega) only [go_sem, hx, eV, hk, hn]; (repeat' (first | (refine hK _ ?_; clear hK hkp kp K) | (with_reducible refine And.intro ?_ ?_) | omega))) | refine awp_cond_t rfl ?_ | refine awp_cond_f rfl ?_ | ((refine awp_cond rfl (fun h => ?_) (fun h => ?_) <;> try simp only [ifs] at h) <;> (try (exfalso; omega)))))
          ((refine nextA ((i + 1, b ++ [1, 1])) ?_ ?_ ?_); rotate_left; (· (try dsimp only); (omega)); (· (refine embK hE [4] rfl ?_ ?_ <;> simp [okM, okO, lk, ren, renL, renNd, by_, eByte, u8_0, u8_wrap, be8_len] <;> (try omega))))
          exact ⟨by omega, by simp only [List.length_append, List.length_cons, List.length_nil]; omega, hno⟩
      · have hW : encV v = 2 :: be8 (up63 v.n) := by rw [encV, hk]; rfl
        rw [hW] at hno
        have hc := highFirst_con E.G v.n hgv.2
        (repeat' (first | refine awp_seq ?_ | refine awp_block ?_ | refine awp_skip ?_ | ((first | refine rR (fun K kp hK hkp => ?_) | refine cR vc ?_ | refine cR hc ?_); simp (implicitDefEqProofs := false) (maxSteps := 2000000) (disch := omega) only [go_sem, hx, eV, hk, be8_len, be8_all]; (repeat' (first | (refine hK _ ?_; clear hK hkp kp K) | (with_reducible refine And.intro ?_ ?_) | omega))) | refine awp_cond_t rfl ?_ | refine awp_cond_f rfl ?_ | ((refine awp_cond rfl (fun h => ?_) (fun h => ?_) <;> try simp only [ifs] at h) <;> (try (exfalso; omega)))))
        ((refine nextA ((i + 1, b ++ 2 :: be8 (up63 v.n))) ?_ ?_ ?_); rotate_left; (· (try dsimp only); (omega)); (· (refine embK hE [4] rfl ?_ ?_ <;> simp [okM, okO, lk, ren, renL, renNd, by_, eByte, u8_0, u8_wrap, be8_len] <;> (try omega))))
        exact ⟨by omega, by simp only [List.length_append, List.length_cons, be8_len]; omega, hno⟩
      · have hW : encV v = 3 :: (escM v.s.data.toList ++ [0, 0]) := by rw [encV, hk]; rfl
        rw [hW] at hno hlen
        have hsl := ba_len v.s
        (repeat' (first | refine awp_seq ?_ | refine awp_block ?_ | refine awp_skip ?_ | ((first | refine rR (fun K kp hK hkp => ?_) | refine cR vc ?_); simp (implicitDefEqProofs := false) (maxSteps := 2000000) (disch := omega) only [go_sem, hx, eV, hk]; (repeat' (first | (refine hK _ ?_; clear hK hkp kp K) | (with_reducible refine And.intro ?_ ?_) | omega))) | refine awp_cond_t rfl ?_ | refine awp_cond_f rfl ?_ | ((refine awp_cond rfl (fun h => ?_) (fun h => ?_) <;> try simp only [ifs] at h) <;> (try (exfalso; omega)))))
        refine awp_loop (fun q : Nat × List UInt8 => ⟨[(7, .r (.int .i64 q.1)), (4, .s 0 0 q.2.length), (5, .r (.int .i64 i)), (0, .ro t 3 (l.map eV))], [(0, .lst 5 1 (q.2.map eByte))], 1⟩) (fun q => q.1 ≤ v.s.size ∧ q.2.length ≤ b.length + 1 + 2 * q.1 ∧ q.2 ++ escM (v.s.data.toList.drop q.1) = b ++ 3 :: escM v.s.data.toList) (fun q => v.s.size - q.1) (0, b ++ [3]) ?_ ?_ ?_
        · exact ⟨by simp, by simp, by simp⟩
        · (refine embK hE [2] rfl ?_ ?_ <;> simp [okM, okO, lk, ren, renL, renNd, by_, eByte, u8_wrap] <;> (try omega))
        rintro ⟨k, c⟩ ⟨hk', hcl, hco⟩
        simp only at hk' hcl hco ⊢
        by_cases hks : k < v.s.size
        · obtain ⟨x, hxs⟩ : ∃ x, v.s.data.toList[k]? = some x := ⟨v.s.data.toList[k]'(by omega), by simp⟩
          have hxg := ba_get v.s k
          rw [hxs] at hxg
          rw [drop_at hxs, escM, repM] at hco
          by_cases h0 : x = 0
          · rw [if_pos h0] at hco
            subst h0
            (repeat' (first | refine awp_seq ?_ | refine awp_block ?_ | refine awp_skip ?_ | ((refine rR (fun K kp hK hkp => ?_)); simp (implicitDefEqProofs := false) (maxSteps := 2000000) (disch := omega) only [go_sem, hx, eV, hxg]; (repeat' (first | (refine hK _ ?_; clear hK hkp kp K) | (with_reducible refine And.intro ?_ ?_) | omega))) | refine awp_cond_t rfl ?_ | ((refine awp_cond rfl (fun h => ?_) (fun h => ?_) <;> try simp only [ifs] at h) <;> (try (exfalso; omega)))))
            ((refine nextA ((k + 1, c ++ [0, 255])) ?_ ?_ ?_); rotate_left; (· (try dsimp only); (omega)); (· (refine embK hE [4] rfl ?_ ?_ <;> simp [okM, okO, lk, ren, renL, renNd, by_, eByte] <;> (try omega))))
            exact ⟨by omega, by simp only [List.length_append, List.length_cons, List.length_nil]; omega, by rw [← hco]; simp [escM]⟩
          · rw [if_neg h0] at hco
            have e0 : ((x.toNat : Int) == 0) = false := by
              rw [beq_eq_false_iff_ne]; intro h; exact h0 (UInt8.toNat.inj (by rw [u8_0]; omega))
            (repeat' (first | refine awp_seq ?_ | refine awp_block ?_ | refine awp_skip ?_ | ((refine rR (fun K kp hK hkp => ?_)); simp (implicitDefEqProofs := false) (maxSteps := 2000000) (disch := omega) only [go_sem, hx, eV, hxg, e0]; (repeat' (first | (refine hK _ ?_; clear hK hkp kp K) | (with_reducible refine And.intro ?_ ?_) | omega))) | refine awp_cond_f rfl ?_ | ((refine awp_cond rfl (fun h => ?_) (fun h => ?_) <;> try simp only [ifs] at h) <;> (try (exfalso; omega)))))
            ((refine nextA ((k + 1, c ++ [x])) ?_ ?_ ?_); rotate_left; (· (try dsimp only); (omega)); (· (refine embK hE [2] rfl ?_ ?_ <;> simp [okM, okO, lk, ren, renL, renNd, by_, eByte] <;> (try omega))))
            exact ⟨by omega, by simp only [List.length_append, List.length_singleton]; omega, by rw [← hco]; simp [escM]⟩
        · rw [List.drop_of_length_le (by omega)] at hco
          have hco : c = b ++ 3 :: escM v.s.data.toList := by rw [← hco]; simp [escM, repM]
          (repeat' (first | refine awp_seq ?_ | refine awp_exit ?_ | ((refine rR (fun K kp hK hkp => ?_)); simp (implicitDefEqProofs := false) (maxSteps := 2000000) (disch := omega) only [go_sem, hx, eV]; (repeat' (first | (refine hK _ ?_; clear hK hkp kp K) | (with_reducible refine And.intro ?_ ?_) | omega))) | ((refine awp_cond rfl (fun h => ?_) (fun h => ?_) <;> try simp only [ifs] at h) <;> (try (exfalso; omega)))))
          ((refine nextA ((i + 1, c ++ [0, 0])) ?_ ?_ ?_); rotate_left; (· (try dsimp only); (omega)); (· (refine embK hE [2] rfl ?_ ?_ <;> simp [okM, okO, lk, ren, renL, renNd, by_, eByte] <;> (try omega))))
          have hcc : c ++ [0, 0] = b ++ 3 :: (escM v.s.data.toList ++ [0, 0]) := by rw [hco]; simp
          refine ⟨by omega, ?_, by simp only; rw [hcc]; exact hno⟩
          simp only; rw [hcc]; simp only [List.length_append, List.length_cons, List.length_nil] at hlen ⊢; omega
    · have hv0 : (vcheck v.k v.n v.s != 0) = true := by simpa using hv
      have hM : encM l = .error (vcheck v.k v.n v.s) := by
        rw [encM, if_neg h6, ← hno, drop_at hx, encFrom, if_pos hv]
      rw [hM]; simp only [encA]
      (repeat' (first | refine awp_seq ?_ | refine awp_block ?_ | refine awp_skip ?_ | ((first | refine rR (fun K kp hK hkp => ?_) | refine cR vc ?_); simp (implicitDefEqProofs := false) (maxSteps := 2000000) (disch := omega) only [go_sem, hx, eV, hv0]; (repeat' (refine hK _ ?_; clear hK hkp kp K))) | refine awp_cond_t rfl ?_ | ((refine awp_cond rfl (fun h => ?_) (fun h => ?_) <;> try simp only [ifs] at h) <;> (try (exfalso; omega))) | refine awp_ret ?_))
      (refine retA_is (by (simp (implicitDefEqProofs := false) (maxSteps := 2000000) (disch := omega) only [go_sem, Go.Proofs.Tryz.results109]); rfl) ?_; refine eN hE ?_; simp [oneA, ren, renL])
  · rw [List.drop_of_length_le (by omega), encFrom] at hno
    by_cases h100 : 100 < b.length
    · have d2 : decide ((b.length : Int) > 100) = true := decide_eq_true (by omega)
      have hM : encM l = .error 5 := by rw [encM, if_neg h6, ← hno]; simp only; rw [if_pos h100]
      rw [hM]; simp only [encA]
      (repeat' (first | refine awp_seq ?_ | refine awp_exit ?_ | ((refine rR (fun K kp hK hkp => ?_)); simp (implicitDefEqProofs := false) (maxSteps := 2000000) (disch := omega) only [go_sem, d2]; (repeat' (refine hK _ ?_; clear hK hkp kp K))) | refine awp_cond_t rfl ?_ | ((refine awp_cond rfl (fun h => ?_) (fun h => ?_) <;> try simp only [ifs] at h) <;> (try (exfalso; omega))) | refine awp_ret ?_))
      (refine retA_is (by (simp (implicitDefEqProofs := false) (maxSteps := 2000000) (disch := omega) only [go_sem, Go.Proofs.Tryz.results109]); rfl) ?_; refine eN hE ?_; simp [oneA, ren, renL])
    · have d2 : decide ((b.length : Int) > 100) = false := decide_eq_false (by omega)
      have hM : encM l = .ok b := by rw [encM, if_neg h6, ← hno]; simp only; rw [if_neg h100]
      rw [hM]; simp only [encA]
      (repeat' (first | refine awp_seq ?_ | refine awp_skip ?_ | refine awp_exit ?_ | ((refine rR (fun K kp hK hkp => ?_)); simp (implicitDefEqProofs := false) (maxSteps := 2000000) (disch := omega) only [go_sem, d2]; (repeat' (refine hK _ ?_; clear hK hkp kp K))) | refine awp_cond_f rfl ?_ | ((refine awp_cond rfl (fun h => ?_) (fun h => ?_) <;> try simp only [ifs] at h) <;> (try (exfalso; omega))) | refine awp_ret ?_))
      (refine retA_is (by (simp (implicitDefEqProofs := false) (maxSteps := 2000000) (disch := omega) only [go_sem, Go.Proofs.Tryz.results109]); rfl) ?_; refine embS_frz (by simp only [oneA]; simp (implicitDefEqProofs := false) (maxSteps := 2000000) (disch := omega) only [go_sem]; rfl) ?_; refine (embV_nil hE (by simp) ?_).s; simp [oneA, ren, renL])
end Go.AM
namespace Go.AM
open Go Go.RowKit
open Go.Proofs.YtekljlenlbhmcaaGreatDoor (vcheck)
attribute [local irreducible] AWP retA
def RepCon (G : List (Nat × List Value)) : Prop := ∀ s : ByteArray, s.size ≤ 400 → Con Go.Proofs.Tryz.prog G 119 [.r (.string s), .r (.string ⟨#[0]⟩), .r (.string ⟨#[0, 255]⟩)] [] 0 (Is (.r (.string ⟨(escM s.data.toList).toArray⟩)) [] 0) No
set_option maxHeartbeats 8000000 in
theorem encode_con {G : List (Nat × List Value)} (HR : RepCon G) (t : Bool) (l : List V) (hl : l.length ≤ 1048576) (hg : ∀ v ∈ l, gV v) : Con Go.Proofs.Tryz.prog G 62 [.ro t 3 (l.map eV)] [] 0 (Is (encA (encM l)) [] 0) No := by
  refine con_of_awp Go.Proofs.Tryz.func62 rfl (by kernel_rfl) (of_decide_eq_true (by kernel_rfl)) ?_; intro E hG hE; subst hG; simp only [ent]
  by_cases h6 : 6 < l.length
  · have d1 : decide ((l.length : Int) > 6) = true := decide_eq_true (by omega)
    have hM : encM l = .error 1 := by rw [encM, if_pos h6]
    rw [hM]; simp only [encA]
    (repeat' (first | refine awp_seq ?_ | ((refine rR (fun K kp hK hkp => ?_)); simp (implicitDefEqProofs := false) (maxSteps := 2000000) (disch := omega) only [go_sem, d1]; (repeat' (refine hK _ ?_; clear hK hkp kp K))) | refine awp_cond_t rfl ?_ | refine awp_ret ?_))
    (refine retA_is (by (simp (implicitDefEqProofs := false) (maxSteps := 2000000) (disch := omega) only [go_sem, Go.Proofs.Tryz.results62]); rfl) ?_; refine eN hE ?_; simp [oneA, ren, renL])
  have d1 : decide ((l.length : Int) > 6) = false := decide_eq_false (by omega)
  (repeat' (first | refine awp_seq ?_ | refine awp_block ?_ | refine awp_skip ?_ | ((refine rR (fun K kp hK hkp => ?_)); simp (implicitDefEqProofs := false) (maxSteps := 2000000) (disch := omega) only [go_sem, d1]; (repeat' (refine hK _ ?_; clear hK hkp kp K))) | refine awp_cond_f rfl ?_))
  (refine AWP.emb (emb_nil 4 5 1 ?_) ?_; (· rfl); dsimp only)
  refine awp_loop (fun q : Nat × List UInt8 => ⟨[(15, .r (.int .i64 q.1)), (14, .r (.int .i64 l.length)), (13, .ro t 3 (l.map eV)), (4, .s 0 0 q.2.length)], [(0, .lst 5 1 (q.2.map eByte))], 1⟩) (fun q => q.1 ≤ l.length ∧ q.2.length ≤ 43 * q.1 ∧ encFrom q.2 (l.drop q.1) = encFrom [] l) (fun q => l.length - q.1) (0, []) ?_ ?_ ?_
  · exact ⟨by simp, by simp, rfl⟩
  · (refine embK hE [0] rfl ?_ ?_ <;> simp [okM, okO, lk, ren, renL, renNd, by_] <;> (try omega))
  rintro ⟨i, b⟩ ⟨hi, hb, hno⟩
  simp only at hi hb hno ⊢
  by_cases hlt : i < l.length
  · obtain ⟨v, hx⟩ : ∃ x, l[i]? = some x := ⟨l[i], by simp [hlt]⟩
    have hgv := hg v (List.mem_of_getElem? hx)
    have vc := valC_con E.G v hgv.1
    simp only [eV] at vc
    by_cases hv : vcheck v.k v.n v.s = 0
    · rw [hv] at vc
      have hlen := encV_len hv
      rw [encFrom_step b hx hv] at hno
      obtain hk | ⟨hk, hn⟩ | hk | ⟨hk, hs⟩ := kind_of_check hv
      · have hW : encV v = [0] := by rw [encV, hk]; rfl
        rw [hW] at hno
        (repeat' (first | refine awp_seq ?_ | refine awp_block ?_ | refine awp_skip ?_ | ((first | refine rR (fun K kp hK hkp => ?_) | refine cR vc ?_); simp (implicitDefEqProofs := false) (maxSteps := 2000000) (disch := omega) only [go_sem, hx, eV, hk]; (repeat' (first | (refine hK _ ?_; clear hK hkp kp K) | (with_reducible refine And.intro ?_ ?_) | omega))) | refine awp_cond_f rfl ?_ | ((refine awp_cond rfl (fun h => ?_) (fun h => ?_) <;> try simp only [ifs] at h) <;> (try (exfalso; omega)))))
        ((refine nextA ((i + 1, b ++ [0])) ?_ ?_ ?_); rotate_left; (· (try dsimp only); (omega)); (· (refine embK hE [3] rfl ?_ ?_ <;> simp [okM, okO, lk, ren, renL, renNd, by_, eByte, u8_0, u8_wrap] <;> (try omega))))
        exact ⟨by omega, by simp only [List.length_append, List.length_singleton]; omega, hno⟩
      · have hW : encV v = [1, UInt8.ofNat v.n.toNat] := by rw [encV, hk]; rfl
        rw [hW] at hno
        obtain hn | hn := hn
        · rw [hn] at hno
          (repeat' (first | refine awp_seq ?_ | refine awp_block ?_ | refine awp_skip ?_ | ((first | refine rR (fun K kp hK hkp => ?_) | refine cR vc ?_); simp (implicitDefEqProofs := false) (maxSteps := 2000000) (disch := omega) only [go_sem, hx, eV, hk, hn]; (repeat' (first | (refine hK _ ?_; clear hK hkp kp K) | (with_reducible refine And.intro ?_ ?_) | omega))) | refine awp_cond_t rfl ?_ | refine awp_cond_f rfl ?_ | ((refine awp_cond rfl (fun h => ?_) (fun h => ?_) <;> try simp only [ifs] at h) <;> (try (exfalso; omega)))))
          ((refine nextA ((i + 1, b ++ [1, 0])) ?_ ?_ ?_); rotate_left; (· (try dsimp only); (omega)); (· (refine embK hE [5] rfl ?_ ?_ <;> simp [okM, okO, lk, ren, renL, renNd, by_, eByte, u8_0, u8_wrap] <;> (try omega))))
          exact ⟨by omega, by simp only [List.length_append, List.length_cons, List.length_nil]; omega, hno⟩
        · rw [hn] at hno
          (repeat' (first | refine awp_seq ?_ | refine awp_block ?_ | refine awp_skip ?_ | ((first | refine rR (fun K kp hK hkp => ?_) | refine cR vc ?_); simp (implicitDefEqProofs := false) (maxSteps := 2000000) (disch := omega) only [go_sem, hx, eV, hk, hn]; (repeat' (first | (refine hK _ ?_; clear hK hkp kp K) | (with_reducible refine And.intro ?_ ?_) | omega))) | refine awp_cond_t rfl ?_ | refine awp_cond_f rfl ?_ | ((refine awp_cond rfl (fun h => ?_) (fun h => ?_) <;> try simp only [ifs] at h) <;> (try (exfalso; omega)))))
          ((refine nextA ((i + 1, b ++ [1, 1])) ?_ ?_ ?_); rotate_left; (· (try dsimp only); (omega)); (· (refine embK hE [5] rfl ?_ ?_ <;> simp [okM, okO, lk, ren, renL, renNd, by_, eByte, u8_0, u8_wrap] <;> (try omega))))
          exact ⟨by omega, by simp only [List.length_append, List.length_cons, List.length_nil]; omega, hno⟩
      · have hW : encV v = 2 :: be8 (up63 v.n) := by rw [encV, hk]; rfl
        rw [hW] at hno
        have hxor := xorU hgv.2
        obtain ⟨u, hu⟩ : ∃ u, up63 v.n = u := ⟨_, rfl⟩
        rw [hu] at hxor hno
        (repeat' (first | refine awp_seq ?_ | refine awp_block ?_ | refine awp_skip ?_ | ((first | refine rR (fun K kp hK hkp => ?_) | refine cR vc ?_); simp (implicitDefEqProofs := false) (maxSteps := 2000000) (disch := omega) only [go_sem, hx, eV, hk, hxor]; (repeat' (first | (refine hK _ ?_; clear hK hkp kp K) | (with_reducible refine And.intro ?_ ?_) | omega))) | refine awp_cond_t rfl ?_ | refine awp_cond_f rfl ?_ | ((refine awp_cond rfl (fun h => ?_) (fun h => ?_) <;> try simp only [ifs] at h) <;> (try (exfalso; omega)))))
        refine awp_loop (fun j : Nat => ⟨[(9, .r (.int .i64 (56 - 8 * (j : Int)))), (8, .r (.int .u64 u)), (15, .r (.int .i64 i)), (14, .r (.int .i64 l.length)), (13, .ro t 3 (l.map eV)), (4, .s 0 0 (b.length + 1 + j))], [(0, .lst 5 1 ((b ++ 2 :: (be8 u).take j).map eByte))], 1⟩) (fun j => j ≤ 8) (fun j => 8 - j) 0 ?_ ?_ ?_
        · simp
        · (refine embK hE [3] rfl ?_ ?_ <;> simp [okM, okO, lk, ren, renL, renNd, by_, eByte, u8_wrap] <;> (try omega))
        intro j hj
        have hz : ((be8 u).take j).length = j := by rw [List.length_take, be8_len]; omega
        by_cases h8 : j < 8
        · have d2 : decide ((56 - 8 * (j : Int)) ≥ 0) = true := decide_eq_true (by omega)
          have c1 : ((56 - 8 * (j : Int)) < 0) = False := eq_false (by omega)
          have hsb := shr_byte u j h8
          obtain ⟨x, hxj⟩ : ∃ x, x = UInt8.ofNat (u / 2 ^ (56 - 8 * j) % 256) := ⟨_, rfl⟩
          rw [← hxj] at hsb
          have htk : (be8 u).take (j + 1) = (be8 u).take j ++ [x] := by rw [List.take_add_one, be8_get u j h8, hxj]; rfl
          have htA : List.take (b.length + 1 + j) (List.map eByte b ++ [AV.r (.int .u8 2)] :: List.take j (List.map eByte (be8 u))) = List.map eByte b ++ [AV.r (.int .u8 2)] :: List.take j (List.map eByte (be8 u)) := List.take_of_length_le (by simp only [List.length_append, List.length_cons, List.length_map, List.length_take, be8_len]; omega)
          (repeat' (first | refine awp_seq ?_ | refine awp_block ?_ | refine awp_skip ?_ | ((refine rR (fun K kp hK hkp => ?_)); simp (implicitDefEqProofs := false) (maxSteps := 2000000) (disch := omega) only [go_sem, d2, c1, hsb]; (repeat' (first | (refine hK _ ?_; clear hK hkp kp K) | (with_reducible refine And.intro ?_ ?_) | omega))) | refine awp_cond_t rfl ?_))
          ((refine nextA (j + 1) ?_ ?_ ?_); rotate_left; (· (try dsimp only); (omega)); (· (refine embK hE [2] rfl ?_ ?_ <;> simp [okM, okO, lk, ren, renL, renNd, by_, eByte, htk, htA] <;> (try omega))))
          omega
        · obtain rfl : j = 8 := by omega
          (repeat' (first | refine awp_seq ?_ | refine awp_exit ?_ | ((refine rR (fun K kp hK hkp => ?_)); simp (implicitDefEqProofs := false) (maxSteps := 2000000) (disch := omega) only [go_sem]; (repeat' (refine hK _ ?_; clear hK hkp kp K))) | refine awp_cond_f rfl ?_))
          ((refine nextA ((i + 1, b ++ 2 :: be8 u)) ?_ ?_ ?_); rotate_left; (· (try dsimp only); (omega)); (· (refine embK hE [0] rfl ?_ ?_ <;> simp [okM, okO, lk, ren, renL, renNd, by_, be8_all, be8_len] <;> (try omega))))
          exact ⟨by omega, by simp only [List.length_append, List.length_cons, be8_len]; omega, hno⟩
      · have hW : encV v = 3 :: (escM v.s.data.toList ++ [0, 0]) := by rw [encV, hk]; rfl
        rw [hW] at hno hlen
        have rc := HR v.s (by omega)
        simp only [List.length_append, List.length_cons, List.length_nil] at hlen
        (repeat' (first | refine awp_seq ?_ | refine awp_block ?_ | refine awp_skip ?_ | ((first | refine rR (fun K kp hK hkp => ?_) | refine cR vc ?_ | refine cR rc ?_); simp (implicitDefEqProofs := false) (maxSteps := 2000000) (disch := omega) only [go_sem, hx, eV, hk]; (repeat' (first | (refine hK _ ?_; clear hK hkp kp K) | (with_reducible refine And.intro ?_ ?_) | omega))) | refine awp_cond_t rfl ?_ | refine awp_cond_f rfl ?_ | ((refine awp_cond rfl (fun h => ?_) (fun h => ?_) <;> try simp only [ifs] at h) <;> (try (exfalso; omega)))))
        ((refine nextA ((i + 1, b ++ 3 :: (escM v.s.data.toList ++ [0, 0]))) ?_ ?_ ?_); rotate_left; (· (try dsimp only); (omega)); (· (refine embK hE [6] rfl ?_ ?_ <;> simp [okM, okO, lk, ren, renL, renNd, by_, eByte, u8_wrap] <;> (try omega))))
        exact ⟨by omega, by simp only [List.length_append, List.length_cons, List.length_nil]; omega, hno⟩
    · have hv0 : (vcheck v.k v.n v.s != 0) = true := by simpa using hv
      have hM : encM l = .error (vcheck v.k v.n v.s) := by
        rw [encM, if_neg h6, ← hno, drop_at hx, encFrom, if_pos hv]
      rw [hM]; simp only [encA]
      (repeat' (first | refine awp_seq ?_ | refine awp_block ?_ | refine awp_skip ?_ | ((first | refine rR (fun K kp hK hkp => ?_) | refine cR vc ?_); simp (implicitDefEqProofs := false) (maxSteps := 2000000) (disch := omega) only [go_sem, hx, eV, hv0]; (repeat' (refine hK _ ?_; clear hK hkp kp K))) | refine awp_cond_t rfl ?_ | ((refine awp_cond rfl (fun h => ?_) (fun h => ?_) <;> try simp only [ifs] at h) <;> (try (exfalso; omega))) | refine awp_ret ?_))
      (refine retA_is (by (simp (implicitDefEqProofs := false) (maxSteps := 2000000) (disch := omega) only [go_sem, Go.Proofs.Tryz.results62]); rfl) ?_; refine eN hE ?_; simp [oneA, ren, renL])
  · rw [List.drop_of_length_le (by omega), encFrom] at hno
    by_cases h100 : 100 < b.length
    · have d2 : decide ((b.length : Int) > 100) = true := decide_eq_true (by omega)
      have hM : encM l = .error 5 := by rw [encM, if_neg h6, ← hno]; simp only; rw [if_pos h100]
      rw [hM]; simp only [encA]
      (repeat' (first | refine awp_seq ?_ | refine awp_exit ?_ | ((refine rR (fun K kp hK hkp => ?_)); simp (implicitDefEqProofs := false) (maxSteps := 2000000) (disch := omega) only [go_sem, d2]; (repeat' (refine hK _ ?_; clear hK hkp kp K))) | refine awp_cond_t rfl ?_ | ((refine awp_cond rfl (fun h => ?_) (fun h => ?_) <;> try simp only [ifs] at h) <;> (try (exfalso; omega))) | refine awp_ret ?_))
      (refine retA_is (by (simp (implicitDefEqProofs := false) (maxSteps := 2000000) (disch := omega) only [go_sem, Go.Proofs.Tryz.results62]); rfl) ?_; refine eN hE ?_; simp [oneA, ren, renL])
    · have d2 : decide ((b.length : Int) > 100) = false := decide_eq_false (by omega)
      have hM : encM l = .ok b := by rw [encM, if_neg h6, ← hno]; simp only; rw [if_neg h100]
      rw [hM]; simp only [encA]
      (repeat' (first | refine awp_seq ?_ | refine awp_skip ?_ | refine awp_exit ?_ | ((refine rR (fun K kp hK hkp => ?_)); simp (implicitDefEqProofs := false) (maxSteps := 2000000) (disch := omega) only [go_sem, d2]; (repeat' (refine hK _ ?_; clear hK hkp kp K))) | refine awp_cond_f rfl ?_ | ((refine awp_cond rfl (fun h => ?_) (fun h => ?_) <;> try simp only [ifs] at h) <;> (try (exfalso; omega))) | refine awp_ret ?_))
      (refine retA_is (by (simp (implicitDefEqProofs := false) (maxSteps := 2000000) (disch := omega) only [go_sem, Go.Proofs.Tryz.results62]); rfl) ?_; refine embS_frz (by simp only [oneA]; simp (implicitDefEqProofs := false) (maxSteps := 2000000) (disch := omega) only [go_sem]; rfl) ?_; refine (embV_nil hE (by simp) ?_).s; simp [oneA, ren, renL])
end Go.AM
namespace Go.AM
open Go Go.RowKit
open Go.Proofs.YtekljlenlbhmcaaGreatDoor (nameM vcheck)
attribute [local irreducible] AWP retA
set_option maxHeartbeats 4000000 in
theorem keyP_con {G : List (Nat × List Value)} (HR : RepCon G) (t : Bool) (r : List V) (b : Ky) (hl : r.length ≤ 1048576) (h1 : 1 ≤ r.length) (hg : ∀ v ∈ r, gV v) (he : encM (r.take 1) = .ok b) :
    Con Go.Proofs.Tryz.prog G 48 [.ro t 3 (r.map eV)] [] 0 (Is (.ro true 1 (b.map eByte)) [] 0) No := by
  have ec := encode_con HR t (r.take 1) (by rw [List.length_take]; omega) (fun v hv => hg v (List.mem_of_mem_take hv))
  rw [he, encA, List.map_take] at ec
  have z1 : ((1 : Int) ≤ (r.length : Int)) = True := eq_true (by omega)
  refine con_of_awp Go.Proofs.Tryz.func48 rfl (by kernel_rfl) (of_decide_eq_true (by kernel_rfl)) ?_; intro E hG hE; subst hG; simp only [ent]
  (repeat' (first | refine awp_seq ?_ | ((first | refine rR (fun K kp hK hkp => ?_) | refine cR ec ?_); simp (implicitDefEqProofs := false) (maxSteps := 2000000) (disch := omega) only [go_sem, z1]; (repeat' (refine hK _ ?_; clear hK hkp kp K))) | refine awp_ret ?_))
  (refine retA_is (by (simp (implicitDefEqProofs := false) (maxSteps := 2000000) (disch := omega) only [go_sem, Go.Proofs.Tryz.results48]); rfl) ?_; refine eN hE ?_; simp [oneA, ren, renL])
set_option maxHeartbeats 4000000 in
theorem keyQ_con (G : List (Nat × List Value)) (t : Bool) (r : List V) (b : Ky) (hl : r.length ≤ 1048576) (h1 : 1 ≤ r.length) (hg : ∀ v ∈ r, gV v) (he : encM (r.take 1) = .ok b) :
    Con Go.Proofs.Tryz.prog G 51 [.ro t 3 (r.map eV)] [] 0 (Is (.ro true 1 (b.map eByte)) [] 0) No := by
  have ec := keyBytes_con G t (r.take 1) (by rw [List.length_take]; omega) (fun v hv => hg v (List.mem_of_mem_take hv))
  rw [he, encA, List.map_take] at ec
  have z1 : ((1 : Int) ≤ (r.length : Int)) = True := eq_true (by omega)
  refine con_of_awp Go.Proofs.Tryz.func51 rfl (by kernel_rfl) (of_decide_eq_true (by kernel_rfl)) ?_; intro E hG hE; subst hG; simp only [ent]
  (repeat' (first | refine awp_seq ?_ | ((first | refine rR (fun K kp hK hkp => ?_) | refine cR ec ?_); simp (implicitDefEqProofs := false) (maxSteps := 2000000) (disch := omega) only [go_sem, z1]; (repeat' (refine hK _ ?_; clear hK hkp kp K))) | refine awp_ret ?_))
  (refine retA_is (by (simp (implicitDefEqProofs := false) (maxSteps := 2000000) (disch := omega) only [go_sem, Go.Proofs.Tryz.results51]); rfl) ?_; refine eN hE ?_; simp [oneA, ren, renL])
set_option maxHeartbeats 4000000 in
theorem table_con {G : List (Nat × List Value)} (T : Tabs G) (HR : RepCon G) (b : TB) (ho : okTB b) : Con Go.Proofs.Tryz.prog G 31 [.agg (eTB b)] [] 0 (Is (.r (.bool (tabM b))) [] 0) No := by
  have nc := name_con T b.nm ho.nm
  have cc := exprCols_con T true b.cols ho.cl ho.cs
  have kc := check_con2 G b.ps b.root (okPs_of ho.ps)
  have hrl := ho.rl
  rw [tabM]
  refine con_of_awp Go.Proofs.Tryz.func31 rfl (by kernel_rfl) (of_decide_eq_true (by kernel_rfl)) ?_; intro E hG hE; subst hG; simp only [ent]
  by_cases h1 : nameM b.nm = 0
  rotate_left
  · have z1 : (nameM b.nm != 0) = true := by simp [h1]
    rw [decide_eq_false h1]
    (repeat' (first | refine awp_seq ?_ | ((first | refine rR (fun K kp hK hkp => ?_) | refine cR nc ?_); simp (implicitDefEqProofs := false) (maxSteps := 2000000) (disch := omega) only [go_sem, z1, eTB]; (repeat' (refine hK _ ?_; clear hK hkp kp K))) | refine awp_cond_t rfl ?_ | refine awp_ret ?_))
    (refine retA_is (by (simp (implicitDefEqProofs := false) (maxSteps := 2000000) (disch := omega) only [go_sem, Go.Proofs.Tryz.results31]); rfl) ?_; refine eN hE ?_; simp [oneA, ren, renL])
  have z1 : (nameM b.nm != 0) = false := by simp [h1]
  by_cases h2 : colsM b.cols = 0
  rotate_left
  · have z2 : (colsM b.cols != 0) = true := by simp [h2]
    rw [decide_eq_true h1, decide_eq_false h2]
    (repeat' (first | refine awp_seq ?_ | ((first | refine rR (fun K kp hK hkp => ?_) | refine cR nc ?_ | refine cR cc ?_); simp (implicitDefEqProofs := false) (maxSteps := 2000000) (disch := omega) only [go_sem, z1, z2, eTB]; (repeat' (refine hK _ ?_; clear hK hkp kp K))) | refine awp_cond_t rfl ?_ | refine awp_ret ?_))
    (refine retA_is (by (simp (implicitDefEqProofs := false) (maxSteps := 2000000) (disch := omega) only [go_sem, Go.Proofs.Tryz.results31]); rfl) ?_; refine eN hE ?_; simp [oneA, ren, renL])
  have z2 : (colsM b.cols != 0) = false := by simp [h2]
  by_cases h3 : b.rows.length ≤ 40
  rotate_left
  · have z3 : ((b.rows.length : Int) > 40) = True := eq_true (by omega)
    rw [decide_eq_true h1, decide_eq_true h2, decide_eq_false h3]
    (repeat' (first | refine awp_seq ?_ | ((first | refine rR (fun K kp hK hkp => ?_) | refine cR nc ?_ | refine cR cc ?_); simp (implicitDefEqProofs := false) (maxSteps := 2000000) (disch := omega) only [go_sem, z1, z2, z3, eTB]; (repeat' (refine hK _ ?_; clear hK hkp kp K))) | refine awp_cond_t rfl ?_ | refine awp_ret ?_))
    (refine retA_is (by (simp (implicitDefEqProofs := false) (maxSteps := 2000000) (disch := omega) only [go_sem, Go.Proofs.Tryz.results31]); rfl) ?_; refine eN hE ?_; simp [oneA, ren, renL])
  have z3 : ((b.rows.length : Int) > 40) = False := eq_false (by omega)
  by_cases h4 : chkR b.ps b.root = 0
  rotate_left
  · have z4 : (chkR b.ps b.root != 0) = true := by simp [h4]
    rw [decide_eq_true h1, decide_eq_true h2, decide_eq_true h3, decide_eq_false h4]
    (repeat' (first | refine awp_seq ?_ | ((first | refine rR (fun K kp hK hkp => ?_) | refine cR nc ?_ | refine cR cc ?_ | refine cR kc ?_); simp (implicitDefEqProofs := false) (maxSteps := 2000000) (disch := omega) only [go_sem, z1, z2, z3, z4, eTB]; (repeat' (refine hK _ ?_; clear hK hkp kp K))) | refine awp_cond_t rfl ?_ | refine awp_ret ?_))
    (refine retA_is (by (simp (implicitDefEqProofs := false) (maxSteps := 2000000) (disch := omega) only [go_sem, Go.Proofs.Tryz.results31]); rfl) ?_; refine eN hE ?_; simp [oneA, ren, renL])
  have z4 : (chkR b.ps b.root != 0) = false := by simp [h4]
  rw [decide_eq_true h1, decide_eq_true h2, decide_eq_true h3, decide_eq_true h4]
  obtain ⟨R, hR⟩ : ∃ R, (rowsG (entsOf b.ps b.root) b.cols 0 b.rows && decide (manyR b.rows = (entsOf b.ps b.root).length)) = R := ⟨_, rfl⟩
  simp only [Bool.true_and, hR]
  obtain ⟨r0, d0, hr0, hT⟩ := chk_root h4
  have hEn : entsOf b.ps b.root = entsF b.ps d0 r0 := by rw [hr0, entsOf_eq hT]
  have hEl : (entsOf b.ps b.root).length ≤ 16000 := by
    have := flatE_len hT.ok (lvl b.ps d0 [r0])
    have := hT.many
    rw [hEn, entsF]; omega
  have sc := scan_con E.G true b.ps b.root [] [] ho.ps (entsOf b.ps b.root) (fun _ r d e h => by rw [scanM_all, e, entsOf_eq h])
  have hask : askS b.ps b.root [] [] = 0 := by rw [askS, if_neg (by simpa using h4), if_pos ⟨Nat.zero_le _, Nat.zero_le _⟩]
  rw [hask, scanA, if_pos rfl] at sc
  have sc := sc.weak (xs := [.agg [.ro true 5 (b.ps.map eP), .r (.int .i64 b.root)], .r (.slice none 0 0), .r (.slice none 0 0)]) (by simp [wkL, wk])
  (repeat' (first | refine awp_seq ?_ | refine awp_block ?_ | refine awp_skip ?_ | ((first | refine rR (fun K kp hK hkp => ?_) | refine cR nc ?_ | refine cR cc ?_ | refine cR kc ?_); simp (implicitDefEqProofs := false) (maxSteps := 2000000) (disch := omega) only [go_sem, z1, z2, z3, z4, eTB]; (repeat' (refine hK _ ?_; clear hK hkp kp K))) | refine awp_cond_f rfl ?_))
  clear nc cc kc z1 z2 z3 z4 h1 h2
  refine awp_loop (fun k : Nat => ⟨[(35, .r (.int .i64 k)), (34, .r (.int .i64 b.rows.length)), (33, .ro true 1 (b.rows.map eRw)), (3, .r (.int .i64 (manyR (b.rows.take k) : Nat))), (1, .p 0 0 0)], [(0, .box 35 (eTB b))], 1⟩) (fun k => k ≤ b.rows.length ∧ (rowsG (entsOf b.ps b.root) b.cols k (b.rows.drop k) && decide (manyR b.rows = (entsOf b.ps b.root).length)) = R) (fun k => b.rows.length - k) 0 ?_ ?_ ?_
  · exact ⟨Nat.zero_le _, hR⟩
  · (refine embK hE [0] rfl ?_ ?_ <;> simp [okM, okO, lk, ren, renL, renNd, by_, eTB, manyR] <;> (try omega))
  rintro k ⟨hk, hno⟩
  have hm := manyR_le (b.rows.take k)
  have hm2 : (b.rows.take k).length ≤ k := by rw [List.length_take]; omega
  by_cases hlt : k < b.rows.length
  · have zk : ((k : Int) < (b.rows.length : Int)) = True := eq_true (by omega)
    obtain ⟨x, hx⟩ : ∃ x, b.rows[k]? = some x := ⟨_, List.getElem?_eq_getElem hlt⟩
    have hmt := manyR_take hx
    rw [rowsG_step hx] at hno
    by_cases hx0 : x.length = 0
    · have zx : ((x.length : Int) == 0) = true := by simp [hx0]
      rw [if_pos hx0] at hno hmt
      (repeat' (first | refine awp_seq ?_ | refine awp_block ?_ | refine awp_skip ?_ | refine awp_exit ?_ | ((refine rR (fun K kp hK hkp => ?_)); simp (implicitDefEqProofs := false) (maxSteps := 2000000) (disch := omega) only [go_sem, zk, hx, eTB, eRw, zx]; (repeat' (refine hK _ ?_; clear hK hkp kp K))) | refine awp_cond_t rfl ?_))
      ((refine nextA (k + 1) ?_ ?_ ?_); rotate_left; (· (try dsimp only); (omega)); (· (refine embK hE [0] rfl ?_ ?_ <;> simp [okM, okO, lk, ren, renL, renNd, by_, eTB, hmt] <;> (try omega))))
      exact ⟨by omega, hno⟩
    · have zx : ((x.length : Int) == 0) = false := by rw [beq_eq_false_iff_ne]; omega
      rw [if_neg hx0] at hno hmt
      obtain ⟨ho1, ho2⟩ := ho.rs x (List.mem_of_getElem? hx)
      have rc := exprRow_con T b.cols x ho.cl ho1 ho.cs (fun v hv => (ho2 v hv).1)
      have e1 : ((manyR (b.rows.take k) : Nat) : Int) + 1 = ((manyR (b.rows.take k) + 1 : Nat) : Int) := by omega
      by_cases hr : rowsM b.cols x = 0
      · obtain ⟨v, s, hvs, he, hkb⟩ := keyR_ok hr
        have key := keyP_con HR true x (keyR x) ho1 (by omega) ho2 he
        obtain ⟨R2, hR2⟩ := finds_same b.ps b.root (keyR x)
        have fc := find2_con E.G true b.ps b.root (keyR x) ho.ps R2 fun _ r d e h => (hR2 r d e h).1
        have ha := askM_of h4 hkb
        have hf : R2 = foundM (entsOf b.ps b.root) (keyR x) := by rw [(hR2 r0 d0 hr0 hT).2, hEn]
        rw [findA, ha] at fc
        simp only [ne_eq, not_true_eq_false, if_false] at fc
        have zr : (rowsM b.cols x != 0) = false := by simp [hr]
        obtain ⟨f1, f2⟩ := R2
        by_cases hg : f2 = 0 ∧ f1 = (k : Int)
        · have g1 : (f2 != 0) = false := by simp [hg.1]
          have g2 : (f1 != (k : Int)) = false := by simp [hg.2]
          have hG : rowG (entsOf b.ps b.root) b.cols k x = true := by rw [rowG, decide_eq_true hr, ← hf, hg.1, hg.2]; simp
          rw [hG, if_pos rfl] at hno
          (repeat' (first | refine awp_seq ?_ | refine awp_block ?_ | refine awp_skip ?_ | ((first | refine rR (fun K kp hK hkp => ?_) | refine rD (id := 11) mixed 10 [0,1,2,3,4,5,6,7,8,9] (fun K kp hK hkp => ?_) | refine cR rc ?_ | refine cD key ?_ | refine cD fc ?_); simp (implicitDefEqProofs := false) (maxSteps := 2000000) (disch := omega) only [go_sem, zk, hx, eTB, eRw, zx, zr, e1, g1, g2]; (repeat' (refine hK _ ?_; clear hK hkp kp K))) | refine awp_cond_t rfl ?_ | refine awp_cond_f rfl ?_))
          ((refine nextA (k + 1) ?_ ?_ ?_); rotate_left; (· (try dsimp only); (omega)); (· (refine embK hE [0] rfl ?_ ?_ <;> simp [okM, okO, lk, ren, renL, renNd, by_, eTB, hmt] <;> (try omega))))
          exact ⟨by omega, hno⟩
        · have hG : rowG (entsOf b.ps b.root) b.cols k x = false := by
            rw [rowG, ← hf, Bool.and_eq_false_iff]
            right
            rw [decide_eq_false_iff_not]
            intro e
            injection e with e1 e2
            exact hg ⟨e2, e1⟩
          rw [hG] at hno
          have hno : false = R := by simpa using hno
          rw [← hno]
          by_cases g1' : f2 = 0
          · have g1 : (f2 != 0) = false := by simp [g1']
            have g2 : (f1 != (k : Int)) = true := by rw [bne_iff_ne]; exact fun e => hg ⟨g1', e⟩
            (repeat' (first | refine awp_seq ?_ | refine awp_block ?_ | refine awp_skip ?_ | ((first | refine rR (fun K kp hK hkp => ?_) | refine rD (id := 11) mixed 10 [0,1,2,3,4,5,6,7,8,9] (fun K kp hK hkp => ?_) | refine cR rc ?_ | refine cD key ?_ | refine cD fc ?_); simp (implicitDefEqProofs := false) (maxSteps := 2000000) (disch := omega) only [go_sem, zk, hx, eTB, eRw, zx, zr, e1, g1, g2]; (repeat' (refine hK _ ?_; clear hK hkp kp K))) | refine awp_cond_t rfl ?_ | refine awp_cond_f rfl ?_ | refine awp_ret ?_))
            (refine retA_is (by (simp (implicitDefEqProofs := false) (maxSteps := 2000000) (disch := omega) only [go_sem, Go.Proofs.Tryz.results31]); rfl) ?_; refine eN hE ?_; simp [oneA, ren, renL])
          · have g1 : (f2 != 0) = true := by rw [bne_iff_ne]; exact g1'
            (repeat' (first | refine awp_seq ?_ | refine awp_block ?_ | refine awp_skip ?_ | ((first | refine rR (fun K kp hK hkp => ?_) | refine rD (id := 11) mixed 10 [0,1,2,3,4,5,6,7,8,9] (fun K kp hK hkp => ?_) | refine cR rc ?_ | refine cD key ?_ | refine cD fc ?_); simp (implicitDefEqProofs := false) (maxSteps := 2000000) (disch := omega) only [go_sem, zk, hx, eTB, eRw, zx, zr, e1, g1]; (repeat' (refine hK _ ?_; clear hK hkp kp K))) | refine awp_cond_t rfl ?_ | refine awp_cond_f rfl ?_ | refine awp_ret ?_))
            (refine retA_is (by (simp (implicitDefEqProofs := false) (maxSteps := 2000000) (disch := omega) only [go_sem, Go.Proofs.Tryz.results31]); rfl) ?_; refine eN hE ?_; simp [oneA, ren, renL])
      · have zr : (rowsM b.cols x != 0) = true := by simp [hr]
        have hG : rowG (entsOf b.ps b.root) b.cols k x = false := by rw [rowG, decide_eq_false hr]; rfl
        rw [hG] at hno
        have hno : false = R := by simpa using hno
        rw [← hno]
        (repeat' (first | refine awp_seq ?_ | refine awp_block ?_ | refine awp_skip ?_ | ((first | refine rR (fun K kp hK hkp => ?_) | refine cR rc ?_); simp (implicitDefEqProofs := false) (maxSteps := 2000000) (disch := omega) only [go_sem, zk, hx, eTB, eRw, zx, zr, e1]; (repeat' (refine hK _ ?_; clear hK hkp kp K))) | refine awp_cond_t rfl ?_ | refine awp_cond_f rfl ?_ | refine awp_ret ?_))
        (refine retA_is (by (simp (implicitDefEqProofs := false) (maxSteps := 2000000) (disch := omega) only [go_sem, Go.Proofs.Tryz.results31]); rfl) ?_; refine eN hE ?_; simp [oneA, ren, renL])
  · obtain rfl : k = b.rows.length := by omega
    have hno : decide (manyR b.rows = (entsOf b.ps b.root).length) = R := by
      rw [← hno, List.drop_length, rowsG]; simp
    have hq : (((entsOf b.ps b.root).length : Int) == ((manyR b.rows : Nat) : Int)) = R := by
      rw [← hno, Bool.eq_iff_iff, beq_iff_eq, decide_eq_true_eq]; omega
    rw [List.take_length]
    (repeat' (first | refine awp_seq ?_ | refine awp_exit ?_ | ((first | refine rR (fun K kp hK hkp => ?_) | refine cR sc ?_); simp (implicitDefEqProofs := false) (maxSteps := 2000000) (disch := omega) only [go_sem, eTB, hq]; (repeat' (refine hK _ ?_; clear hK hkp kp K))) | ((refine awp_cond rfl (fun h => ?_) (fun h => ?_) <;> try simp only [ifs] at h) <;> (try (exfalso; omega))) | refine awp_ret ?_))
    (refine retA_is (by (simp (implicitDefEqProofs := false) (maxSteps := 2000000) (disch := omega) only [go_sem, Go.Proofs.Tryz.results31, hq]); rfl) ?_; refine eN hE ?_; simp [oneA, ren, renL, hq])
end Go.AM
namespace Go.AM
open Go Go.RowKit
open Go.Proofs.YtekljlenlbhmcaaGreatDoor (nameM vcheck)
attribute [local irreducible] AWP retA
set_option maxHeartbeats 4000000 in
theorem indexFuncT_con (G : List (Nat × List Value)) (t : Bool) (l : List TB) (g : Nat) (caps : List AV) (p : TB → Bool) (hl : l.length ≤ 1048576) (hcap : ∀ st, borL st caps = some caps) (hren : ∀ f, renL f caps = caps) (hf : ∀ G x, Con Go.Proofs.Tryz.prog G g (.agg (eTB x) :: caps) [] 0 (Is (.r (.bool (p x))) [] 0) No) :
    Con Go.Proofs.Tryz.prog G 57 [.ro t 5 (l.map eTB), .fn g caps] [] 0 (Is (.r (.int .i64 (idxM p l 0))) [] 0) No := by
  refine con_of_awp Go.Proofs.Tryz.func57 rfl (by kernel_rfl) (of_decide_eq_true (by kernel_rfl)) ?_; intro E hG hE; subst hG; simp only [ent]
  (repeat' (first | refine awp_seq ?_ | refine awp_block ?_ | ((refine rR (fun K kp hK hkp => ?_)); simp (implicitDefEqProofs := false) (maxSteps := 2000000) (disch := omega) only [go_sem]; (repeat' (refine hK _ ?_; clear hK hkp kp K)))))
  refine awp_loop (fun k : Nat => ⟨[(8, .r (.int .i64 k)), (7, .r (.int .i64 l.length)), (0, .ro t 5 (l.map eTB)), (1, .fn g caps)], [], 0⟩) (fun k => k ≤ l.length ∧ idxM p (l.drop k) k = idxM p l 0) (fun k => l.length - k) 0 ?_ ?_ ?_
  · simp
  · (refine embK hE [] rfl ?_ ?_ <;> simp [okM, okO, lk, ren, renL, renNd, by_, hren] <;> (try omega))
  intro k ⟨hk, hno⟩
  by_cases hk' : k < l.length
  · obtain ⟨x, hx⟩ : ∃ x, l[k]? = some x := ⟨l[k], by simp [hk']⟩
    have hd := drop_at hx
    rw [hd, idxM] at hno
    have hfx := hf E.G x
    simp only [eTB] at hfx
    (repeat' (first | refine awp_seq ?_ | refine awp_block ?_ | refine awp_skip ?_ | ((first | refine rR (fun K kp hK hkp => ?_) | refine cR hfx ?_); simp (implicitDefEqProofs := false) (maxSteps := 2000000) (disch := omega) only [go_sem, hx, eTB, hcap]; (repeat' (refine hK _ ?_; clear hK hkp kp K))) | ((refine awp_cond rfl (fun h => ?_) (fun h => ?_) <;> try simp only [ifs] at h) <;> (try (exfalso; omega))) | refine awp_ret ?_))
    · (refine retA_is (by (simp (implicitDefEqProofs := false) (maxSteps := 2000000) (disch := omega) only [go_sem, Go.Proofs.Tryz.results57]); rfl) ?_; refine eN hE ?_; simp [oneA, ren, renL])
      rw [← hno, if_pos h]
    · ((refine nextA (k + 1) ?_ ?_ ?_); rotate_left; (· (try dsimp only); (omega)); (· (refine embK hE [] rfl ?_ ?_ <;> simp [okM, okO, lk, ren, renL, renNd, by_, hren] <;> (try omega))))
      exact ⟨by omega, by rw [← hno, if_neg (by simp [h])]⟩
  · (repeat' (first | refine awp_seq ?_ | refine awp_exit ?_ | ((refine rR (fun K kp hK hkp => ?_)); simp (implicitDefEqProofs := false) (maxSteps := 2000000) (disch := omega) only [go_sem]; (repeat' (refine hK _ ?_; clear hK hkp kp K))) | ((refine awp_cond rfl (fun h => ?_) (fun h => ?_) <;> try simp only [ifs] at h) <;> (try (exfalso; omega))) | refine awp_ret ?_))
    (refine retA_is (by (simp (implicitDefEqProofs := false) (maxSteps := 2000000) (disch := omega) only [go_sem, Go.Proofs.Tryz.results57]); rfl) ?_; refine eN hE ?_; simp [oneA, ren, renL])
    rw [← hno, List.drop_of_length_le (by omega)]; rfl
def sameT (s : ByteArray) (x : TB) : Bool := x.nm.toList == s.toList
theorem find1_con (u : Bool) (s : ByteArray) (G : List (Nat × List Value)) (x : TB) : Con Go.Proofs.Tryz.prog G 89 [.agg (eTB x), .re u [.r (.string s)] 0] [] 0 (Is (.r (.bool (sameT s x))) [] 0) No := by
  refine con_of_awp Go.Proofs.Tryz.func89 rfl (by kernel_rfl) (of_decide_eq_true (by kernel_rfl)) ?_; intro E hG hE; subst hG; simp only [ent]
  (repeat' (first | refine awp_seq ?_ | ((refine rR (fun K kp hK hkp => ?_)); simp (implicitDefEqProofs := false) (maxSteps := 2000000) (disch := omega) only [go_sem, eTB]; (repeat' (refine hK _ ?_; clear hK hkp kp K))) | refine awp_ret ?_))
  (refine retA_is (by (simp (implicitDefEqProofs := false) (maxSteps := 2000000) (disch := omega) only [go_sem, Go.Proofs.Tryz.results89, sameT]); rfl) ?_; refine eN hE ?_; simp [oneA, ren, renL, sameT])
theorem findB_con (G : List (Nat × List Value)) (t : Bool) (l : List TB) (s : ByteArray) (hl : l.length ≤ 1048576) : Con Go.Proofs.Tryz.prog G 32 [.ro t 5 (l.map eTB), .r (.string s)] [] 0 (Is (.r (.int .i64 (idxM (sameT s) l 0))) [] 0) No := by
  have ic := indexFuncT_con G t l 89 [.re false [.r (.string s)] 0] (sameT s) hl (fun st => by simp [borL, bor]) (fun f => by simp [renL, ren]) (fun G x => find1_con false s G x)
  refine con_of_awp Go.Proofs.Tryz.func32 rfl (by kernel_rfl) (of_decide_eq_true (by kernel_rfl)) ?_; intro E hG hE; subst hG; simp only [ent]
  (repeat' (first | refine awp_seq ?_ | ((first | refine rR (fun K kp hK hkp => ?_) | refine cR ic ?_); simp (implicitDefEqProofs := false) (maxSteps := 2000000) (disch := omega) only [go_sem]; (repeat' (refine hK _ ?_; clear hK hkp kp K))) | refine awp_ret ?_))
  (refine retA_is (by (simp (implicitDefEqProofs := false) (maxSteps := 2000000) (disch := omega) only [go_sem, Go.Proofs.Tryz.results32]); rfl) ?_; refine eN hE ?_; simp [oneA, ren, renL])
set_option maxHeartbeats 4000000 in
theorem tableAt_con (G : List (Nat × List Value)) (t : Bool) (l : List TB) (s : ByteArray) (hl : l.length ≤ 1048576) : Con Go.Proofs.Tryz.prog G 34 [.ro t 5 (l.map eTB), .r (.string s)] [] 0 (Is (.r (.int .i64 (idxM (sameT s) l 0))) [] 0) No := by
  refine con_of_awp Go.Proofs.Tryz.func34 rfl (by kernel_rfl) (of_decide_eq_true (by kernel_rfl)) ?_; intro E hG hE; subst hG; simp only [ent]
  (repeat' (first | refine awp_seq ?_ | refine awp_block ?_ | ((refine rR (fun K kp hK hkp => ?_)); simp (implicitDefEqProofs := false) (maxSteps := 2000000) (disch := omega) only [go_sem]; (repeat' (refine hK _ ?_; clear hK hkp kp K)))))
  refine awp_loop (fun k : Nat => ⟨[(5, .r (.int .i64 k)), (0, .ro t 5 (l.map eTB)), (1, .r (.string s))], [], 0⟩) (fun k => k ≤ l.length ∧ idxM (sameT s) (l.drop k) k = idxM (sameT s) l 0) (fun k => l.length - k) 0 ?_ ?_ ?_
  · simp
  · (refine embK hE [] rfl ?_ ?_ <;> simp [okM, okO, lk, ren, renL, renNd, by_] <;> (try omega))
  intro k ⟨hk, hno⟩
  by_cases hk' : k < l.length
  · have zk : ((k : Int) < (l.length : Int)) = True := eq_true (by omega)
    obtain ⟨x, hx⟩ : ∃ x, l[k]? = some x := ⟨l[k], by simp [hk']⟩
    rw [drop_at hx, idxM] at hno
    cases hs : sameT s x
    · rw [if_neg (by simp [hs])] at hno
      have hs' : (x.nm.toList == s.toList) = false := hs
      (repeat' (first | refine awp_seq ?_ | refine awp_block ?_ | refine awp_skip ?_ | ((refine rR (fun K kp hK hkp => ?_)); simp (implicitDefEqProofs := false) (maxSteps := 2000000) (disch := omega) only [go_sem, zk, hx, eTB, hs']; (repeat' (refine hK _ ?_; clear hK hkp kp K))) | refine awp_cond_t rfl ?_ | refine awp_cond_f rfl ?_))
      ((refine nextA (k + 1) ?_ ?_ ?_); rotate_left; (· (try dsimp only); (omega)); (· (refine embK hE [] rfl ?_ ?_ <;> simp [okM, okO, lk, ren, renL, renNd, by_] <;> (try omega))))
      exact ⟨by omega, hno⟩
    · rw [if_pos hs] at hno
      have hs' : (x.nm.toList == s.toList) = true := hs
      (repeat' (first | refine awp_seq ?_ | refine awp_block ?_ | refine awp_skip ?_ | ((refine rR (fun K kp hK hkp => ?_)); simp (implicitDefEqProofs := false) (maxSteps := 2000000) (disch := omega) only [go_sem, zk, hx, eTB, hs']; (repeat' (refine hK _ ?_; clear hK hkp kp K))) | refine awp_cond_t rfl ?_ | refine awp_ret ?_))
      (refine retA_is (by (simp (implicitDefEqProofs := false) (maxSteps := 2000000) (disch := omega) only [go_sem, Go.Proofs.Tryz.results34]); rfl) ?_; refine eN hE ?_; simp [oneA, ren, renL])
      exact hno
  · have zk : ((k : Int) < (l.length : Int)) = False := eq_false (by omega)
    (repeat' (first | refine awp_seq ?_ | refine awp_exit ?_ | ((refine rR (fun K kp hK hkp => ?_)); simp (implicitDefEqProofs := false) (maxSteps := 2000000) (disch := omega) only [go_sem, zk]; (repeat' (refine hK _ ?_; clear hK hkp kp K))) | refine awp_cond_f rfl ?_ | refine awp_ret ?_))
    (refine retA_is (by (simp (implicitDefEqProofs := false) (maxSteps := 2000000) (disch := omega) only [go_sem, Go.Proofs.Tryz.results34]); rfl) ?_; refine eN hE ?_; simp [oneA, ren, renL])
    rw [← hno, List.drop_of_length_le (by omega)]; rfl
theorem baseFrom_step {l : List TB} {k : Nat} {t : TB} (h : l[k]? = some t) : baseFrom (l.take k) (l.drop k) = if tabM t = false then 11 else if (l.take k).any (sameT t.nm) then 11 else baseFrom (l.take (k + 1)) (l.drop (k + 1)) := by
  rw [drop_at h, baseFrom, List.take_add_one, h]; rfl
set_option maxHeartbeats 4000000 in
theorem checkB_con {G : List (Nat × List Value)} (T : Tabs G) (HR : RepCon G) (l : List TB) (ho : okBs l) : Con Go.Proofs.Tryz.prog G 9 [.agg [.ro true 5 (l.map eTB)]] [] 0 (Is (.r (.int .i64 (baseM l))) [] 0) No := by
  rw [baseM]
  refine con_of_awp Go.Proofs.Tryz.func9 rfl (by kernel_rfl) (of_decide_eq_true (by kernel_rfl)) ?_; intro E hG hE; subst hG; simp only [ent]
  by_cases h4 : 4 < l.length
  · have z4 : ((l.length : Int) > 4) = True := eq_true (by omega)
    rw [if_pos h4]
    (repeat' (first | refine awp_seq ?_ | ((refine rR (fun K kp hK hkp => ?_)); simp (implicitDefEqProofs := false) (maxSteps := 2000000) (disch := omega) only [go_sem, z4]; (repeat' (refine hK _ ?_; clear hK hkp kp K))) | refine awp_cond_t rfl ?_ | refine awp_ret ?_))
    (refine retA_is (by (simp (implicitDefEqProofs := false) (maxSteps := 2000000) (disch := omega) only [go_sem, Go.Proofs.Tryz.results9]); rfl) ?_; refine eN hE ?_; simp [oneA, ren, renL])
  have z4 : ((l.length : Int) > 4) = False := eq_false (by omega)
  rw [if_neg h4]
  obtain ⟨R, hR⟩ : ∃ R, baseFrom [] l = R := ⟨_, rfl⟩
  rw [hR]
  (repeat' (first | refine awp_seq ?_ | refine awp_block ?_ | refine awp_skip ?_ | ((refine rR (fun K kp hK hkp => ?_)); simp (implicitDefEqProofs := false) (maxSteps := 2000000) (disch := omega) only [go_sem, z4]; (repeat' (refine hK _ ?_; clear hK hkp kp K))) | refine awp_cond_f rfl ?_))
  refine awp_loop (fun k : Nat => ⟨[(12, .r (.int .i64 k)), (11, .r (.int .i64 l.length)), (10, .ro true 5 (l.map eTB)), (1, .p 0 0 0)], [(0, .box 24 [.ro true 5 (l.map eTB)])], 1⟩) (fun k => k ≤ l.length ∧ baseFrom (l.take k) (l.drop k) = R) (fun k => l.length - k) 0 ?_ ?_ ?_
  · exact ⟨Nat.zero_le _, hR⟩
  · (refine embK hE [0] rfl ?_ ?_ <;> simp [okM, okO, lk, ren, renL, renNd, by_] <;> (try omega))
  rintro k ⟨hk, hno⟩
  by_cases hlt : k < l.length
  · have zk : ((k : Int) < (l.length : Int)) = True := eq_true (by omega)
    have zk2 : ((k : Int) ≤ (l.length : Int)) = True := eq_true (by omega)
    obtain ⟨x, hx⟩ : ∃ x, l[k]? = some x := ⟨l[k], by simp [hlt]⟩
    rw [baseFrom_step hx] at hno
    have tc := table_con T HR x (ho.2 x (List.mem_of_getElem? hx))
    simp only [eTB] at tc
    have fc := findB_con E.G true (l.take k) x.nm (by rw [List.length_take]; omega)
    have hany := idxM_any (sameT x.nm) (l.take k) 0
    rw [List.map_take] at fc
    cases ht : tabM x
    · rw [if_pos ht] at hno
      rw [ht] at tc
      rw [← hno]
      (repeat' (first | refine awp_seq ?_ | refine awp_block ?_ | refine awp_skip ?_ | ((first | refine rR (fun K kp hK hkp => ?_) | refine rD (id := 6) mixed 13 [0,1,2,3,4,5,6,7,8,9,10,11,12] (fun K kp hK hkp => ?_) | refine cD tc ?_); simp (implicitDefEqProofs := false) (maxSteps := 2000000) (disch := omega) only [go_sem, zk, zk2, hx, eTB]; (repeat' (refine hK _ ?_; clear hK hkp kp K))) | refine awp_cond_t rfl ?_ | refine awp_ret ?_))
      (refine retA_is (by (simp (implicitDefEqProofs := false) (maxSteps := 2000000) (disch := omega) only [go_sem, Go.Proofs.Tryz.results9]); rfl) ?_; refine eN hE ?_; simp [oneA, ren, renL])
    · rw [if_neg (by simp [ht])] at hno
      rw [ht] at tc
      cases ha : (l.take k).any (sameT x.nm)
      · rw [ha] at hno hany
        have hno : baseFrom (l.take (k + 1)) (l.drop (k + 1)) = R := by simpa using hno
        (repeat' (first | refine awp_seq ?_ | refine awp_block ?_ | refine awp_skip ?_ | ((first | refine rR (fun K kp hK hkp => ?_) | refine rD (id := 6) mixed 13 [0,1,2,3,4,5,6,7,8,9,10,11,12] (fun K kp hK hkp => ?_) | refine cD tc ?_ | refine cD fc ?_); simp (implicitDefEqProofs := false) (maxSteps := 2000000) (disch := omega) only [go_sem, zk, zk2, hx, eTB, hany]; (repeat' (refine hK _ ?_; clear hK hkp kp K))) | refine awp_cond_t rfl ?_ | refine awp_cond_f rfl ?_))
        ((refine nextA (k + 1) ?_ ?_ ?_); rotate_left; (· (try dsimp only); (omega)); (· (refine embK hE [0] rfl ?_ ?_ <;> simp [okM, okO, lk, ren, renL, renNd, by_] <;> (try omega))))
        exact ⟨by omega, hno⟩
      · rw [ha] at hno hany
        have hno : 11 = R := by simpa using hno
        rw [← hno]
        (repeat' (first | refine awp_seq ?_ | refine awp_block ?_ | refine awp_skip ?_ | ((first | refine rR (fun K kp hK hkp => ?_) | refine rD (id := 6) mixed 13 [0,1,2,3,4,5,6,7,8,9,10,11,12] (fun K kp hK hkp => ?_) | refine cD tc ?_ | refine cD fc ?_); simp (implicitDefEqProofs := false) (maxSteps := 2000000) (disch := omega) only [go_sem, zk, zk2, hx, eTB, hany]; (repeat' (refine hK _ ?_; clear hK hkp kp K))) | refine awp_cond_t rfl ?_ | refine awp_ret ?_))
        (refine retA_is (by (simp (implicitDefEqProofs := false) (maxSteps := 2000000) (disch := omega) only [go_sem, Go.Proofs.Tryz.results9]); rfl) ?_; refine eN hE ?_; simp [oneA, ren, renL])
  · have zk : ((k : Int) < (l.length : Int)) = False := eq_false (by omega)
    rw [List.drop_of_length_le (by omega), baseFrom] at hno
    rw [← hno]
    (repeat' (first | refine awp_seq ?_ | refine awp_exit ?_ | ((refine rR (fun K kp hK hkp => ?_)); simp (implicitDefEqProofs := false) (maxSteps := 2000000) (disch := omega) only [go_sem, zk]; (repeat' (refine hK _ ?_; clear hK hkp kp K))) | refine awp_cond_f rfl ?_ | refine awp_ret ?_))
    (refine retA_is (by (simp (implicitDefEqProofs := false) (maxSteps := 2000000) (disch := omega) only [go_sem, Go.Proofs.Tryz.results9]); rfl) ?_; refine eN hE ?_; simp [oneA, ren, renL])
end Go.AM
namespace Go.AM
open Go Go.RowKit
open Go.Proofs.YtekljlenlbhmcaaGreatDoor (nameM vcheck)
attribute [local irreducible] AWP retA
theorem any_take {α : Type} {l : List α} {j : Nat} {x : α} (p : α → Bool) (h : l[j]? = some x) : (l.take (j + 1)).any p = ((l.take j).any p || p x) := by
  rw [List.take_add_one, h]; simp
set_option maxHeartbeats 4000000 in
theorem tableFault_con (G : List (Nat × List Value)) (b : TB) (ho : okTB b) : Con Go.Proofs.Tryz.prog G 33 [.agg (eTB b)] [] 0 (Is (.r (.bool (!tabM b))) [] 0) No := by
  have nc := nameFault_con G b.nm ho.nm
  have cc := colsFault_con G b.cols ho.cl ho.cs
  have kc := treeFault_con G true b.ps b.root (okPs_of ho.ps) ho.ps.1
  rw [← chk_flt] at kc
  have hrl := ho.rl
  rw [tabM]
  refine con_of_awp Go.Proofs.Tryz.func33 rfl (by kernel_rfl) (of_decide_eq_true (by kernel_rfl)) ?_; intro E hG hE; subst hG; simp only [ent]
  by_cases h1 : nameM b.nm = 0
  rotate_left
  · have z1 : (nameM b.nm != 0) = true := by simp [h1]
    rw [decide_eq_false h1]
    (repeat' (first | refine awp_seq ?_ | ((first | refine rR (fun K kp hK hkp => ?_) | refine cR nc ?_); simp (implicitDefEqProofs := false) (maxSteps := 2000000) (disch := omega) only [go_sem, z1, eTB]; (repeat' (refine hK _ ?_; clear hK hkp kp K))) | refine awp_cond_t rfl ?_ | refine awp_ret ?_))
    (refine retA_is (by (simp (implicitDefEqProofs := false) (maxSteps := 2000000) (disch := omega) only [go_sem, Go.Proofs.Tryz.results33]); rfl) ?_; refine eN hE ?_; simp [oneA, ren, renL])
  have z1 : (nameM b.nm != 0) = false := by simp [h1]
  by_cases h2 : colsM b.cols = 0
  rotate_left
  · have z2 : (colsM b.cols != 0) = true := by simp [h2]
    rw [decide_eq_true h1, decide_eq_false h2]
    (repeat' (first | refine awp_seq ?_ | ((first | refine rR (fun K kp hK hkp => ?_) | refine cR nc ?_ | refine cR cc ?_); simp (implicitDefEqProofs := false) (maxSteps := 2000000) (disch := omega) only [go_sem, z1, z2, eTB]; (repeat' (refine hK _ ?_; clear hK hkp kp K))) | refine awp_cond_t rfl ?_ | refine awp_ret ?_))
    (refine retA_is (by (simp (implicitDefEqProofs := false) (maxSteps := 2000000) (disch := omega) only [go_sem, Go.Proofs.Tryz.results33]); rfl) ?_; refine eN hE ?_; simp [oneA, ren, renL])
  have z2 : (colsM b.cols != 0) = false := by simp [h2]
  by_cases h3 : b.rows.length ≤ 40
  rotate_left
  · have z3 : ((b.rows.length : Int) > 40) = True := eq_true (by omega)
    rw [decide_eq_true h1, decide_eq_true h2, decide_eq_false h3]
    (repeat' (first | refine awp_seq ?_ | ((first | refine rR (fun K kp hK hkp => ?_) | refine cR nc ?_ | refine cR cc ?_); simp (implicitDefEqProofs := false) (maxSteps := 2000000) (disch := omega) only [go_sem, z1, z2, z3, eTB]; (repeat' (refine hK _ ?_; clear hK hkp kp K))) | refine awp_cond_t rfl ?_ | refine awp_ret ?_))
    (refine retA_is (by (simp (implicitDefEqProofs := false) (maxSteps := 2000000) (disch := omega) only [go_sem, Go.Proofs.Tryz.results33]); rfl) ?_; refine eN hE ?_; simp [oneA, ren, renL])
  have z3 : ((b.rows.length : Int) > 40) = False := eq_false (by omega)
  by_cases h4 : chkR b.ps b.root = 0
  rotate_left
  · have z4 : (chkR b.ps b.root != 0) = true := by simp [h4]
    rw [decide_eq_true h1, decide_eq_true h2, decide_eq_true h3, decide_eq_false h4]
    (repeat' (first | refine awp_seq ?_ | ((first | refine rR (fun K kp hK hkp => ?_) | refine cR nc ?_ | refine cR cc ?_ | refine cR kc ?_); simp (implicitDefEqProofs := false) (maxSteps := 2000000) (disch := omega) only [go_sem, z1, z2, z3, z4, eTB]; (repeat' (refine hK _ ?_; clear hK hkp kp K))) | refine awp_cond_t rfl ?_ | refine awp_ret ?_))
    (refine retA_is (by (simp (implicitDefEqProofs := false) (maxSteps := 2000000) (disch := omega) only [go_sem, Go.Proofs.Tryz.results33]); rfl) ?_; refine eN hE ?_; simp [oneA, ren, renL])
  have z4 : (chkR b.ps b.root != 0) = false := by simp [h4]
  rw [decide_eq_true h1, decide_eq_true h2, decide_eq_true h3, decide_eq_true h4]
  obtain ⟨R, hR⟩ : ∃ R, (rowsG (entsOf b.ps b.root) b.cols 0 b.rows && decide (manyR b.rows = (entsOf b.ps b.root).length)) = R := ⟨_, rfl⟩
  simp only [Bool.true_and, hR]
  obtain ⟨r0, d0, hr0, hT⟩ := chk_root h4
  have hEn : entsOf b.ps b.root = entsF b.ps d0 r0 := by rw [hr0, entsOf_eq hT]
  have hEl : (entsOf b.ps b.root).length ≤ 16000 := by
    have := flatE_len hT.ok (lvl b.ps d0 [r0])
    have := hT.many
    rw [hEn, entsF]; omega
  have hsr : SrtE (entsOf b.ps b.root) := by rw [hEn]; exact ents_srt hT.ok d0 r0 [] [] hT.good
  have ec := entriesOf_con E.G true hT ho.ps
  rw [← hEn, ← hr0] at ec
  generalize entsOf b.ps b.root = en at *
  (repeat' (first | refine awp_seq ?_ | refine awp_block ?_ | refine awp_skip ?_ | ((first | refine rR (fun K kp hK hkp => ?_) | refine cR nc ?_ | refine cR cc ?_ | refine cR kc ?_ | refine cR ec ?_); simp (implicitDefEqProofs := false) (maxSteps := 2000000) (disch := omega) only [go_sem, z1, z2, z3, z4, eTB]; (repeat' (refine hK _ ?_; clear hK hkp kp K))) | refine awp_cond_f rfl ?_))
  clear nc cc kc z1 z2 z3 z4 h1 h2 ec hEn
  refine awp_loop (fun k : Nat => ⟨[(5, .r (.int .i64 k)), (4, .r (.int .i64 (manyR (b.rows.take k) : Nat))), (3, .ro true 2 (en.map eEt)), (1, .p 0 0 0)], [(0, .box 35 (eTB b))], 1⟩) (fun k => k ≤ b.rows.length ∧ (rowsG en b.cols k (b.rows.drop k) && decide (manyR b.rows = en.length)) = R) (fun k => b.rows.length - k) 0 ?_ ?_ ?_
  · exact ⟨Nat.zero_le _, hR⟩
  · (refine embK hE [0] rfl ?_ ?_ <;> simp [okM, okO, lk, ren, renL, renNd, by_, eTB, manyR] <;> (try omega))
  rintro k ⟨hk, hno⟩
  have hm := manyR_le (b.rows.take k)
  have hm2 : (b.rows.take k).length ≤ k := by rw [List.length_take]; omega
  by_cases hlt : k < b.rows.length
  · have zk : ((k : Int) < (b.rows.length : Int)) = True := eq_true (by omega)
    obtain ⟨x, hx⟩ : ∃ x, b.rows[k]? = some x := ⟨_, List.getElem?_eq_getElem hlt⟩
    have hmt := manyR_take hx
    rw [rowsG_step hx] at hno
    by_cases hx0 : x.length = 0
    · have zx : ((x.length : Int) == 0) = true := by simp [hx0]
      rw [if_pos hx0] at hno hmt
      (repeat' (first | refine awp_seq ?_ | refine awp_block ?_ | refine awp_skip ?_ | refine awp_exit ?_ | ((refine rR (fun K kp hK hkp => ?_)); simp (implicitDefEqProofs := false) (maxSteps := 2000000) (disch := omega) only [go_sem, zk, hx, eTB, eRw, zx]; (repeat' (refine hK _ ?_; clear hK hkp kp K))) | refine awp_cond_t rfl ?_))
      ((refine nextA (k + 1) ?_ ?_ ?_); rotate_left; (· (try dsimp only); (omega)); (· (refine embK hE [0] rfl ?_ ?_ <;> simp [okM, okO, lk, ren, renL, renNd, by_, eTB, hmt] <;> (try omega))))
      exact ⟨by omega, hno⟩
    · have zx : ((x.length : Int) == 0) = false := by rw [beq_eq_false_iff_ne]; omega
      rw [if_neg hx0] at hno hmt
      obtain ⟨ho1, ho2⟩ := ho.rs x (List.mem_of_getElem? hx)
      have rc := rowFault_con (G := E.G) b.cols x ho.cl ho1 ho.cs (fun v hv => (ho2 v hv).1)
      have e1 : ((manyR (b.rows.take k) : Nat) : Int) + 1 = ((manyR (b.rows.take k) + 1 : Nat) : Int) := by omega
      by_cases hr : rowsM b.cols x = 0
      · obtain ⟨v, s, hvs, he, hkb⟩ := keyR_ok hr
        have key := keyQ_con E.G true x (keyR x) ho1 (by omega) ho2 he
        have hany := any_found hsr (k : Int) (keyR x)
        have hG : rowG en b.cols k x = decide (foundM en (keyR x) = ((k : Int), 0)) := by rw [rowG, decide_eq_true hr]; rfl
        rw [hG, ← hany] at hno
        have zr : (rowsM b.cols x != 0) = false := by simp [hr]
        generalize keyR x = ky at *
        clear hG hany he hkb hvs
        (repeat' (first | refine awp_seq ?_ | refine awp_block ?_ | refine awp_skip ?_ | ((first | refine rR (fun K kp hK hkp => ?_) | refine rD (id := 10) mixed 9 [0,1,2,3,4,5,6,7,8] (fun K kp hK hkp => ?_) | refine cD rc ?_ | refine cR key ?_); simp (implicitDefEqProofs := false) (maxSteps := 2000000) (disch := omega) only [go_sem, zk, hx, eTB, eRw, zx, zr, e1]; (repeat' (refine hK _ ?_; clear hK hkp kp K))) | refine awp_cond_t rfl ?_ | refine awp_cond_f rfl ?_))
        refine awp_loop (fun j : Nat => ⟨[(8, .r (.int .i64 j)), (7, .r (.bool ((en.take j).any fun e => (e.2 == (k : Int)) && (e.1 == ky)))), (6, .ro true 1 (ky.map eByte)), (5, .r (.int .i64 k)), (4, .r (.int .i64 (manyR (b.rows.take k) + 1 : Nat))), (3, .ro true 2 (en.map eEt)), (1, .p 0 0 0)], [(0, .box 35 (eTB b))], 1⟩) (fun j => j ≤ en.length) (fun j => en.length - j) 0 ?_ ?_ ?_
        · exact Nat.zero_le _
        · (refine embK hE [0] rfl ?_ ?_ <;> simp [okM, okO, lk, ren, renL, renNd, by_, eTB] <;> (try omega))
        intro j hj
        by_cases hjl : j < en.length
        · have zj : ((j : Int) < (en.length : Int)) = True := eq_true (by omega)
          obtain ⟨y, hy⟩ : ∃ y, en[j]? = some y := ⟨_, List.getElem?_eq_getElem hjl⟩
          have hat := any_take (fun e : Et => (e.2 == (k : Int)) && (e.1 == ky)) hy
          have sk := sKy_con E.G true true y.1 ky
          cases ha : (en.take j).any fun e => (e.2 == (k : Int)) && (e.1 == ky)
          · rw [ha] at hat
            cases h1 : (y.2 == (k : Int))
            · rw [h1] at hat
              (repeat' (first | refine awp_seq ?_ | refine awp_block ?_ | refine awp_skip ?_ | ((refine rR (fun K kp hK hkp => ?_)); simp (implicitDefEqProofs := false) (maxSteps := 2000000) (disch := omega) only [go_sem, zj, hy, eEt, h1]; (repeat' (refine hK _ ?_; clear hK hkp kp K))) | refine awp_cond_t rfl ?_))
              ((refine nextA (j + 1) ?_ ?_ ?_); rotate_left; (· (try dsimp only); (omega)); (· (refine embK hE [0] rfl ?_ ?_ <;> simp [okM, okO, lk, ren, renL, renNd, by_, eTB, hat] <;> (try omega))))
              omega
            · rw [h1] at hat
              (repeat' (first | refine awp_seq ?_ | refine awp_block ?_ | refine awp_skip ?_ | ((first | refine rR (fun K kp hK hkp => ?_) | refine cR sk ?_); simp (implicitDefEqProofs := false) (maxSteps := 2000000) (disch := omega) only [go_sem, zj, hy, eEt, h1]; (repeat' (refine hK _ ?_; clear hK hkp kp K))) | refine awp_cond_t rfl ?_))
              ((refine nextA (j + 1) ?_ ?_ ?_); rotate_left; (· (try dsimp only); (omega)); (· (refine embK hE [0] rfl ?_ ?_ <;> simp [okM, okO, lk, ren, renL, renNd, by_, eTB, hat] <;> (try omega))))
              omega
          · rw [ha] at hat
            (repeat' (first | refine awp_seq ?_ | refine awp_block ?_ | refine awp_skip ?_ | ((refine rR (fun K kp hK hkp => ?_)); simp (implicitDefEqProofs := false) (maxSteps := 2000000) (disch := omega) only [go_sem, zj, hy, eEt]; (repeat' (refine hK _ ?_; clear hK hkp kp K))) | refine awp_cond_t rfl ?_))
            ((refine nextA (j + 1) ?_ ?_ ?_); rotate_left; (· (try dsimp only); (omega)); (· (refine embK hE [0] rfl ?_ ?_ <;> simp [okM, okO, lk, ren, renL, renNd, by_, eTB, hat] <;> (try omega))))
            omega
        · have zj : ((j : Int) < (en.length : Int)) = False := eq_false (by omega)
          obtain rfl : j = en.length := by omega
          rw [List.take_length]
          cases ha : en.any fun e => (e.2 == (k : Int)) && (e.1 == ky)
          · rw [ha] at hno
            have hno : false = R := by simpa using hno
            rw [← hno]
            (repeat' (first | refine awp_seq ?_ | refine awp_exit ?_ | ((refine rR (fun K kp hK hkp => ?_)); simp (implicitDefEqProofs := false) (maxSteps := 2000000) (disch := omega) only [go_sem, zj]; (repeat' (refine hK _ ?_; clear hK hkp kp K))) | refine awp_cond_t rfl ?_ | refine awp_cond_f rfl ?_ | refine awp_ret ?_))
            (refine retA_is (by (simp (implicitDefEqProofs := false) (maxSteps := 2000000) (disch := omega) only [go_sem, Go.Proofs.Tryz.results33]); rfl) ?_; refine eN hE ?_; simp [oneA, ren, renL])
          · rw [ha, if_pos rfl] at hno
            (repeat' (first | refine awp_seq ?_ | refine awp_skip ?_ | refine awp_exit ?_ | ((refine rR (fun K kp hK hkp => ?_)); simp (implicitDefEqProofs := false) (maxSteps := 2000000) (disch := omega) only [go_sem, zj]; (repeat' (refine hK _ ?_; clear hK hkp kp K))) | refine awp_cond_f rfl ?_))
            ((refine nextA (k + 1) ?_ ?_ ?_); rotate_left; (· (try dsimp only); (omega)); (· (refine embK hE [0] rfl ?_ ?_ <;> simp [okM, okO, lk, ren, renL, renNd, by_, eTB, hmt] <;> (try omega))))
            exact ⟨by omega, hno⟩
      · have zr : (rowsM b.cols x != 0) = true := by simp [hr]
        have hG : rowG en b.cols k x = false := by rw [rowG, decide_eq_false hr]; rfl
        rw [hG] at hno
        have hno : false = R := by simpa using hno
        rw [← hno]
        (repeat' (first | refine awp_seq ?_ | refine awp_block ?_ | refine awp_skip ?_ | ((first | refine rR (fun K kp hK hkp => ?_) | refine rD (id := 10) mixed 9 [0,1,2,3,4,5,6,7,8] (fun K kp hK hkp => ?_) | refine cD rc ?_); simp (implicitDefEqProofs := false) (maxSteps := 2000000) (disch := omega) only [go_sem, zk, hx, eTB, eRw, zx, zr, e1]; (repeat' (refine hK _ ?_; clear hK hkp kp K))) | refine awp_cond_t rfl ?_ | refine awp_cond_f rfl ?_ | refine awp_ret ?_))
        (refine retA_is (by (simp (implicitDefEqProofs := false) (maxSteps := 2000000) (disch := omega) only [go_sem, Go.Proofs.Tryz.results33]); rfl) ?_; refine eN hE ?_; simp [oneA, ren, renL])
  · have zk : ((k : Int) < (b.rows.length : Int)) = False := eq_false (by omega)
    obtain rfl : k = b.rows.length := by omega
    have hno : decide (manyR b.rows = en.length) = R := by
      rw [← hno, List.drop_length, rowsG]; simp
    have hq : (((manyR b.rows : Nat) : Int) != (en.length : Int)) = !R := by
      rw [← hno, Bool.eq_iff_iff, bne_iff_ne, Bool.not_eq_true', decide_eq_false_iff_not]; omega
    rw [List.take_length]
    (repeat' (first | refine awp_seq ?_ | refine awp_exit ?_ | ((refine rR (fun K kp hK hkp => ?_)); simp (implicitDefEqProofs := false) (maxSteps := 2000000) (disch := omega) only [go_sem, zk, eTB, hq]; (repeat' (refine hK _ ?_; clear hK hkp kp K))) | refine awp_cond_f rfl ?_ | refine awp_ret ?_))
    (refine retA_is (by (simp (implicitDefEqProofs := false) (maxSteps := 2000000) (disch := omega) only [go_sem, Go.Proofs.Tryz.results33, hq]); rfl) ?_; refine eN hE ?_; simp [oneA, ren, renL, hq])
set_option maxHeartbeats 4000000 in
theorem baseFault_con (G : List (Nat × List Value)) (l : List TB) (ho : okBs l) : Con Go.Proofs.Tryz.prog G 11 [.agg [.ro true 5 (l.map eTB)]] [] 0 (Is (.r (.int .i64 (baseM l))) [] 0) No := by
  rw [baseM]
  refine con_of_awp Go.Proofs.Tryz.func11 rfl (by kernel_rfl) (of_decide_eq_true (by kernel_rfl)) ?_; intro E hG hE; subst hG; simp only [ent]
  by_cases h4 : 4 < l.length
  · have z4 : ((l.length : Int) > 4) = True := eq_true (by omega)
    rw [if_pos h4]
    (repeat' (first | refine awp_seq ?_ | ((refine rR (fun K kp hK hkp => ?_)); simp (implicitDefEqProofs := false) (maxSteps := 2000000) (disch := omega) only [go_sem, z4]; (repeat' (refine hK _ ?_; clear hK hkp kp K))) | refine awp_cond_t rfl ?_ | refine awp_ret ?_))
    (refine retA_is (by (simp (implicitDefEqProofs := false) (maxSteps := 2000000) (disch := omega) only [go_sem, Go.Proofs.Tryz.results11]); rfl) ?_; refine eN hE ?_; simp [oneA, ren, renL])
  have z4 : ((l.length : Int) > 4) = False := eq_false (by omega)
  rw [if_neg h4]
  obtain ⟨R, hR⟩ : ∃ R, baseFrom [] l = R := ⟨_, rfl⟩
  rw [hR]
  (repeat' (first | refine awp_seq ?_ | refine awp_block ?_ | refine awp_skip ?_ | ((refine rR (fun K kp hK hkp => ?_)); simp (implicitDefEqProofs := false) (maxSteps := 2000000) (disch := omega) only [go_sem, z4]; (repeat' (refine hK _ ?_; clear hK hkp kp K))) | refine awp_cond_f rfl ?_))
  refine awp_loop (fun k : Nat => ⟨[(3, .r (.int .i64 k)), (1, .p 0 0 0)], [(0, .box 24 [.ro true 5 (l.map eTB)])], 1⟩) (fun k => k ≤ l.length ∧ baseFrom (l.take k) (l.drop k) = R) (fun k => l.length - k) 0 ?_ ?_ ?_
  · exact ⟨Nat.zero_le _, hR⟩
  · (refine embK hE [0] rfl ?_ ?_ <;> simp [okM, okO, lk, ren, renL, renNd, by_] <;> (try omega))
  rintro k ⟨hk, hno⟩
  by_cases hlt : k < l.length
  · have zk : ((k : Int) < (l.length : Int)) = True := eq_true (by omega)
    have zk2 : ((k : Int) ≤ (l.length : Int)) = True := eq_true (by omega)
    obtain ⟨x, hx⟩ : ∃ x, l[k]? = some x := ⟨l[k], by simp [hlt]⟩
    rw [baseFrom_step hx] at hno
    have tc := tableFault_con E.G x (ho.2 x (List.mem_of_getElem? hx))
    simp only [eTB] at tc
    have fc := tableAt_con E.G true (l.take k) x.nm (by rw [List.length_take]; omega)
    have hany := idxM_any (sameT x.nm) (l.take k) 0
    rw [List.map_take] at fc
    cases ht : tabM x
    · rw [if_pos ht] at hno
      rw [ht] at tc
      rw [← hno]
      (repeat' (first | refine awp_seq ?_ | refine awp_block ?_ | refine awp_skip ?_ | ((first | refine rR (fun K kp hK hkp => ?_) | refine rD (id := 6) mixed 20 [0,1,2,3,4,5,6,7,8,9,10,11,12,13,14,15,16,17,18,19] (fun K kp hK hkp => ?_) | refine cD tc ?_); simp (implicitDefEqProofs := false) (maxSteps := 2000000) (disch := omega) only [go_sem, zk, zk2, hx, eTB]; (repeat' (refine hK _ ?_; clear hK hkp kp K))) | refine awp_cond_t rfl ?_ | refine awp_ret ?_))
      (refine retA_is (by (simp (implicitDefEqProofs := false) (maxSteps := 2000000) (disch := omega) only [go_sem, Go.Proofs.Tryz.results11]); rfl) ?_; refine eN hE ?_; simp [oneA, ren, renL])
    · rw [if_neg (by simp [ht])] at hno
      rw [ht] at tc
      cases ha : (l.take k).any (sameT x.nm)
      · rw [ha] at hno hany
        have hno : baseFrom (l.take (k + 1)) (l.drop (k + 1)) = R := by simpa using hno
        (repeat' (first | refine awp_seq ?_ | refine awp_block ?_ | refine awp_skip ?_ | ((first | refine rR (fun K kp hK hkp => ?_) | refine rD (id := 6) mixed 20 [0,1,2,3,4,5,6,7,8,9,10,11,12,13,14,15,16,17,18,19] (fun K kp hK hkp => ?_) | refine cD tc ?_ | refine cD fc ?_); simp (implicitDefEqProofs := false) (maxSteps := 2000000) (disch := omega) only [go_sem, zk, zk2, hx, eTB, hany]; (repeat' (refine hK _ ?_; clear hK hkp kp K))) | refine awp_cond_t rfl ?_ | refine awp_cond_f rfl ?_))
        ((refine nextA (k + 1) ?_ ?_ ?_); rotate_left; (· (try dsimp only); (omega)); (· (refine embK hE [0] rfl ?_ ?_ <;> simp [okM, okO, lk, ren, renL, renNd, by_] <;> (try omega))))
        exact ⟨by omega, hno⟩
      · rw [ha] at hno hany
        have hno : 11 = R := by simpa using hno
        rw [← hno]
        (repeat' (first | refine awp_seq ?_ | refine awp_block ?_ | refine awp_skip ?_ | ((first | refine rR (fun K kp hK hkp => ?_) | refine rD (id := 6) mixed 20 [0,1,2,3,4,5,6,7,8,9,10,11,12,13,14,15,16,17,18,19] (fun K kp hK hkp => ?_) | refine cD tc ?_ | refine cD fc ?_); simp (implicitDefEqProofs := false) (maxSteps := 2000000) (disch := omega) only [go_sem, zk, zk2, hx, eTB, hany]; (repeat' (refine hK _ ?_; clear hK hkp kp K))) | refine awp_cond_t rfl ?_ | refine awp_ret ?_))
        (refine retA_is (by (simp (implicitDefEqProofs := false) (maxSteps := 2000000) (disch := omega) only [go_sem, Go.Proofs.Tryz.results11]); rfl) ?_; refine eN hE ?_; simp [oneA, ren, renL])
  · have zk : ((k : Int) < (l.length : Int)) = False := eq_false (by omega)
    rw [List.drop_of_length_le (by omega), baseFrom] at hno
    rw [← hno]
    (repeat' (first | refine awp_seq ?_ | refine awp_exit ?_ | ((refine rR (fun K kp hK hkp => ?_)); simp (implicitDefEqProofs := false) (maxSteps := 2000000) (disch := omega) only [go_sem, zk]; (repeat' (refine hK _ ?_; clear hK hkp kp K))) | refine awp_cond_f rfl ?_ | refine awp_ret ?_))
    (refine retA_is (by (simp (implicitDefEqProofs := false) (maxSteps := 2000000) (disch := omega) only [go_sem, Go.Proofs.Tryz.results11]); rfl) ?_; refine eN hE ?_; simp [oneA, ren, renL])
theorem lawBaseChecks_con {G : List (Nat × List Value)} (T : Tabs G) (HR : RepCon G) (l : List TB) (ho : okBs l) : Con Go.Proofs.Tryz.prog G 3 [.agg [.ro true 5 (l.map eTB)]] [] 0 (Is (.r (.bool true)) [] 0) No := by
  have bc := baseCopy_con G l ho
  have cc := checkB_con T HR l ho
  have fc := baseFault_con G l ho
  refine con_of_awp Go.Proofs.Tryz.func3 rfl (by kernel_rfl) (of_decide_eq_true (by kernel_rfl)) ?_; intro E hG hE; subst hG; simp only [ent]
  (repeat' (first | refine awp_seq ?_ | ((first | refine rR (fun K kp hK hkp => ?_) | refine cR bc ?_ | refine cR cc ?_ | refine cR fc ?_); simp (implicitDefEqProofs := false) (maxSteps := 2000000) (disch := omega) only [go_sem, beq_self_eq_true]; (repeat' (refine hK _ ?_; clear hK hkp kp K))) | refine awp_ret ?_))
  (refine retA_is (by (simp (implicitDefEqProofs := false) (maxSteps := 2000000) (disch := omega) only [go_sem, Go.Proofs.Tryz.results3]); rfl) ?_; refine eN hE ?_; simp [oneA, ren, renL])
end Go.AM
namespace Go.AM
open Go Go.RowKit
open Go.Proofs.YtekljlenlbhmcaaGreatDoor (vcheck)
attribute [local irreducible] AWP retA
theorem sameV_self : ∀ l : List V, sameVs l l = true
  | [] => rfl
  | x :: r => by rw [sameVs, sameV_self r]; simp [sameV]
theorem sameValuesC_con (G : List (Nat × List Value)) (t u : Bool) (a b : List V) (ha : a.length ≤ 1048576) (hb : b.length ≤ 1048576) : Con Go.Proofs.Tryz.prog G 44 [.ro t 3 (a.map eV), .ro u 3 (b.map eV)] [] 0 (Is (.r (.bool (sameVs a b))) [] 0) No := by
  refine con_of_awp Go.Proofs.Tryz.func44 rfl (by kernel_rfl) (of_decide_eq_true (by kernel_rfl)) ?_; intro E hG hE; subst hG; simp only [ent]
  (repeat' (first | refine awp_seq ?_ | refine awp_block ?_ | refine awp_skip ?_ | ((refine rR (fun K kp hK hkp => ?_)); simp (implicitDefEqProofs := false) (maxSteps := 2000000) (disch := omega) only [go_sem]; (repeat' (refine hK _ ?_; clear hK hkp kp K))) | ((refine awp_cond rfl (fun h => ?_) (fun h => ?_) <;> try simp only [ifs] at h) <;> (try (exfalso; omega))) | refine awp_ret ?_))
  · (refine retA_is (by (simp (implicitDefEqProofs := false) (maxSteps := 2000000) (disch := omega) only [go_sem, Go.Proofs.Tryz.results44]); rfl) ?_; refine eN hE ?_; simp [oneA, ren, renL])
    cases hs : sameVs a b
    · rfl
    · exact (h (by rw [sameVs_len hs])).elim
  have hab : a.length = b.length := by omega
  refine awp_loop (fun k : Nat => ⟨[(5, .r (.int .i64 k)), (0, .ro t 3 (a.map eV)), (1, .ro u 3 (b.map eV))], [], 0⟩) (fun k => k ≤ a.length ∧ sameVs (a.drop k) (b.drop k) = sameVs a b) (fun k => a.length - k) 0 ?_ ?_ ?_
  · simp
  · (refine embK hE [] rfl ?_ ?_ <;> simp [okM, okO, lk, ren, renL, renNd, by_] <;> (try omega))
  intro k ⟨hk, hno⟩
  by_cases hk' : k < a.length
  · obtain ⟨x, hx⟩ : ∃ x, a[k]? = some x := ⟨a[k], by simp [hk']⟩
    obtain ⟨y, hy⟩ : ∃ x, b[k]? = some x := ⟨b[k]'(by omega), by simp⟩
    rw [drop_at hx, drop_at hy, sameVs] at hno
    (repeat' (first | refine awp_seq ?_ | refine awp_block ?_ | refine awp_skip ?_ | ((first | refine rR (fun K kp hK hkp => ?_) | refine rD (id := 6) mixed 9 [0,1,2,3,4,5,6,7,8] (fun K kp hK hkp => ?_)); simp (implicitDefEqProofs := false) (maxSteps := 2000000) (disch := omega) only [go_sem, hx, hy, eV]; (repeat' (refine hK _ ?_; clear hK hkp kp K))) | ((refine awp_cond rfl (fun h => ?_) (fun h => ?_) <;> try simp only [ifs] at h) <;> (try (exfalso; omega))) | refine awp_ret ?_))
    · (refine retA_is (by (simp (implicitDefEqProofs := false) (maxSteps := 2000000) (disch := omega) only [go_sem, Go.Proofs.Tryz.results44]); rfl) ?_; refine eN hE ?_; simp [oneA, ren, renL])
      rw [← hno]
      have h : sameV x y = false := Bool.eq_false_iff.2 (fun hh => by rw [sameV] at hh; rw [hh] at h; cases h)
      rw [h]; rfl
    · ((refine nextA (k + 1) ?_ ?_ ?_); rotate_left; (· (try dsimp only); (omega)); (· (refine embK hE [] rfl ?_ ?_ <;> simp [okM, okO, lk, ren, renL, renNd, by_] <;> (try omega))))
      have h : sameV x y = true := by
        rw [sameV]
        cases hh : (x.k == y.k && (x.n == y.n && x.s.toList == y.s.toList))
        · rw [hh] at h; cases h
        · rfl
      rw [h] at hno
      exact ⟨by omega, by simpa using hno⟩
  · (repeat' (first | refine awp_seq ?_ | refine awp_exit ?_ | ((refine rR (fun K kp hK hkp => ?_)); simp (implicitDefEqProofs := false) (maxSteps := 2000000) (disch := omega) only [go_sem]; (repeat' (refine hK _ ?_; clear hK hkp kp K))) | ((refine awp_cond rfl (fun h => ?_) (fun h => ?_) <;> try simp only [ifs] at h) <;> (try (exfalso; omega))) | refine awp_ret ?_))
    (refine retA_is (by (simp (implicitDefEqProofs := false) (maxSteps := 2000000) (disch := omega) only [go_sem, Go.Proofs.Tryz.results44]); rfl) ?_; refine eN hE ?_; simp [oneA, ren, renL])
    rw [← hno, List.drop_of_length_le (by omega), List.drop_of_length_le (by omega)]; rfl
theorem unb_nil : unb [] = some [] := rfl
end Go.AM
namespace Go.AM
open Go Go.RowKit
open Go.Proofs.YtekljlenlbhmcaaGreatDoor (nameM vcheck)
attribute [local irreducible] AWP retA
theorem nodup_leA {α : Type} [DecidableEq α] : ∀ {l m : List α}, l.Nodup → (∀ x ∈ l, x ∈ m) → l.length ≤ m.length
  | [], m, _, _ => Nat.zero_le _
  | x :: r, m, h, hm => by
    obtain ⟨h1, h2⟩ := List.nodup_cons.1 h
    have hx := hm x (by simp)
    have := nodup_leA (m := m.erase x) h2 fun y hy => (List.mem_erase_of_ne (fun e => h1 (by rw [← e]; exact hy))).2 (hm y (by simp [hy]))
    have hl := List.length_erase_of_mem hx
    have := List.length_pos_of_mem hx
    rw [List.length_cons]; omega
theorem nodup_all {α : Type} [DecidableEq α] {l m : List α} (h : l.Nodup) (hm : ∀ x ∈ l, x ∈ m) (hl : m.length ≤ l.length) : ∀ x ∈ m, x ∈ l := fun x hx => by
  by_cases hxl : x ∈ l
  · exact hxl
  · exfalso
    have := nodup_leA (m := m.erase x) h fun y hy => (List.mem_erase_of_ne (fun e => hxl (by rw [← e]; exact hy))).2 (hm y hy)
    have h2 := List.length_erase_of_mem hx
    have := List.length_pos_of_mem hx
    omega
def slotsF : Nat → List (List V) → List Int
  | _, [] => []
  | i, r :: s => if r.length = 0 then slotsF (i + 1) s else (i : Int) :: slotsF (i + 1) s
theorem slotsF_len : ∀ (i : Nat) (l : List (List V)), (slotsF i l).length = manyR l
  | _, [] => rfl
  | i, r :: s => by rw [slotsF, manyR]; split <;> simp [slotsF_len (i + 1) s]
theorem slotsF_mem : ∀ (i : Nat) (l : List (List V)) (x : Int), x ∈ slotsF i l → ∃ (k : Nat) (r : List V), x = ((i + k : Nat) : Int) ∧ l[k]? = some r ∧ r.length ≠ 0
  | _, [], x, h => by cases h
  | i, r :: s, x, h => by
    rw [slotsF] at h
    split at h
    · obtain ⟨k, q, h1, h2, h3⟩ := slotsF_mem (i + 1) s x h
      exact ⟨k + 1, q, by rw [h1]; congr 1; omega, by simpa using h2, h3⟩
    · rename_i hr
      rcases List.mem_cons.1 h with h | h
      · exact ⟨0, r, by rw [h]; rfl, rfl, hr⟩
      · obtain ⟨k, q, h1, h2, h3⟩ := slotsF_mem (i + 1) s x h
        exact ⟨k + 1, q, by rw [h1]; congr 1; omega, by simpa using h2, h3⟩
theorem slotsF_nodup : ∀ (i : Nat) (l : List (List V)), (slotsF i l).Nodup
  | _, [] => List.nodup_nil
  | i, r :: s => by
    rw [slotsF]
    split
    · exact slotsF_nodup (i + 1) s
    · refine List.nodup_cons.2 ⟨fun h => ?_, slotsF_nodup (i + 1) s⟩
      obtain ⟨k, q, h1, _, _⟩ := slotsF_mem (i + 1) s _ h
      omega
theorem slotsF_ents {en : List Et} {cols : List CO} : ∀ (i : Nat) (l : List (List V)), rowsG en cols i l = true → ∀ x ∈ slotsF i l, x ∈ en.map (·.2)
  | _, [], _, x, h => by cases h
  | i, r :: s, hg, x, h => by
    rw [rowsG] at hg
    rw [slotsF] at h
    split at hg
    · rename_i hr
      rw [if_pos hr] at h
      exact slotsF_ents (i + 1) s hg x h
    · rename_i hr
      rw [if_neg hr] at h
      split at hg
      · rename_i hrow
        rcases List.mem_cons.1 h with h | h
        · rw [rowG, Bool.and_eq_true, decide_eq_true_eq, decide_eq_true_eq] at hrow
          have hf := hrow.2
          rw [foundM] at hf
          cases hfi : en.find? (fun e => e.1 == keyR r) with
          | none => rw [hfi] at hf; simp at hf
          | some e =>
            rw [hfi] at hf
            have he : e.2 = (i : Int) := by injection hf
            exact List.mem_map.2 ⟨e, List.mem_of_find?_eq_some hfi, by rw [he, h]⟩
        · exact slotsF_ents (i + 1) s hg x h
      · cases hg
structure TabOK (t : TB) : Prop where
  nm : nameM t.nm = 0
  cl : colsM t.cols = 0
  rl : t.rows.length ≤ 40
  ck : chkR t.ps t.root = 0
  rs : rowsG (entsOf t.ps t.root) t.cols 0 t.rows = true
  mn : manyR t.rows = (entsOf t.ps t.root).length
theorem tab_ok {t : TB} (h : tabM t = true) : TabOK t := by
  unfold tabM at h
  simp only [Bool.and_eq_true, decide_eq_true_eq] at h
  obtain ⟨h1, h2, h3, h4, h5, h6⟩ := h
  exact ⟨h1, h2, h3, h4, h5, h6⟩
theorem TabOK.ent {t : TB} (h : TabOK t) {e : Et} (he : e ∈ entsOf t.ps t.root) : ∃ (k : Nat) (r : List V), e.2 = (k : Int) ∧ t.rows[k]? = some r ∧ r.length ≠ 0 := by
  have := nodup_all (slotsF_nodup 0 t.rows) (slotsF_ents 0 t.rows h.rs) (by rw [List.length_map, slotsF_len, h.mn]; exact Nat.le_refl _) e.2 (List.mem_map.2 ⟨e, he, rfl⟩)
  obtain ⟨k, r, h1, h2, h3⟩ := slotsF_mem 0 t.rows _ this
  exact ⟨k, r, by rw [h1, Nat.zero_add], h2, h3⟩
theorem TabOK.few {t : TB} (h : TabOK t) : (entsOf t.ps t.root).length ≤ 40 := by
  have := manyR_le t.rows
  have := h.mn
  have := h.rl
  omega
theorem base_tab : ∀ {p l : List TB}, baseFrom p l = 0 → ∀ t ∈ l, tabM t = true
  | _, [], _, t, ht => by cases ht
  | p, x :: s, h, t, ht => by
    rw [baseFrom] at h
    split at h
    · cases h
    · rename_i hx
      split at h
      · cases h
      · rcases List.mem_cons.1 ht with rfl | ht
        · simpa using hx
        · exact base_tab h t ht
theorem baseM_tab {l : List TB} (h : baseM l = 0) : ∀ t ∈ l, tabM t = true := by
  unfold baseM at h
  split at h
  · cases h
  · exact base_tab h
theorem idxM_cases {α : Type} (p : α → Bool) : ∀ (l : List α) (k : Nat), idxM p l k = -1 ∨ ∃ (i : Nat) (x : α), idxM p l k = ((k + i : Nat) : Int) ∧ l[i]? = some x
  | [], k => .inl rfl
  | x :: r, k => by
    unfold idxM
    by_cases e : p x = true
    · rw [if_pos e]; exact .inr ⟨0, x, rfl, rfl⟩
    · rw [if_neg e]
      rcases idxM_cases p r (k + 1) with h | ⟨i, y, h1, h2⟩
      · exact .inl h
      · exact .inr ⟨i + 1, y, by rw [h1]; congr 1; omega, by simpa using h2⟩
noncomputable def rowsE (t : TB) : List (List V) := (entsOf t.ps t.root).map fun e => t.rows.getD e.2.toNat []
def rowsV (R : List (List V) × Int) : AV := .tup [.ro true 1 (R.1.map eRw), .r (.int .i64 R.2)]
theorem cloneV_con (G : List (Nat × List Value)) (t : Bool) (x : V) (l : List V) (hl : l.length ≤ 1048576) : Con Go.Proofs.Tryz.prog G 42 [.ro t 3 ((x :: l).map eV)] [] 0 (Is (.ro true 3 ((x :: l).map eV)) [] 0) No := by
  refine con_of_awp Go.Proofs.Tryz.func42 rfl (by kernel_rfl) (of_decide_eq_true (by kernel_rfl)) ?_; intro E hG hE; subst hG; simp only [ent]
  (repeat' (first | refine awp_seq ?_ | refine awp_skip ?_ | ((refine rR (fun K kp hK hkp => ?_)); simp (implicitDefEqProofs := false) (maxSteps := 2000000) (disch := omega) only [go_sem]; (repeat' (first | (refine hK _ ?_; clear hK hkp kp K) | (with_reducible refine And.intro ?_ ?_) | omega))) | refine awp_cond_f rfl ?_ | refine awp_ret ?_))
  (refine retA_is (by (simp (implicitDefEqProofs := false) (maxSteps := 2000000) (disch := omega) only [go_sem, Go.Proofs.Tryz.results42]); rfl) ?_; refine embS_frz (by simp only [oneA]; simp (implicitDefEqProofs := false) (maxSteps := 2000000) (disch := omega) only [go_sem]; rfl) ?_; refine (embV_nil hE (by simp) ?_).s; simp [oneA, ren, renL])
structure RowsR (l : List TB) (s : ByteArray) (R : List (List V) × Int) : Prop where
  h1 : baseM l ≠ 0 → R = ([], baseM l)
  h2 : baseM l = 0 → idxM (sameT s) l 0 = -1 → R = ([], 8)
  h3 : baseM l = 0 → ∀ (i : Nat) (t : TB), idxM (sameT s) l 0 = (i : Int) → l[i]? = some t → R = (rowsE t, 0)
theorem rowsR_all (l : List TB) (s : ByteArray) : ∃ R, RowsR l s R := by
  by_cases h : baseM l = 0
  · rcases idxM_cases (sameT s) l 0 with hi | ⟨i, t, hi, ht⟩
    · exact ⟨([], 8), fun e => absurd h e, fun _ _ => rfl, fun _ i t e _ => by rw [hi] at e; omega⟩
    · rw [Nat.zero_add] at hi
      refine ⟨(rowsE t, 0), fun e => absurd h e, fun _ e => by rw [hi] at e; omega, fun _ j u e hu => ?_⟩
      rw [hi] at e
      obtain rfl : i = j := by omega
      rw [ht] at hu; cases hu; rfl
  · exact ⟨_, fun _ => rfl, fun e => absurd e h, fun e => absurd e h⟩
def rowsT (t : TB) (en : List Et) (j : Nat) : List (List V) := (en.take j).map fun e => t.rows.getD e.2.toNat []
theorem rowsT_zero (t : TB) (en : List Et) : rowsT t en 0 = [] := rfl
theorem rowsT_step {t : TB} {en : List Et} {j k : Nat} {e : Et} {r : List V} (he : en[j]? = some e) (hk : e.2 = (k : Int)) (hr : t.rows[k]? = some r) : rowsT t en (j + 1) = rowsT t en j ++ [r] := by
  unfold rowsT
  rw [List.take_add_one, he]
  simp only [Option.toList_some, List.map_append, List.map_cons, List.map_nil]
  rw [hk, Int.toNat_natCast, List.getD_eq_getElem?_getD, hr, Option.getD_some]
set_option maxHeartbeats 4000000 in
theorem rowsP_con {G : List (Nat × List Value)} (T : Tabs G) (HR : RepCon G) (l : List TB) (s : ByteArray) (ho : okBs l) (R : List (List V) × Int) (hR : RowsR l s R) : Con Go.Proofs.Tryz.prog G 16 [.agg [.ro true 5 (l.map eTB)], .r (.string s)] [] 0 (Is (rowsV R) [] 0) No := by
  have cc := checkB_con T HR l ho
  have fc := findB_con G true l s ho.1
  by_cases h0 : baseM l = 0
  rotate_left
  · rw [hR.h1 h0, rowsV]
    have z0 : (baseM l != 0) = true := by simp [h0]
    refine Con.res (y := .tup [.r (.slice none 0 0), .r (.int .i64 (baseM l))]) ?_ (fun w z th v hr => rep_tupnil hr)
    refine con_of_awp Go.Proofs.Tryz.func16 rfl (by kernel_rfl) (of_decide_eq_true (by kernel_rfl)) ?_; intro E hG hE; subst hG; simp only [ent]
    (repeat' (first | refine awp_seq ?_ | ((first | refine rR (fun K kp hK hkp => ?_) | refine cR cc ?_); simp (implicitDefEqProofs := false) (maxSteps := 2000000) (disch := omega) only [go_sem, z0]; (repeat' (refine hK _ ?_; clear hK hkp kp K))) | refine awp_cond_t rfl ?_ | refine awp_ret ?_))
    (refine retA_is (by (simp (implicitDefEqProofs := false) (maxSteps := 2000000) (disch := omega) only [go_sem, Go.Proofs.Tryz.results16]); rfl) ?_; refine eN hE ?_; simp [oneA, ren, renL])
  rw [h0] at cc
  rcases idxM_cases (sameT s) l 0 with hi | ⟨i, t, hi, ht⟩
  · rw [hR.h2 h0 hi, rowsV]
    rw [hi] at fc
    refine Con.res (y := .tup [.r (.slice none 0 0), .r (.int .i64 8)]) ?_ (fun w z th v hr => rep_tupnil hr)
    refine con_of_awp Go.Proofs.Tryz.func16 rfl (by kernel_rfl) (of_decide_eq_true (by kernel_rfl)) ?_; intro E hG hE; subst hG; simp only [ent]
    (repeat' (first | refine awp_seq ?_ | refine awp_skip ?_ | ((first | refine rR (fun K kp hK hkp => ?_) | refine cR cc ?_ | refine cR fc ?_); simp (implicitDefEqProofs := false) (maxSteps := 2000000) (disch := omega) only [go_sem, bne_self_eq_false]; (repeat' (refine hK _ ?_; clear hK hkp kp K))) | refine awp_cond_t rfl ?_ | refine awp_cond_f rfl ?_ | refine awp_ret ?_))
    (refine retA_is (by (simp (implicitDefEqProofs := false) (maxSteps := 2000000) (disch := omega) only [go_sem, Go.Proofs.Tryz.results16]); rfl) ?_; refine eN hE ?_; simp [oneA, ren, renL])
  rw [Nat.zero_add] at hi
  rw [hR.h3 h0 i t hi ht, rowsV]
  have hok := tab_ok (baseM_tab h0 t (List.mem_of_getElem? ht))
  have hot := ho.2 t (List.mem_of_getElem? ht)
  have hil : i < l.length := (List.getElem?_eq_some_iff.1 ht).1
  have hl4 : l.length ≤ 4 := by
    unfold baseM at h0
    split at h0
    · cases h0
    · omega
  rw [hi] at fc
  have sc := scan_con G true t.ps t.root [] [] hot.ps (entsOf t.ps t.root) (fun _ r d e h => by rw [scanM_all, e, entsOf_eq h])
  have hask : askS t.ps t.root [] [] = 0 := by rw [askS, if_neg (by simpa using hok.ck), if_pos ⟨Nat.zero_le _, Nat.zero_le _⟩]
  rw [hask, scanA, if_pos rfl] at sc
  have sc := sc.weak (xs := [.agg [.ro true 5 (t.ps.map eP), .r (.int .i64 t.root)], .r (.slice none 0 0), .r (.slice none 0 0)]) (by simp [wkL, wk])
  have zi : ((i : Int) < (l.length : Int)) = True := eq_true (by omega)
  have zi0 : ((i : Int) < 0) = False := eq_false (by omega)
  have hew := hok.few
  have hee := fun e he => hok.ent (e := e) he
  rw [rowsE]
  generalize entsOf t.ps t.root = en at *
  refine con_of_awp Go.Proofs.Tryz.func16 rfl (by kernel_rfl) (of_decide_eq_true (by kernel_rfl)) ?_; intro E hG hE; subst hG; simp only [ent]
  (repeat' (first | refine awp_seq ?_ | refine awp_block ?_ | refine awp_skip ?_ | ((first | refine rR (fun K kp hK hkp => ?_) | refine cR cc ?_ | refine cR fc ?_ | refine cR sc ?_); simp (implicitDefEqProofs := false) (maxSteps := 2000000) (disch := omega) only [go_sem, bne_self_eq_false, zi, zi0, ht, eTB]; (repeat' (refine hK _ ?_; clear hK hkp kp K))) | refine awp_cond_f rfl ?_))
  clear cc fc sc
  (refine AWP.emb (emb_nil 11 50 1 ?_) ?_; (· rfl); dsimp only)
  refine awp_loop (fun j : Nat => ⟨[(38, .r (.int .i64 j)), (37, .r (.int .i64 en.length)), (36, .ro true 2 (en.map eEt)), (11, .s 2 0 j), (8, .p 1 0 0), (2, .p 0 0 0)], [(0, .box 24 [.ro true 5 (l.map eTB)]), (1, .box 35 (eTB t)), (2, .lst 50 1 ((rowsT t en j).map eRw))], 3⟩) (fun j => j ≤ en.length) (fun j => en.length - j) 0 ?_ ?_ ?_
  · exact Nat.zero_le _
  · (refine embK hE [0, 1, 2] rfl ?_ ?_ <;> simp [okM, okO, lk, ren, renL, renNd, by_, eTB, rowsT_zero] <;> (try omega))
  intro j hj
  by_cases hjl : j < en.length
  · have zj : ((j : Int) < (en.length : Int)) = True := eq_true (by omega)
    obtain ⟨e, he⟩ : ∃ e, en[j]? = some e := ⟨_, List.getElem?_eq_getElem hjl⟩
    obtain ⟨k, r, hk, hr, hne⟩ := hee e (List.mem_of_getElem? he)
    have hT := rowsT_step he hk hr
    have zk : ((k : Int) < (t.rows.length : Int)) = True := eq_true (by have := (List.getElem?_eq_some_iff.1 hr).1; omega)
    have hrl := (hot.rs r (List.mem_of_getElem? hr)).1
    obtain ⟨v, w, rfl⟩ : ∃ v w, r = v :: w := by
      cases r with
      | nil => simp at hne
      | cons v w => exact ⟨v, w, rfl⟩
    have cl := cloneV_con E.G true v w (by simp only [List.length_cons] at hrl; omega)
    have hl2 : (rowsT t en j).length = j := by unfold rowsT; rw [List.length_map, List.length_take]; omega
    have hk2 : ((rowsT t en j).map eRw).take j = (rowsT t en j).map eRw := List.take_of_length_le (by rw [List.length_map]; omega)
    (repeat' (first | refine awp_seq ?_ | refine awp_block ?_ | refine awp_skip ?_ | ((first | refine rR (fun K kp hK hkp => ?_) | refine cR cl ?_); simp (implicitDefEqProofs := false) (maxSteps := 2000000) (disch := omega) only [go_sem, zj, zk, he, hk, hr, eTB, eEt, eRw, hl2, Value.oneCell']; (repeat' (first | (refine hK _ ?_; clear hK hkp kp K) | (with_reducible refine And.intro ?_ ?_) | omega))) | refine awp_cond_t rfl ?_))
    ((refine nextA (j + 1) ?_ ?_ ?_); rotate_left; (· (try dsimp only); (omega)); (· (refine embK hE [0, 1, 5] rfl ?_ ?_ <;> simp [okM, okO, lk, ren, renL, renNd, by_, hT, eTB, eRw, hk2] <;> (try omega))))
    omega
  · have zj : ((j : Int) < (en.length : Int)) = False := eq_false (by omega)
    obtain rfl : j = en.length := by omega
    have hall : rowsT t en en.length = en.map fun e => t.rows.getD e.2.toNat [] := by unfold rowsT; rw [List.take_length]
    rw [hall]
    (repeat' (first | refine awp_seq ?_ | refine awp_exit ?_ | ((refine rR (fun K kp hK hkp => ?_)); simp (implicitDefEqProofs := false) (maxSteps := 2000000) (disch := omega) only [go_sem, zj]; (repeat' (refine hK _ ?_; clear hK hkp kp K))) | refine awp_cond_f rfl ?_ | refine awp_ret ?_))
    (refine retA_is (by (simp (implicitDefEqProofs := false) (maxSteps := 2000000) (disch := omega) only [go_sem, Go.Proofs.Tryz.results16]); rfl) ?_; refine embS_frz (by simp only [oneA]; simp (implicitDefEqProofs := false) (maxSteps := 2000000) (disch := omega) only [go_sem]; rfl) ?_; refine (embV_nil hE (by simp) ?_).s; simp [oneA, ren, renL])
set_option maxHeartbeats 4000000 in
theorem rowsOf_con (G : List (Nat × List Value)) (l : List TB) (s : ByteArray) (ho : okBs l) (R : List (List V) × Int) (hR : RowsR l s R) : Con Go.Proofs.Tryz.prog G 17 [.agg [.ro true 5 (l.map eTB)], .r (.string s)] [] 0 (Is (rowsV R) [] 0) No := by
  have cc := baseFault_con G l ho
  have fc := tableAt_con G true l s ho.1
  by_cases h0 : baseM l = 0
  rotate_left
  · rw [hR.h1 h0, rowsV]
    have z0 : (baseM l != 0) = true := by simp [h0]
    refine Con.res (y := .tup [.r (.slice none 0 0), .r (.int .i64 (baseM l))]) ?_ (fun w z th v hr => rep_tupnil hr)
    refine con_of_awp Go.Proofs.Tryz.func17 rfl (by kernel_rfl) (of_decide_eq_true (by kernel_rfl)) ?_; intro E hG hE; subst hG; simp only [ent]
    (repeat' (first | refine awp_seq ?_ | ((first | refine rR (fun K kp hK hkp => ?_) | refine cR cc ?_); simp (implicitDefEqProofs := false) (maxSteps := 2000000) (disch := omega) only [go_sem, z0]; (repeat' (refine hK _ ?_; clear hK hkp kp K))) | refine awp_cond_t rfl ?_ | refine awp_ret ?_))
    (refine retA_is (by (simp (implicitDefEqProofs := false) (maxSteps := 2000000) (disch := omega) only [go_sem, Go.Proofs.Tryz.results17]); rfl) ?_; refine eN hE ?_; simp [oneA, ren, renL])
  rw [h0] at cc
  rcases idxM_cases (sameT s) l 0 with hi | ⟨i, t, hi, ht⟩
  · rw [hR.h2 h0 hi, rowsV]
    rw [hi] at fc
    refine Con.res (y := .tup [.r (.slice none 0 0), .r (.int .i64 8)]) ?_ (fun w z th v hr => rep_tupnil hr)
    refine con_of_awp Go.Proofs.Tryz.func17 rfl (by kernel_rfl) (of_decide_eq_true (by kernel_rfl)) ?_; intro E hG hE; subst hG; simp only [ent]
    (repeat' (first | refine awp_seq ?_ | refine awp_skip ?_ | ((first | refine rR (fun K kp hK hkp => ?_) | refine cR cc ?_ | refine cR fc ?_); simp (implicitDefEqProofs := false) (maxSteps := 2000000) (disch := omega) only [go_sem, bne_self_eq_false]; (repeat' (refine hK _ ?_; clear hK hkp kp K))) | refine awp_cond_t rfl ?_ | refine awp_cond_f rfl ?_ | refine awp_ret ?_))
    (refine retA_is (by (simp (implicitDefEqProofs := false) (maxSteps := 2000000) (disch := omega) only [go_sem, Go.Proofs.Tryz.results17]); rfl) ?_; refine eN hE ?_; simp [oneA, ren, renL])
  rw [Nat.zero_add] at hi
  rw [hR.h3 h0 i t hi ht, rowsV]
  have hok := tab_ok (baseM_tab h0 t (List.mem_of_getElem? ht))
  have hot := ho.2 t (List.mem_of_getElem? ht)
  have hil : i < l.length := (List.getElem?_eq_some_iff.1 ht).1
  have hl4 : l.length ≤ 4 := by
    unfold baseM at h0
    split at h0
    · cases h0
    · omega
  rw [hi] at fc
  obtain ⟨r0, d0, hr0, hT⟩ := chk_root hok.ck
  have ec := entriesOf_con G true hT hot.ps
  rw [← entsOf_eq hT, ← hr0] at ec
  have zi : ((i : Int) < (l.length : Int)) = True := eq_true (by omega)
  have zi0 : ((i : Int) < 0) = False := eq_false (by omega)
  have hew := hok.few
  have hee := fun e he => hok.ent (e := e) he
  rw [rowsE]
  generalize entsOf t.ps t.root = en at *
  refine con_of_awp Go.Proofs.Tryz.func17 rfl (by kernel_rfl) (of_decide_eq_true (by kernel_rfl)) ?_; intro E hG hE; subst hG; simp only [ent]
  (repeat' (first | refine awp_seq ?_ | refine awp_block ?_ | refine awp_skip ?_ | ((first | refine rR (fun K kp hK hkp => ?_) | refine cR cc ?_ | refine cR fc ?_ | refine cR ec ?_); simp (implicitDefEqProofs := false) (maxSteps := 2000000) (disch := omega) only [go_sem, bne_self_eq_false, zi, zi0, ht, eTB]; (repeat' (refine hK _ ?_; clear hK hkp kp K))) | refine awp_cond_f rfl ?_))
  clear cc fc ec
  (refine AWP.emb (emb_nil 9 50 1 ?_) ?_; (· rfl); dsimp only)
  refine awp_loop (fun j : Nat => ⟨[(10, .r (.int .i64 j)), (9, .s 1 0 j), (8, .ro true 2 (en.map eEt)), (7, .r (.int .i64 i)), (2, .p 0 0 0)], [(0, .box 24 [.ro true 5 (l.map eTB)]), (1, .lst 50 1 ((rowsT t en j).map eRw))], 2⟩) (fun j => j ≤ en.length) (fun j => en.length - j) 0 ?_ ?_ ?_
  · exact Nat.zero_le _
  · (refine embK hE [0, 1] rfl ?_ ?_ <;> simp [okM, okO, lk, ren, renL, renNd, by_, eTB, rowsT_zero] <;> (try omega))
  intro j hj
  by_cases hjl : j < en.length
  · have zj : ((j : Int) < (en.length : Int)) = True := eq_true (by omega)
    obtain ⟨e, he⟩ : ∃ e, en[j]? = some e := ⟨_, List.getElem?_eq_getElem hjl⟩
    obtain ⟨k, r, hk, hr, hne⟩ := hee e (List.mem_of_getElem? he)
    have hT := rowsT_step he hk hr
    have zk : ((k : Int) < (t.rows.length : Int)) = True := eq_true (by have := (List.getElem?_eq_some_iff.1 hr).1; omega)
    have cl := valuesCopy_con E.G true r (hot.rs r (List.mem_of_getElem? hr)).1
    have hl2 : (rowsT t en j).length = j := by unfold rowsT; rw [List.length_map, List.length_take]; omega
    have hk2 : ((rowsT t en j).map eRw).take j = (rowsT t en j).map eRw := List.take_of_length_le (by rw [List.length_map]; omega)
    (repeat' (first | refine awp_seq ?_ | refine awp_block ?_ | refine awp_skip ?_ | ((first | refine rR (fun K kp hK hkp => ?_) | refine rD (id := 12) mixed 15 [0,1,2,3,4,5,6,7,8,9,10,11,12,13,14] (fun K kp hK hkp => ?_) | refine cD cl ?_); simp (implicitDefEqProofs := false) (maxSteps := 2000000) (disch := omega) only [go_sem, zj, zk, zi, ht, he, hk, hr, eTB, eEt, eRw, hl2, Value.oneCell']; (repeat' (first | (refine hK _ ?_; clear hK hkp kp K) | (with_reducible refine And.intro ?_ ?_) | omega))) | refine awp_cond_t rfl ?_))
    ((refine nextA (j + 1) ?_ ?_ ?_); rotate_left; (· (try dsimp only); (omega)); (· (refine embK hE [0, 3] rfl ?_ ?_ <;> simp [okM, okO, lk, ren, renL, renNd, by_, hT, eTB, eRw, hk2] <;> (try omega))))
    omega
  · have zj : ((j : Int) < (en.length : Int)) = False := eq_false (by omega)
    obtain rfl : j = en.length := by omega
    have hall : rowsT t en en.length = en.map fun e => t.rows.getD e.2.toNat [] := by unfold rowsT; rw [List.take_length]
    rw [hall]
    (repeat' (first | refine awp_seq ?_ | refine awp_exit ?_ | ((refine rR (fun K kp hK hkp => ?_)); simp (implicitDefEqProofs := false) (maxSteps := 2000000) (disch := omega) only [go_sem, zj]; (repeat' (refine hK _ ?_; clear hK hkp kp K))) | refine awp_cond_f rfl ?_ | refine awp_ret ?_))
    (refine retA_is (by (simp (implicitDefEqProofs := false) (maxSteps := 2000000) (disch := omega) only [go_sem, Go.Proofs.Tryz.results17]); rfl) ?_; refine embS_frz (by simp only [oneA]; simp (implicitDefEqProofs := false) (maxSteps := 2000000) (disch := omega) only [go_sem]; rfl) ?_; refine (embV_nil hE (by simp) ?_).s; simp [oneA, ren, renL])
set_option maxHeartbeats 4000000 in
theorem sameRows_con (G : List (Nat × List Value)) (l : List (List V)) (hl : l.length ≤ 1048576) (hr : ∀ r ∈ l, r.length ≤ 1048576) : Con Go.Proofs.Tryz.prog G 18 [.ro true 1 (l.map eRw), .ro true 1 (l.map eRw)] [] 0 (Is (.r (.bool true)) [] 0) No := by
  have zl : ((l.length : Int) != (l.length : Int)) = false := by simp
  refine con_of_awp Go.Proofs.Tryz.func18 rfl (by kernel_rfl) (of_decide_eq_true (by kernel_rfl)) ?_; intro E hG hE; subst hG; simp only [ent]
  (repeat' (first | refine awp_seq ?_ | refine awp_block ?_ | refine awp_skip ?_ | ((refine rR (fun K kp hK hkp => ?_)); simp (implicitDefEqProofs := false) (maxSteps := 2000000) (disch := omega) only [go_sem, zl]; (repeat' (refine hK _ ?_; clear hK hkp kp K))) | refine awp_cond_f rfl ?_))
  refine awp_loop (fun k : Nat => ⟨[(5, .r (.int .i64 k)), (0, .ro true 1 (l.map eRw)), (1, .ro true 1 (l.map eRw))], [], 0⟩) (fun k => k ≤ l.length) (fun k => l.length - k) 0 ?_ ?_ ?_
  · exact Nat.zero_le _
  · (refine embK hE [] rfl ?_ ?_ <;> simp [okM, okO, lk, ren, renL, renNd, by_] <;> (try omega))
  intro k hk
  by_cases hk' : k < l.length
  · have zk : ((k : Int) < (l.length : Int)) = True := eq_true (by omega)
    obtain ⟨x, hx⟩ : ∃ x, l[k]? = some x := ⟨l[k], by simp [hk']⟩
    have hxl := hr x (List.mem_of_getElem? hx)
    have sc := sameValuesC_con E.G true true x x hxl hxl
    rw [sameV_self] at sc
    (repeat' (first | refine awp_seq ?_ | refine awp_block ?_ | refine awp_skip ?_ | ((first | refine rR (fun K kp hK hkp => ?_) | refine rD (id := 6) mixed 10 [0,1,2,3,4,5,6,7,8,9] (fun K kp hK hkp => ?_) | refine cD sc ?_); simp (implicitDefEqProofs := false) (maxSteps := 2000000) (disch := omega) only [go_sem, zk, hx, eRw]; (repeat' (refine hK _ ?_; clear hK hkp kp K))) | refine awp_cond_t rfl ?_ | refine awp_cond_f rfl ?_))
    ((refine nextA (k + 1) ?_ ?_ ?_); rotate_left; (· (try dsimp only); (omega)); (· (refine embK hE [] rfl ?_ ?_ <;> simp [okM, okO, lk, ren, renL, renNd, by_] <;> (try omega))))
    omega
  · have zk : ((k : Int) < (l.length : Int)) = False := eq_false (by omega)
    (repeat' (first | refine awp_seq ?_ | refine awp_exit ?_ | ((refine rR (fun K kp hK hkp => ?_)); simp (implicitDefEqProofs := false) (maxSteps := 2000000) (disch := omega) only [go_sem, zk]; (repeat' (refine hK _ ?_; clear hK hkp kp K))) | refine awp_cond_f rfl ?_ | refine awp_ret ?_))
    (refine retA_is (by (simp (implicitDefEqProofs := false) (maxSteps := 2000000) (disch := omega) only [go_sem, Go.Proofs.Tryz.results18]); rfl) ?_; refine eN hE ?_; simp [oneA, ren, renL])
theorem lawBaseRows_con {G : List (Nat × List Value)} (T : Tabs G) (HR : RepCon G) (l : List TB) (s : ByteArray) (ho : okBs l) : Con Go.Proofs.Tryz.prog G 5 [.agg [.ro true 5 (l.map eTB)], .r (.string s)] [] 0 (Is (.r (.bool true)) [] 0) No := by
  obtain ⟨R, hR⟩ := rowsR_all l s
  have bc := baseCopy_con G l ho
  have cc := rowsP_con T HR l s ho R hR
  have fc := rowsOf_con G l s ho R hR
  have hb : R.1.length ≤ 1048576 ∧ ∀ r ∈ R.1, r.length ≤ 1048576 := by
    by_cases h0 : baseM l = 0
    · rcases idxM_cases (sameT s) l 0 with hi | ⟨i, t, hi, ht⟩
      · rw [hR.h2 h0 hi]; exact ⟨Nat.zero_le _, fun r hr => by cases hr⟩
      · rw [Nat.zero_add] at hi
        rw [hR.h3 h0 i t hi ht]
        have hok := tab_ok (baseM_tab h0 t (List.mem_of_getElem? ht))
        have hot := ho.2 t (List.mem_of_getElem? ht)
        refine ⟨by have := hok.few; simp only [rowsE, List.length_map]; omega, fun r hr => ?_⟩
        obtain ⟨e, he, rfl⟩ := List.mem_map.1 hr
        obtain ⟨k, r, hk, hr, hne⟩ := hok.ent he
        rw [hk, Int.toNat_natCast, List.getD_eq_getElem?_getD, hr]
        exact (hot.rs r (List.mem_of_getElem? hr)).1
    · rw [hR.h1 h0]; exact ⟨Nat.zero_le _, fun r hr => by cases hr⟩
  obtain ⟨R1, R2⟩ := R
  have sc := sameRows_con G R1 hb.1 hb.2
  rw [rowsV] at cc fc
  refine con_of_awp Go.Proofs.Tryz.func5 rfl (by kernel_rfl) (of_decide_eq_true (by kernel_rfl)) ?_; intro E hG hE; subst hG; simp only [ent]
  (repeat' (first | refine awp_seq ?_ | ((first | refine rR (fun K kp hK hkp => ?_) | refine cR bc ?_ | refine cR cc ?_ | refine cR fc ?_ | refine cR sc ?_); simp (implicitDefEqProofs := false) (maxSteps := 2000000) (disch := omega) only [go_sem, beq_self_eq_true]; (repeat' (refine hK _ ?_; clear hK hkp kp K))) | refine awp_ret ?_))
  (refine retA_is (by (simp (implicitDefEqProofs := false) (maxSteps := 2000000) (disch := omega) only [go_sem, Go.Proofs.Tryz.results5]); rfl) ?_; refine eN hE ?_; simp [oneA, ren, renL])
end Go.AM
namespace Go.AM
open Go Go.RowKit
open Go.Proofs.YtekljlenlbhmcaaGreatDoor (nameM vcheck)
attribute [local irreducible] AWP retA
theorem sameVb_len : ∀ {a b : List V}, sameVs a b = true → a.length = b.length
  | [], [], _ => rfl
  | [], _ :: _, h => by simp [sameVs] at h
  | _ :: _, [], h => by simp [sameVs] at h
  | x :: r, y :: q, h => by
    simp only [sameVs, Bool.and_eq_true] at h
    rw [List.length_cons, List.length_cons, sameVb_len h.2]
theorem sameVb_comm : ∀ (a b : List V), sameVs a b = sameVs b a
  | [], [] => rfl
  | [], _ :: _ => rfl
  | _ :: _, [] => rfl
  | x :: r, y :: q => by
    rw [sameVs, sameVs, sameVb_comm r q]
    congr 1
    rw [sameV, sameV, Bool.eq_iff_iff]
    simp only [Bool.and_eq_true, beq_iff_eq]
    constructor <;> rintro ⟨h1, h2, h3⟩ <;> exact ⟨h1.symm, h2.symm, h3.symm⟩
def sameCs : List CO → List CO → Bool
  | [], [] => true
  | x :: r, y :: q => (x.nm.toList == y.nm.toList && x.k == y.k) && sameCs r q
  | _, _ => false
theorem sameCs_len : ∀ {a b : List CO}, sameCs a b = true → a.length = b.length
  | [], [], _ => rfl
  | [], _ :: _, h => by simp [sameCs] at h
  | _ :: _, [], h => by simp [sameCs] at h
  | x :: r, y :: q, h => by
    simp only [sameCs, Bool.and_eq_true] at h
    rw [List.length_cons, List.length_cons, sameCs_len h.2]
set_option maxHeartbeats 4000000 in
theorem equalV_con (G : List (Nat × List Value)) (t u : Bool) (a b : List V) (ha : a.length ≤ 1048576) (hb : b.length ≤ 1048576) : Con Go.Proofs.Tryz.prog G 36 [.ro t 3 (a.map eV), .ro u 3 (b.map eV)] [] 0 (Is (.r (.bool (sameVs a b))) [] 0) No := by
  refine con_of_awp Go.Proofs.Tryz.func36 rfl (by kernel_rfl) (of_decide_eq_true (by kernel_rfl)) ?_; intro E hG hE; subst hG; simp only [ent]
  by_cases hab : a.length = b.length
  rotate_left
  · have z0 : ((a.length : Int) != (b.length : Int)) = true := by rw [bne_iff_ne]; omega
    have hs : sameVs a b = false := Bool.eq_false_iff.2 fun h => hab (sameVb_len h)
    rw [hs]
    (repeat' (first | refine awp_seq ?_ | ((refine rR (fun K kp hK hkp => ?_)); simp (implicitDefEqProofs := false) (maxSteps := 2000000) (disch := omega) only [go_sem, z0]; (repeat' (refine hK _ ?_; clear hK hkp kp K))) | refine awp_cond_t rfl ?_ | refine awp_ret ?_))
    (refine retA_is (by (simp (implicitDefEqProofs := false) (maxSteps := 2000000) (disch := omega) only [go_sem, Go.Proofs.Tryz.results36]); rfl) ?_; refine eN hE ?_; simp [oneA, ren, renL])
  have z0 : ((a.length : Int) != (b.length : Int)) = false := by rw [bne_eq_false_iff_eq]; omega
  (repeat' (first | refine awp_seq ?_ | refine awp_block ?_ | refine awp_skip ?_ | ((refine rR (fun K kp hK hkp => ?_)); simp (implicitDefEqProofs := false) (maxSteps := 2000000) (disch := omega) only [go_sem, z0]; (repeat' (refine hK _ ?_; clear hK hkp kp K))) | refine awp_cond_f rfl ?_))
  refine awp_loop (fun k : Nat => ⟨[(13, .r (.int .i64 k)), (12, .r (.int .i64 a.length)), (0, .ro t 3 (a.map eV)), (1, .ro u 3 (b.map eV))], [], 0⟩) (fun k => k ≤ a.length ∧ sameVs (a.drop k) (b.drop k) = sameVs a b) (fun k => a.length - k) 0 ?_ ?_ ?_
  · simp
  · (refine embK hE [] rfl ?_ ?_ <;> simp [okM, okO, lk, ren, renL, renNd, by_] <;> (try omega))
  intro k ⟨hk, hno⟩
  by_cases hk' : k < a.length
  · have zk : ((k : Int) < (a.length : Int)) = True := eq_true (by omega)
    have zk2 : ((k : Int) < (b.length : Int)) = True := eq_true (by omega)
    obtain ⟨x, hx⟩ : ∃ x, a[k]? = some x := ⟨a[k], by simp [hk']⟩
    obtain ⟨y, hy⟩ : ∃ x, b[k]? = some x := ⟨b[k]'(by omega), by simp⟩
    rw [drop_at hx, drop_at hy, sameVs] at hno
    cases hh : (x.k == y.k && (x.n == y.n && x.s.toList == y.s.toList))
    · have h1 : sameV x y = false := hh
      rw [h1, Bool.false_and] at hno
      rw [← hno]
      (repeat' (first | refine awp_seq ?_ | refine awp_block ?_ | refine awp_skip ?_ | ((first | refine rR (fun K kp hK hkp => ?_) | refine rD (id := 6) mixed 9 [0,1,2,3,4,5,6,7,8] (fun K kp hK hkp => ?_)); simp (implicitDefEqProofs := false) (maxSteps := 2000000) (disch := omega) only [go_sem, zk, zk2, hx, hy, eV, hh]; (repeat' (refine hK _ ?_; clear hK hkp kp K))) | refine awp_cond_t rfl ?_ | refine awp_ret ?_))
      (refine retA_is (by (simp (implicitDefEqProofs := false) (maxSteps := 2000000) (disch := omega) only [go_sem, Go.Proofs.Tryz.results36]); rfl) ?_; refine eN hE ?_; simp [oneA, ren, renL])
    · have h1 : sameV x y = true := hh
      rw [h1, Bool.true_and] at hno
      (repeat' (first | refine awp_seq ?_ | refine awp_block ?_ | refine awp_skip ?_ | ((first | refine rR (fun K kp hK hkp => ?_) | refine rD (id := 6) mixed 9 [0,1,2,3,4,5,6,7,8] (fun K kp hK hkp => ?_)); simp (implicitDefEqProofs := false) (maxSteps := 2000000) (disch := omega) only [go_sem, zk, zk2, hx, hy, eV, hh]; (repeat' (refine hK _ ?_; clear hK hkp kp K))) | refine awp_cond_t rfl ?_ | refine awp_cond_f rfl ?_))
      ((refine nextA (k + 1) ?_ ?_ ?_); rotate_left; (· (try dsimp only); (omega)); (· (refine embK hE [] rfl ?_ ?_ <;> simp [okM, okO, lk, ren, renL, renNd, by_] <;> (try omega))))
      exact ⟨by omega, hno⟩
  · have zk : ((k : Int) < (a.length : Int)) = False := eq_false (by omega)
    rw [List.drop_of_length_le (by omega), List.drop_of_length_le (by omega), sameVs] at hno
    rw [← hno]
    (repeat' (first | refine awp_seq ?_ | refine awp_exit ?_ | ((refine rR (fun K kp hK hkp => ?_)); simp (implicitDefEqProofs := false) (maxSteps := 2000000) (disch := omega) only [go_sem, zk]; (repeat' (refine hK _ ?_; clear hK hkp kp K))) | refine awp_cond_f rfl ?_ | refine awp_ret ?_))
    (refine retA_is (by (simp (implicitDefEqProofs := false) (maxSteps := 2000000) (disch := omega) only [go_sem, Go.Proofs.Tryz.results36]); rfl) ?_; refine eN hE ?_; simp [oneA, ren, renL])
set_option maxHeartbeats 4000000 in
theorem equalC_con (G : List (Nat × List Value)) (t u : Bool) (a b : List CO) (ha : a.length ≤ 1048576) (hb : b.length ≤ 1048576) : Con Go.Proofs.Tryz.prog G 35 [.ro t 2 (a.map eC), .ro u 2 (b.map eC)] [] 0 (Is (.r (.bool (sameCs a b))) [] 0) No := by
  refine con_of_awp Go.Proofs.Tryz.func35 rfl (by kernel_rfl) (of_decide_eq_true (by kernel_rfl)) ?_; intro E hG hE; subst hG; simp only [ent]
  by_cases hab : a.length = b.length
  rotate_left
  · have z0 : ((a.length : Int) != (b.length : Int)) = true := by rw [bne_iff_ne]; omega
    have hs : sameCs a b = false := Bool.eq_false_iff.2 fun h => hab (sameCs_len h)
    rw [hs]
    (repeat' (first | refine awp_seq ?_ | ((refine rR (fun K kp hK hkp => ?_)); simp (implicitDefEqProofs := false) (maxSteps := 2000000) (disch := omega) only [go_sem, z0]; (repeat' (refine hK _ ?_; clear hK hkp kp K))) | refine awp_cond_t rfl ?_ | refine awp_ret ?_))
    (refine retA_is (by (simp (implicitDefEqProofs := false) (maxSteps := 2000000) (disch := omega) only [go_sem, Go.Proofs.Tryz.results35]); rfl) ?_; refine eN hE ?_; simp [oneA, ren, renL])
  have z0 : ((a.length : Int) != (b.length : Int)) = false := by rw [bne_eq_false_iff_eq]; omega
  (repeat' (first | refine awp_seq ?_ | refine awp_block ?_ | refine awp_skip ?_ | ((refine rR (fun K kp hK hkp => ?_)); simp (implicitDefEqProofs := false) (maxSteps := 2000000) (disch := omega) only [go_sem, z0]; (repeat' (refine hK _ ?_; clear hK hkp kp K))) | refine awp_cond_f rfl ?_))
  refine awp_loop (fun k : Nat => ⟨[(13, .r (.int .i64 k)), (12, .r (.int .i64 a.length)), (0, .ro t 2 (a.map eC)), (1, .ro u 2 (b.map eC))], [], 0⟩) (fun k => k ≤ a.length ∧ sameCs (a.drop k) (b.drop k) = sameCs a b) (fun k => a.length - k) 0 ?_ ?_ ?_
  · simp
  · (refine embK hE [] rfl ?_ ?_ <;> simp [okM, okO, lk, ren, renL, renNd, by_] <;> (try omega))
  intro k ⟨hk, hno⟩
  by_cases hk' : k < a.length
  · have zk : ((k : Int) < (a.length : Int)) = True := eq_true (by omega)
    have zk2 : ((k : Int) < (b.length : Int)) = True := eq_true (by omega)
    obtain ⟨x, hx⟩ : ∃ x, a[k]? = some x := ⟨a[k], by simp [hk']⟩
    obtain ⟨y, hy⟩ : ∃ x, b[k]? = some x := ⟨b[k]'(by omega), by simp⟩
    rw [drop_at hx, drop_at hy, sameCs] at hno
    cases hh : (x.nm.toList == y.nm.toList && x.k == y.k)
    · rw [hh, Bool.false_and] at hno
      rw [← hno]
      (repeat' (first | refine awp_seq ?_ | refine awp_block ?_ | refine awp_skip ?_ | ((first | refine rR (fun K kp hK hkp => ?_) | refine rD (id := 6) mixed 9 [0,1,2,3,4,5,6,7,8] (fun K kp hK hkp => ?_)); simp (implicitDefEqProofs := false) (maxSteps := 2000000) (disch := omega) only [go_sem, zk, zk2, hx, hy, eC, hh]; (repeat' (refine hK _ ?_; clear hK hkp kp K))) | refine awp_cond_t rfl ?_ | refine awp_ret ?_))
      (refine retA_is (by (simp (implicitDefEqProofs := false) (maxSteps := 2000000) (disch := omega) only [go_sem, Go.Proofs.Tryz.results35]); rfl) ?_; refine eN hE ?_; simp [oneA, ren, renL])
    · rw [hh, Bool.true_and] at hno
      (repeat' (first | refine awp_seq ?_ | refine awp_block ?_ | refine awp_skip ?_ | ((first | refine rR (fun K kp hK hkp => ?_) | refine rD (id := 6) mixed 9 [0,1,2,3,4,5,6,7,8] (fun K kp hK hkp => ?_)); simp (implicitDefEqProofs := false) (maxSteps := 2000000) (disch := omega) only [go_sem, zk, zk2, hx, hy, eC, hh]; (repeat' (refine hK _ ?_; clear hK hkp kp K))) | refine awp_cond_t rfl ?_ | refine awp_cond_f rfl ?_))
      ((refine nextA (k + 1) ?_ ?_ ?_); rotate_left; (· (try dsimp only); (omega)); (· (refine embK hE [] rfl ?_ ?_ <;> simp [okM, okO, lk, ren, renL, renNd, by_] <;> (try omega))))
      exact ⟨by omega, hno⟩
  · have zk : ((k : Int) < (a.length : Int)) = False := eq_false (by omega)
    rw [List.drop_of_length_le (by omega), List.drop_of_length_le (by omega), sameCs] at hno
    rw [← hno]
    (repeat' (first | refine awp_seq ?_ | refine awp_exit ?_ | ((refine rR (fun K kp hK hkp => ?_)); simp (implicitDefEqProofs := false) (maxSteps := 2000000) (disch := omega) only [go_sem, zk]; (repeat' (refine hK _ ?_; clear hK hkp kp K))) | refine awp_cond_f rfl ?_ | refine awp_ret ?_))
    (refine retA_is (by (simp (implicitDefEqProofs := false) (maxSteps := 2000000) (disch := omega) only [go_sem, Go.Proofs.Tryz.results35]); rfl) ?_; refine eN hE ?_; simp [oneA, ren, renL])
noncomputable def sameTB (a b : TB) : Bool := tabM a && (tabM b && ((a.nm.toList == b.nm.toList) && sameCs a.cols b.cols))
set_option maxHeartbeats 4000000 in
theorem sameTable_con (G : List (Nat × List Value)) (a b : TB) (ha : okTB a) (hb : okTB b) : Con Go.Proofs.Tryz.prog G 39 [.agg (eTB a), .agg (eTB b)] [] 0 (Is (.r (.bool (sameTB a b))) [] 0) No := by
  have ta := tableFault_con G a ha
  have tb := tableFault_con G b hb
  have hac := ha.cl
  have hbc := hb.cl
  simp only [eTB] at ta tb
  rw [sameTB]
  refine con_of_awp Go.Proofs.Tryz.func39 rfl (by kernel_rfl) (of_decide_eq_true (by kernel_rfl)) ?_; intro E hG hE; subst hG; simp only [ent]
  cases h1 : tabM a
  · rw [h1] at ta
    (repeat' (first | refine awp_seq ?_ | ((first | refine rR (fun K kp hK hkp => ?_) | refine cR ta ?_); simp (implicitDefEqProofs := false) (maxSteps := 2000000) (disch := omega) only [go_sem, eTB]; (repeat' (refine hK _ ?_; clear hK hkp kp K))) | refine awp_cond_t rfl ?_ | refine awp_ret ?_))
    (refine retA_is (by (simp (implicitDefEqProofs := false) (maxSteps := 2000000) (disch := omega) only [go_sem, Go.Proofs.Tryz.results39]); rfl) ?_; refine eN hE ?_; simp [oneA, ren, renL])
  rw [h1] at ta
  cases h2 : tabM b
  · rw [h2] at tb
    (repeat' (first | refine awp_seq ?_ | ((first | refine rR (fun K kp hK hkp => ?_) | refine cR ta ?_ | refine cR tb ?_); simp (implicitDefEqProofs := false) (maxSteps := 2000000) (disch := omega) only [go_sem, eTB]; (repeat' (refine hK _ ?_; clear hK hkp kp K))) | refine awp_cond_t rfl ?_ | refine awp_ret ?_))
    (refine retA_is (by (simp (implicitDefEqProofs := false) (maxSteps := 2000000) (disch := omega) only [go_sem, Go.Proofs.Tryz.results39]); rfl) ?_; refine eN hE ?_; simp [oneA, ren, renL])
  rw [h2] at tb
  cases h3 : (a.nm.toList == b.nm.toList)
  · (repeat' (first | refine awp_seq ?_ | ((first | refine rR (fun K kp hK hkp => ?_) | refine cR ta ?_ | refine cR tb ?_); simp (implicitDefEqProofs := false) (maxSteps := 2000000) (disch := omega) only [go_sem, eTB, h3]; (repeat' (refine hK _ ?_; clear hK hkp kp K))) | refine awp_cond_t rfl ?_ | refine awp_ret ?_))
    (refine retA_is (by (simp (implicitDefEqProofs := false) (maxSteps := 2000000) (disch := omega) only [go_sem, Go.Proofs.Tryz.results39]); rfl) ?_; refine eN hE ?_; simp [oneA, ren, renL])
  simp only [Bool.true_and]
  by_cases hab : a.cols.length = b.cols.length
  rotate_left
  · have z0 : ((a.cols.length : Int) != (b.cols.length : Int)) = true := by rw [bne_iff_ne]; omega
    have hs : sameCs a.cols b.cols = false := Bool.eq_false_iff.2 fun h => hab (sameCs_len h)
    rw [hs]
    (repeat' (first | refine awp_seq ?_ | ((first | refine rR (fun K kp hK hkp => ?_) | refine cR ta ?_ | refine cR tb ?_); simp (implicitDefEqProofs := false) (maxSteps := 2000000) (disch := omega) only [go_sem, eTB, h3, z0]; (repeat' (refine hK _ ?_; clear hK hkp kp K))) | refine awp_cond_t rfl ?_ | refine awp_ret ?_))
    (refine retA_is (by (simp (implicitDefEqProofs := false) (maxSteps := 2000000) (disch := omega) only [go_sem, Go.Proofs.Tryz.results39]); rfl) ?_; refine eN hE ?_; simp [oneA, ren, renL])
  have z0 : ((a.cols.length : Int) != (b.cols.length : Int)) = false := by rw [bne_eq_false_iff_eq]; omega
  (repeat' (first | refine awp_seq ?_ | refine awp_block ?_ | refine awp_skip ?_ | ((first | refine rR (fun K kp hK hkp => ?_) | refine cR ta ?_ | refine cR tb ?_); simp (implicitDefEqProofs := false) (maxSteps := 2000000) (disch := omega) only [go_sem, eTB, h3, z0]; (repeat' (refine hK _ ?_; clear hK hkp kp K))) | refine awp_cond_f rfl ?_))
  refine awp_loop (fun k : Nat => ⟨[(5, .r (.int .i64 k)), (3, .p 1 0 0), (2, .p 0 0 0)], [(0, .box 35 (eTB a)), (1, .box 35 (eTB b))], 2⟩) (fun k => k ≤ a.cols.length ∧ sameCs (a.cols.drop k) (b.cols.drop k) = sameCs a.cols b.cols) (fun k => a.cols.length - k) 0 ?_ ?_ ?_
  · simp
  · (refine embK hE [0, 1] rfl ?_ ?_ <;> simp [okM, okO, lk, ren, renL, renNd, by_, eTB] <;> (try omega))
  intro k ⟨hk, hno⟩
  by_cases hk' : k < a.cols.length
  · have zk : ((k : Int) < (a.cols.length : Int)) = True := eq_true (by omega)
    have zk2 : ((k : Int) < (b.cols.length : Int)) = True := eq_true (by omega)
    obtain ⟨x, hx⟩ : ∃ x, a.cols[k]? = some x := ⟨a.cols[k], by simp [hk']⟩
    obtain ⟨y, hy⟩ : ∃ x, b.cols[k]? = some x := ⟨b.cols[k]'(by omega), by simp⟩
    rw [drop_at hx, drop_at hy, sameCs] at hno
    cases hh : (x.nm.toList == y.nm.toList && x.k == y.k)
    · rw [hh, Bool.false_and] at hno
      rw [← hno]
      (repeat' (first | refine awp_seq ?_ | refine awp_block ?_ | refine awp_skip ?_ | ((first | refine rR (fun K kp hK hkp => ?_) | refine rD (id := 6) mixed 11 [0,1,2,3,4,5,6,7,8,9,10] (fun K kp hK hkp => ?_)); simp (implicitDefEqProofs := false) (maxSteps := 2000000) (disch := omega) only [go_sem, zk, zk2, hx, hy, eTB, eC, hh]; (repeat' (refine hK _ ?_; clear hK hkp kp K))) | refine awp_cond_t rfl ?_ | refine awp_ret ?_))
      (refine retA_is (by (simp (implicitDefEqProofs := false) (maxSteps := 2000000) (disch := omega) only [go_sem, Go.Proofs.Tryz.results39]); rfl) ?_; refine eN hE ?_; simp [oneA, ren, renL])
    · rw [hh, Bool.true_and] at hno
      (repeat' (first | refine awp_seq ?_ | refine awp_block ?_ | refine awp_skip ?_ | ((first | refine rR (fun K kp hK hkp => ?_) | refine rD (id := 6) mixed 11 [0,1,2,3,4,5,6,7,8,9,10] (fun K kp hK hkp => ?_)); simp (implicitDefEqProofs := false) (maxSteps := 2000000) (disch := omega) only [go_sem, zk, zk2, hx, hy, eTB, eC, hh]; (repeat' (refine hK _ ?_; clear hK hkp kp K))) | refine awp_cond_t rfl ?_ | refine awp_cond_f rfl ?_))
      ((refine nextA (k + 1) ?_ ?_ ?_); rotate_left; (· (try dsimp only); (omega)); (· (refine embK hE [0, 1] rfl ?_ ?_ <;> simp [okM, okO, lk, ren, renL, renNd, by_, eTB] <;> (try omega))))
      exact ⟨by omega, hno⟩
  · have zk : ((k : Int) < (a.cols.length : Int)) = False := eq_false (by omega)
    rw [List.drop_of_length_le (by omega), List.drop_of_length_le (by omega), sameCs] at hno
    rw [← hno]
    (repeat' (first | refine awp_seq ?_ | refine awp_exit ?_ | ((refine rR (fun K kp hK hkp => ?_)); simp (implicitDefEqProofs := false) (maxSteps := 2000000) (disch := omega) only [go_sem, zk, eTB]; (repeat' (refine hK _ ?_; clear hK hkp kp K))) | refine awp_cond_f rfl ?_ | refine awp_ret ?_))
    (refine retA_is (by (simp (implicitDefEqProofs := false) (maxSteps := 2000000) (disch := omega) only [go_sem, Go.Proofs.Tryz.results39]); rfl) ?_; refine eN hE ?_; simp [oneA, ren, renL])
def slotR (rows : List (List V)) (i : Nat) : List V := rows.getD i []
theorem slotOf_con (G : List (Nat × List Value)) (b : TB) (i : Nat) (hi : i ≤ 1048576) (hrl : b.rows.length ≤ 1048576) : Con Go.Proofs.Tryz.prog G 40 [.agg (eTB b), .r (.int .i64 i)] [] 0 (Is (.ro true 3 ((slotR b.rows i).map eV)) [] 0) No := by
  by_cases h : i < b.rows.length
  · have zi : ((i : Int) < (b.rows.length : Int)) = True := eq_true (by omega)
    obtain ⟨x, hx⟩ : ∃ x, b.rows[i]? = some x := ⟨_, List.getElem?_eq_getElem h⟩
    have hs : slotR b.rows i = x := by rw [slotR, List.getD_eq_getElem?_getD, hx]; rfl
    rw [hs]
    refine con_of_awp Go.Proofs.Tryz.func40 rfl (by kernel_rfl) (of_decide_eq_true (by kernel_rfl)) ?_; intro E hG hE; subst hG; simp only [ent]
    (repeat' (first | refine awp_seq ?_ | ((refine rR (fun K kp hK hkp => ?_)); simp (implicitDefEqProofs := false) (maxSteps := 2000000) (disch := omega) only [go_sem, zi, hx, eTB, eRw]; (repeat' (refine hK _ ?_; clear hK hkp kp K))) | refine awp_cond_t rfl ?_ | refine awp_ret ?_))
    (refine retA_is (by (simp (implicitDefEqProofs := false) (maxSteps := 2000000) (disch := omega) only [go_sem, Go.Proofs.Tryz.results40]); rfl) ?_; refine eN hE ?_; simp [oneA, ren, renL])
  · have zi : ((i : Int) < (b.rows.length : Int)) = False := eq_false (by omega)
    have hs : slotR b.rows i = [] := by rw [slotR, List.getD_eq_getElem?_getD, List.getElem?_eq_none (by omega)]; rfl
    rw [hs]
    refine Con.res (y := .r (.slice none 0 0)) ?_ (fun w z th v hr => nil_ro _ _ hr)
    refine con_of_awp Go.Proofs.Tryz.func40 rfl (by kernel_rfl) (of_decide_eq_true (by kernel_rfl)) ?_; intro E hG hE; subst hG; simp only [ent]
    (repeat' (first | refine awp_seq ?_ | refine awp_skip ?_ | ((refine rR (fun K kp hK hkp => ?_)); simp (implicitDefEqProofs := false) (maxSteps := 2000000) (disch := omega) only [go_sem, zi, eTB]; (repeat' (refine hK _ ?_; clear hK hkp kp K))) | refine awp_cond_f rfl ?_ | refine awp_ret ?_))
    (refine retA_is (by (simp (implicitDefEqProofs := false) (maxSteps := 2000000) (disch := omega) only [go_sem, Go.Proofs.Tryz.results40]); rfl) ?_; refine eN hE ?_; simp [oneA, ren, renL])
theorem tab_rl {t : TB} (h : tabM t = true) : t.rows.length ≤ 40 := by
  unfold tabM at h
  simp only [Bool.and_eq_true, decide_eq_true_eq] at h
  exact h.2.2.1
def diffF (was : List (List V)) : Nat → List (List V) → List Int
  | _, [] => []
  | i, r :: s => if i < was.length ∧ sameVs r (slotR was i) = true then diffF was (i + 1) s else (i : Int) :: diffF was (i + 1) s
theorem diffF_app (was : List (List V)) : ∀ (i : Nat) (a b : List (List V)), diffF was i (a ++ b) = diffF was i a ++ diffF was (i + a.length) b
  | i, [], b => by simp [diffF]
  | i, r :: s, b => by
    rw [List.cons_append, diffF, diffF, diffF_app was (i + 1) s b, show i + (r :: s).length = i + 1 + s.length by rw [List.length_cons]; omega]
    split <;> rfl
theorem diffF_step {was now : List (List V)} {k : Nat} {r : List V} (h : now[k]? = some r) : diffF was 0 (now.take (k + 1)) = diffF was 0 (now.take k) ++ (if k < was.length ∧ sameVs r (slotR was k) = true then [] else [(k : Int)]) := by
  have hk : (now.take k).length = k := by rw [List.length_take]; have := (List.getElem?_eq_some_iff.1 h).1; omega
  rw [List.take_add_one, h, diffF_app, hk, Nat.zero_add]
  congr 1
theorem diffF_len (was : List (List V)) : ∀ (i : Nat) (a : List (List V)), (diffF was i a).length ≤ a.length
  | i, [] => Nat.le_refl _
  | i, r :: s => by
    have := diffF_len was (i + 1) s
    rw [diffF]; split <;> simp only [List.length_cons] <;> omega
noncomputable def chgM (was now : TB) : List Int × Int := if sameTB now was = true ∧ was.rows.length ≤ now.rows.length then (diffF was.rows 0 now.rows, 0) else ([], 11)
def chgA (R : List Int × Int) : AV := .tup [.ro true 1 (R.1.map eI), .r (.int .i64 R.2)]
set_option maxHeartbeats 4000000 in
theorem changed_con {G : List (Nat × List Value)} (T : Tabs G) (HR : RepCon G) (was now : TB) (hw : okTB was) (hn : okTB now) : Con Go.Proofs.Tryz.prog G 12 [.agg (eTB was), .agg (eTB now)] [] 0 (Is (chgA (chgM was now)) [] 0) No := by
  have tw := table_con T HR was hw
  have tn := table_con T HR now hn
  have ec := equalC_con G true true now.cols was.cols hn.cl hw.cl
  have hwl := hw.rl
  have hnl := hn.rl
  simp only [eTB] at tw tn
  rw [chgM]
  by_cases hs : sameTB now was = true ∧ was.rows.length ≤ now.rows.length
  rotate_left
  · rw [if_neg hs, chgA]
    refine Con.res (y := .tup [.r (.slice none 0 0), .r (.int .i64 11)]) ?_ (fun w z th v hr => rep_tupnil hr)
    refine con_of_awp Go.Proofs.Tryz.func12 rfl (by kernel_rfl) (of_decide_eq_true (by kernel_rfl)) ?_; intro E hG hE; subst hG; simp only [ent]
    cases h1 : tabM now
    · rw [h1] at tn
      (repeat' (first | refine awp_seq ?_ | ((first | refine rR (fun K kp hK hkp => ?_) | refine cR tn ?_); simp (implicitDefEqProofs := false) (maxSteps := 2000000) (disch := omega) only [go_sem, eTB]; (repeat' (refine hK _ ?_; clear hK hkp kp K))) | refine awp_cond_t rfl ?_ | refine awp_ret ?_))
      (refine retA_is (by (simp (implicitDefEqProofs := false) (maxSteps := 2000000) (disch := omega) only [go_sem, Go.Proofs.Tryz.results12]); rfl) ?_; refine eN hE ?_; simp [oneA, ren, renL])
    rw [h1] at tn
    cases h2 : tabM was
    · rw [h2] at tw
      (repeat' (first | refine awp_seq ?_ | ((first | refine rR (fun K kp hK hkp => ?_) | refine cR tn ?_ | refine cR tw ?_); simp (implicitDefEqProofs := false) (maxSteps := 2000000) (disch := omega) only [go_sem, eTB]; (repeat' (refine hK _ ?_; clear hK hkp kp K))) | refine awp_cond_t rfl ?_ | refine awp_ret ?_))
      (refine retA_is (by (simp (implicitDefEqProofs := false) (maxSteps := 2000000) (disch := omega) only [go_sem, Go.Proofs.Tryz.results12]); rfl) ?_; refine eN hE ?_; simp [oneA, ren, renL])
    rw [h2] at tw
    cases h3 : (now.nm.toList == was.nm.toList)
    · (repeat' (first | refine awp_seq ?_ | ((first | refine rR (fun K kp hK hkp => ?_) | refine cR tn ?_ | refine cR tw ?_); simp (implicitDefEqProofs := false) (maxSteps := 2000000) (disch := omega) only [go_sem, eTB, h3]; (repeat' (refine hK _ ?_; clear hK hkp kp K))) | refine awp_cond_t rfl ?_ | refine awp_ret ?_))
      (refine retA_is (by (simp (implicitDefEqProofs := false) (maxSteps := 2000000) (disch := omega) only [go_sem, Go.Proofs.Tryz.results12]); rfl) ?_; refine eN hE ?_; simp [oneA, ren, renL])
    cases h4 : sameCs now.cols was.cols
    · rw [h4] at ec
      (repeat' (first | refine awp_seq ?_ | ((first | refine rR (fun K kp hK hkp => ?_) | refine cR tn ?_ | refine cR tw ?_ | refine cR ec ?_); simp (implicitDefEqProofs := false) (maxSteps := 2000000) (disch := omega) only [go_sem, eTB, h3]; (repeat' (refine hK _ ?_; clear hK hkp kp K))) | refine awp_cond_t rfl ?_ | refine awp_ret ?_))
      (refine retA_is (by (simp (implicitDefEqProofs := false) (maxSteps := 2000000) (disch := omega) only [go_sem, Go.Proofs.Tryz.results12]); rfl) ?_; refine eN hE ?_; simp [oneA, ren, renL])
    rw [h4] at ec
    have h5 : now.rows.length < was.rows.length := by
      rcases Nat.lt_or_ge now.rows.length was.rows.length with h | h
      · exact h
      · exact absurd ⟨by rw [sameTB, h1, h2, h3, h4]; rfl, h⟩ hs
    have z5 : ((now.rows.length : Int) < (was.rows.length : Int)) = True := eq_true (by omega)
    (repeat' (first | refine awp_seq ?_ | ((first | refine rR (fun K kp hK hkp => ?_) | refine cR tn ?_ | refine cR tw ?_ | refine cR ec ?_); simp (implicitDefEqProofs := false) (maxSteps := 2000000) (disch := omega) only [go_sem, eTB, h3, z5]; (repeat' (refine hK _ ?_; clear hK hkp kp K))) | refine awp_cond_t rfl ?_ | refine awp_ret ?_))
    (refine retA_is (by (simp (implicitDefEqProofs := false) (maxSteps := 2000000) (disch := omega) only [go_sem, Go.Proofs.Tryz.results12]); rfl) ?_; refine eN hE ?_; simp [oneA, ren, renL])
  rw [if_pos hs, chgA]
  obtain ⟨hs1, hs2⟩ := hs
  simp only [sameTB, Bool.and_eq_true] at hs1
  obtain ⟨h1, h2, h3, h4⟩ := hs1
  have hok := tab_rl h1
  rw [h1] at tn
  rw [h2] at tw
  rw [h4] at ec
  have z5 : ((now.rows.length : Int) < (was.rows.length : Int)) = False := eq_false (by omega)
  refine con_of_awp Go.Proofs.Tryz.func12 rfl (by kernel_rfl) (of_decide_eq_true (by kernel_rfl)) ?_; intro E hG hE; subst hG; simp only [ent]
  (repeat' (first | refine awp_seq ?_ | refine awp_block ?_ | refine awp_skip ?_ | ((first | refine rR (fun K kp hK hkp => ?_) | refine cR tn ?_ | refine cR tw ?_ | refine cR ec ?_); simp (implicitDefEqProofs := false) (maxSteps := 2000000) (disch := omega) only [go_sem, eTB, h3, z5]; (repeat' (refine hK _ ?_; clear hK hkp kp K))) | refine awp_cond_f rfl ?_))
  clear tn tw ec
  (refine AWP.emb (emb_nil 6 3 1 ?_) ?_; (· rfl); dsimp only)
  refine awp_loop (fun k : Nat => ⟨[(45, .r (.int .i64 k)), (44, .r (.int .i64 now.rows.length)), (43, .ro true 1 (now.rows.map eRw)), (6, .s 2 0 (diffF was.rows 0 (now.rows.take k)).length), (3, .p 1 0 0), (2, .p 0 0 0)], [(0, .box 35 (eTB was)), (1, .box 35 (eTB now)), (2, .lst 3 1 ((diffF was.rows 0 (now.rows.take k)).map eI))], 3⟩) (fun k => k ≤ now.rows.length) (fun k => now.rows.length - k) 0 ?_ ?_ ?_
  · exact Nat.zero_le _
  · (refine embK hE [0, 1, 2] rfl ?_ ?_ <;> simp [okM, okO, lk, ren, renL, renNd, by_, eTB, diffF] <;> (try omega))
  intro k hk
  have hdl := diffF_len was.rows 0 (now.rows.take k)
  have hdl2 : (now.rows.take k).length ≤ k := by rw [List.length_take]; omega
  by_cases hlt : k < now.rows.length
  · have zk : ((k : Int) < (now.rows.length : Int)) = True := eq_true (by omega)
    obtain ⟨x, hx⟩ : ∃ x, now.rows[k]? = some x := ⟨_, List.getElem?_eq_getElem hlt⟩
    have hst := diffF_step (was := was.rows) hx
    obtain ⟨ho1, ho2⟩ := hn.rs x (List.mem_of_getElem? hx)
    by_cases hkw : k < was.rows.length
    · have zw : ((k : Int) < (was.rows.length : Int)) = True := eq_true (by omega)
      have zw2 : ((k : Int) ≥ (was.rows.length : Int)) = False := eq_false (by omega)
      obtain ⟨y, hy⟩ : ∃ y, was.rows[k]? = some y := ⟨_, List.getElem?_eq_getElem hkw⟩
      have hsl : slotR was.rows k = y := by rw [slotR, List.getD_eq_getElem?_getD, hy]; rfl
      have ev := equalV_con E.G true true x y ho1 (hw.rs y (List.mem_of_getElem? hy)).1
      rw [hsl] at hst
      cases hv : sameVs x y
      · rw [hv, if_neg (by simp)] at hst
        rw [hv] at ev
        (repeat' (first | refine awp_seq ?_ | refine awp_block ?_ | refine awp_skip ?_ | ((first | refine rR (fun K kp hK hkp => ?_) | refine cR ev ?_); simp (implicitDefEqProofs := false) (maxSteps := 2000000) (disch := omega) only [go_sem, zk, zw, zw2, hx, hy, eTB, eRw, eI, Value.oneCell']; (repeat' (first | (refine hK _ ?_; clear hK hkp kp K) | (with_reducible refine And.intro ?_ ?_) | omega))) | refine awp_cond_t rfl ?_))
        ((refine nextA (k + 1) ?_ ?_ ?_); rotate_left; (· (try dsimp only); (omega)); (· (refine embK hE [0, 1, 4] rfl ?_ ?_ <;> simp [okM, okO, lk, ren, renL, renNd, by_, hst, eTB, eI] <;> (try omega))))
        omega
      · rw [hv, if_pos ⟨hkw, rfl⟩, List.append_nil] at hst
        rw [hv] at ev
        (repeat' (first | refine awp_seq ?_ | refine awp_block ?_ | refine awp_skip ?_ | ((first | refine rR (fun K kp hK hkp => ?_) | refine cR ev ?_); simp (implicitDefEqProofs := false) (maxSteps := 2000000) (disch := omega) only [go_sem, zk, zw, zw2, hx, hy, eTB, eRw, eI]; (repeat' (refine hK _ ?_; clear hK hkp kp K))) | refine awp_cond_t rfl ?_ | refine awp_cond_f rfl ?_))
        ((refine nextA (k + 1) ?_ ?_ ?_); rotate_left; (· (try dsimp only); (omega)); (· (refine embK hE [0, 1, 2] rfl ?_ ?_ <;> simp [okM, okO, lk, ren, renL, renNd, by_, hst, eTB, eI] <;> (try omega))))
        omega
    · have zw : ((k : Int) < (was.rows.length : Int)) = False := eq_false (by omega)
      have zw2 : ((k : Int) ≥ (was.rows.length : Int)) = True := eq_true (by omega)
      have ev := (equalV_con E.G true true x [] ho1 (Nat.zero_le _)).weak (xs := [.ro true 3 (x.map eV), .r (.slice none 0 0)]) (by simp [wkL, wk])
      rw [if_neg (fun h => hkw h.1)] at hst
      cases hv : sameVs x []
      · rw [hv] at ev
        (repeat' (first | refine awp_seq ?_ | refine awp_block ?_ | refine awp_skip ?_ | ((first | refine rR (fun K kp hK hkp => ?_) | refine cR ev ?_); simp (implicitDefEqProofs := false) (maxSteps := 2000000) (disch := omega) only [go_sem, zk, zw, zw2, hx, eTB, eRw, eI, Value.oneCell']; (repeat' (first | (refine hK _ ?_; clear hK hkp kp K) | (with_reducible refine And.intro ?_ ?_) | omega))) | refine awp_cond_t rfl ?_ | refine awp_cond_f rfl ?_))
        ((refine nextA (k + 1) ?_ ?_ ?_); rotate_left; (· (try dsimp only); (omega)); (· (refine embK hE [0, 1, 4] rfl ?_ ?_ <;> simp [okM, okO, lk, ren, renL, renNd, by_, hst, eTB, eI] <;> (try omega))))
        omega
      · rw [hv] at ev
        (repeat' (first | refine awp_seq ?_ | refine awp_block ?_ | refine awp_skip ?_ | ((first | refine rR (fun K kp hK hkp => ?_) | refine cR ev ?_); simp (implicitDefEqProofs := false) (maxSteps := 2000000) (disch := omega) only [go_sem, zk, zw, zw2, hx, eTB, eRw, eI, Value.oneCell']; (repeat' (first | (refine hK _ ?_; clear hK hkp kp K) | (with_reducible refine And.intro ?_ ?_) | omega))) | refine awp_cond_t rfl ?_ | refine awp_cond_f rfl ?_))
        ((refine nextA (k + 1) ?_ ?_ ?_); rotate_left; (· (try dsimp only); (omega)); (· (refine embK hE [0, 1, 4] rfl ?_ ?_ <;> simp [okM, okO, lk, ren, renL, renNd, by_, hst, eTB, eI] <;> (try omega))))
        omega
  · have zk : ((k : Int) < (now.rows.length : Int)) = False := eq_false (by omega)
    obtain rfl : k = now.rows.length := by omega
    rw [List.take_length]
    (repeat' (first | refine awp_seq ?_ | refine awp_exit ?_ | ((refine rR (fun K kp hK hkp => ?_)); simp (implicitDefEqProofs := false) (maxSteps := 2000000) (disch := omega) only [go_sem, zk, eTB]; (repeat' (refine hK _ ?_; clear hK hkp kp K))) | refine awp_cond_f rfl ?_ | refine awp_ret ?_))
    (refine retA_is (by (simp (implicitDefEqProofs := false) (maxSteps := 2000000) (disch := omega) only [go_sem, Go.Proofs.Tryz.results12]); rfl) ?_; refine embS_frz (by simp only [oneA]; simp (implicitDefEqProofs := false) (maxSteps := 2000000) (disch := omega) only [go_sem]; rfl) ?_; refine (embV_nil hE (by simp) ?_).s; simp [oneA, ren, renL])
set_option maxHeartbeats 4000000 in
theorem tableChanged_con (G : List (Nat × List Value)) (was now : TB) (hw : okTB was) (hn : okTB now) : Con Go.Proofs.Tryz.prog G 14 [.agg (eTB was), .agg (eTB now)] [] 0 (Is (chgA (chgM was now)) [] 0) No := by
  have st := sameTable_con G now was hn hw
  have hwl := hw.rl
  have hnl := hn.rl
  simp only [eTB] at st
  rw [chgM]
  by_cases hs : sameTB now was = true ∧ was.rows.length ≤ now.rows.length
  rotate_left
  · rw [if_neg hs, chgA]
    refine Con.res (y := .tup [.r (.slice none 0 0), .r (.int .i64 11)]) ?_ (fun w z th v hr => rep_tupnil hr)
    refine con_of_awp Go.Proofs.Tryz.func14 rfl (by kernel_rfl) (of_decide_eq_true (by kernel_rfl)) ?_; intro E hG hE; subst hG; simp only [ent]
    cases h1 : sameTB now was
    · rw [h1] at st
      (repeat' (first | refine awp_seq ?_ | ((first | refine rR (fun K kp hK hkp => ?_) | refine cR st ?_); simp (implicitDefEqProofs := false) (maxSteps := 2000000) (disch := omega) only [go_sem, eTB]; (repeat' (refine hK _ ?_; clear hK hkp kp K))) | refine awp_cond_t rfl ?_ | refine awp_ret ?_))
      (refine retA_is (by (simp (implicitDefEqProofs := false) (maxSteps := 2000000) (disch := omega) only [go_sem, Go.Proofs.Tryz.results14]); rfl) ?_; refine eN hE ?_; simp [oneA, ren, renL])
    rw [h1] at st
    have z5 : ((now.rows.length : Int) < (was.rows.length : Int)) = True := eq_true (by
      rcases Nat.lt_or_ge now.rows.length was.rows.length with h | h
      · omega
      · exact absurd ⟨h1, h⟩ hs)
    (repeat' (first | refine awp_seq ?_ | ((first | refine rR (fun K kp hK hkp => ?_) | refine cR st ?_); simp (implicitDefEqProofs := false) (maxSteps := 2000000) (disch := omega) only [go_sem, eTB, z5]; (repeat' (refine hK _ ?_; clear hK hkp kp K))) | refine awp_cond_t rfl ?_ | refine awp_ret ?_))
    (refine retA_is (by (simp (implicitDefEqProofs := false) (maxSteps := 2000000) (disch := omega) only [go_sem, Go.Proofs.Tryz.results14]); rfl) ?_; refine eN hE ?_; simp [oneA, ren, renL])
  rw [if_pos hs, chgA]
  obtain ⟨hs1, hs2⟩ := hs
  rw [hs1] at st
  have hok := tab_rl (by simp only [sameTB, Bool.and_eq_true] at hs1; exact hs1.1)
  have z5 : ((now.rows.length : Int) < (was.rows.length : Int)) = False := eq_false (by omega)
  refine con_of_awp Go.Proofs.Tryz.func14 rfl (by kernel_rfl) (of_decide_eq_true (by kernel_rfl)) ?_; intro E hG hE; subst hG; simp only [ent]
  (repeat' (first | refine awp_seq ?_ | refine awp_block ?_ | refine awp_skip ?_ | ((first | refine rR (fun K kp hK hkp => ?_) | refine cR st ?_); simp (implicitDefEqProofs := false) (maxSteps := 2000000) (disch := omega) only [go_sem, eTB, z5]; (repeat' (refine hK _ ?_; clear hK hkp kp K))) | refine awp_cond_f rfl ?_))
  clear st
  (refine AWP.emb (emb_nil 6 3 1 ?_) ?_; (· rfl); dsimp only)
  refine awp_loop (fun k : Nat => ⟨[(7, .r (.int .i64 k)), (6, .s 2 0 (diffF was.rows 0 (now.rows.take k)).length), (3, .p 1 0 0), (2, .p 0 0 0)], [(0, .box 35 (eTB was)), (1, .box 35 (eTB now)), (2, .lst 3 1 ((diffF was.rows 0 (now.rows.take k)).map eI))], 3⟩) (fun k => k ≤ now.rows.length) (fun k => now.rows.length - k) 0 ?_ ?_ ?_
  · exact Nat.zero_le _
  · (refine embK hE [0, 1, 2] rfl ?_ ?_ <;> simp [okM, okO, lk, ren, renL, renNd, by_, eTB, diffF] <;> (try omega))
  intro k hk
  have hdl := diffF_len was.rows 0 (now.rows.take k)
  have hdl2 : (now.rows.take k).length ≤ k := by rw [List.length_take]; omega
  by_cases hlt : k < now.rows.length
  rotate_left
  · have zk : ((k : Int) < (now.rows.length : Int)) = False := eq_false (by omega)
    obtain rfl : k = now.rows.length := by omega
    rw [List.take_length]
    (repeat' (first | refine awp_seq ?_ | refine awp_exit ?_ | ((refine rR (fun K kp hK hkp => ?_)); simp (implicitDefEqProofs := false) (maxSteps := 2000000) (disch := omega) only [go_sem, zk, eTB]; (repeat' (refine hK _ ?_; clear hK hkp kp K))) | refine awp_cond_f rfl ?_ | refine awp_ret ?_))
    (refine retA_is (by (simp (implicitDefEqProofs := false) (maxSteps := 2000000) (disch := omega) only [go_sem, Go.Proofs.Tryz.results14]); rfl) ?_; refine embS_frz (by simp only [oneA]; simp (implicitDefEqProofs := false) (maxSteps := 2000000) (disch := omega) only [go_sem]; rfl) ?_; refine (embV_nil hE (by simp) ?_).s; simp [oneA, ren, renL])
  have zk : ((k : Int) < (now.rows.length : Int)) = True := eq_true (by omega)
  obtain ⟨x, hx⟩ : ∃ x, now.rows[k]? = some x := ⟨_, List.getElem?_eq_getElem hlt⟩
  have hst := diffF_step (was := was.rows) hx
  obtain ⟨ho1, ho2⟩ := hn.rs x (List.mem_of_getElem? hx)
  have sl := slotOf_con E.G was k (by omega) hwl
  obtain ⟨y, hy⟩ : ∃ y, slotR was.rows k = y := ⟨_, rfl⟩
  have hyl : y.length ≤ 1048576 := by
    rw [← hy, slotR, List.getD_eq_getElem?_getD]
    cases hq : was.rows[k]? with
    | none => exact Nat.zero_le _
    | some q => exact (hw.rs q (List.mem_of_getElem? hq)).1
  rw [hy] at sl hst
  simp only [eTB] at sl
  obtain ⟨b0, hb0⟩ : ∃ b0, (decide (k < was.rows.length) && decide (y.length = x.length)) = b0 := ⟨_, rfl⟩
  obtain ⟨R, hR⟩ : ∃ R, (b0 && sameVs y x) = R := ⟨_, rfl⟩
  have hiff : (k < was.rows.length ∧ sameVs x y = true) ↔ R = true := by
    rw [← hR, ← hb0, Bool.and_eq_true, Bool.and_eq_true, decide_eq_true_eq, decide_eq_true_eq, sameVb_comm x y]
    constructor
    · rintro ⟨h1, h2⟩; exact ⟨⟨h1, sameVb_len h2⟩, h2⟩
    · rintro ⟨⟨h1, _⟩, h2⟩; exact ⟨h1, h2⟩
  have hst : diffF was.rows 0 (now.rows.take (k + 1)) = diffF was.rows 0 (now.rows.take k) ++ (if R = true then [] else [(k : Int)]) := by
    rw [hst]
    by_cases h : R = true
    · rw [if_pos h, if_pos (hiff.2 h)]
    · rw [if_neg h, if_neg (fun h' => h (hiff.1 h'))]
  refine awp_seq ?_
  refine awp_seq ?_
  (refine rR (fun K kp hK hkp => ?_); simp (implicitDefEqProofs := false) (maxSteps := 2000000) (disch := omega) only [go_sem, zk, eTB]; (repeat' (refine hK _ ?_; clear hK hkp kp K)))
  refine awp_cond_t rfl ?_
  refine awp_skip ?_
  refine awp_seq ?_
  refine awp_block ?_
  refine awp_cut2 (fx := ⟨[(9, .r (.bool b0)), (8, .ro true 3 (y.map eV)), (7, .r (.int .i64 k)), (6, .s 2 0 (diffF was.rows 0 (now.rows.take k)).length), (3, .p 1 0 0), (2, .p 0 0 0)], [(0, .box 35 (eTB was)), (1, .box 35 (eTB now)), (2, .lst 3 1 ((diffF was.rows 0 (now.rows.take k)).map eI))], 3⟩) ?_ fun K hcut => ?_
  rotate_left
  · by_cases hkw : k < was.rows.length
    · have zw : ((k : Int) < (was.rows.length : Int)) = True := eq_true (by omega)
      by_cases hl : y.length = x.length
      · have zl : ((y.length : Int) == (x.length : Int)) = true := by rw [beq_iff_eq]; omega
        have hb : b0 = true := by rw [← hb0]; simp [hkw, hl]
        rw [hb] at hcut
        (repeat' ((first | refine rR (fun K kp hK hkp => ?_) | refine cR sl ?_); simp (implicitDefEqProofs := false) (maxSteps := 2000000) (disch := omega) only [go_sem, zk, zw, zl, hx, eTB, eRw]; (repeat' (refine hK _ ?_; clear hK hkp kp K))))
        refine hcut _ ?_
        (refine embK hE [0, 1, 2] rfl ?_ ?_ <;> simp [okM, okO, lk, ren, renL, renNd, by_, eTB] <;> (try omega))
      · have zl : ((y.length : Int) == (x.length : Int)) = false := by rw [beq_eq_false_iff_ne]; omega
        have hb : b0 = false := by rw [← hb0]; simp [hl]
        rw [hb] at hcut
        (repeat' ((first | refine rR (fun K kp hK hkp => ?_) | refine cR sl ?_); simp (implicitDefEqProofs := false) (maxSteps := 2000000) (disch := omega) only [go_sem, zk, zw, zl, hx, eTB, eRw]; (repeat' (refine hK _ ?_; clear hK hkp kp K))))
        refine hcut _ ?_
        (refine embK hE [0, 1, 2] rfl ?_ ?_ <;> simp [okM, okO, lk, ren, renL, renNd, by_, eTB] <;> (try omega))
    · have zw : ((k : Int) < (was.rows.length : Int)) = False := eq_false (by omega)
      have hb : b0 = false := by rw [← hb0]; simp [hkw]
      rw [hb] at hcut
      (repeat' ((first | refine rR (fun K kp hK hkp => ?_) | refine cR sl ?_); simp (implicitDefEqProofs := false) (maxSteps := 2000000) (disch := omega) only [go_sem, zk, zw, hx, eTB, eRw]; (repeat' (refine hK _ ?_; clear hK hkp kp K))))
      refine hcut _ ?_
      (refine embK hE [0, 1, 2] rfl ?_ ?_ <;> simp [okM, okO, lk, ren, renL, renNd, by_, eTB] <;> (try omega))
  have hlen : b0 = true → y.length = x.length := fun h => by rw [← hb0] at h; simp at h; exact h.2
  clear hiff hb0 sl
  (repeat' (first | refine awp_seq ?_ | refine awp_block ?_ | ((refine rR (fun K kp hK hkp => ?_)); simp (implicitDefEqProofs := false) (maxSteps := 2000000) (disch := omega) only [go_sem, eTB]; (repeat' (refine hK _ ?_; clear hK hkp kp K)))))
  refine awp_loop (fun (q : Nat × Bool) => ⟨[(10, .r (.int .i64 q.1)), (9, .r (.bool q.2)), (8, .ro true 3 (y.map eV)), (7, .r (.int .i64 k)), (6, .s 2 0 (diffF was.rows 0 (now.rows.take k)).length), (3, .p 1 0 0), (2, .p 0 0 0)], [(0, .box 35 (eTB was)), (1, .box 35 (eTB now)), (2, .lst 3 1 ((diffF was.rows 0 (now.rows.take k)).map eI))], 3⟩)
    (fun q => q.1 ≤ y.length ∧ (q.2 = true → y.length = x.length) ∧ (q.2 && sameVs (y.drop q.1) (x.drop q.1)) = R) (fun q => y.length - q.1) (0, b0) ?_ ?_ ?_
  · exact ⟨Nat.zero_le _, hlen, by simpa using hR⟩
  · (refine embK hE [0, 1, 2] rfl ?_ ?_ <;> simp [okM, okO, lk, ren, renL, renNd, by_, eTB] <;> (try omega))
  rintro ⟨j, b⟩ ⟨hj, hjl, hjr⟩
  simp only at hj hjl hjr
  by_cases hjy : j < y.length
  · have zj : ((j : Int) < (y.length : Int)) = True := eq_true (by omega)
    cases b
    · have hjr : false = R := by simpa using hjr
      rw [← hjr] at hst
      simp only [Bool.false_eq_true, ↓reduceIte] at hst
      (repeat' (first | refine awp_seq ?_ | refine awp_exit ?_ | ((refine rR (fun K kp hK hkp => ?_)); simp (implicitDefEqProofs := false) (maxSteps := 2000000) (disch := omega) only [go_sem, zj, hx, eTB, eRw, eI, Value.oneCell']; (repeat' (first | (refine hK _ ?_; clear hK hkp kp K) | (with_reducible refine And.intro ?_ ?_) | omega))) | refine awp_cond_t rfl ?_ | refine awp_cond_f rfl ?_))
      ((refine nextA (k + 1) ?_ ?_ ?_); rotate_left; (· (try dsimp only); (omega)); (· (refine embK hE [0, 1, 4] rfl ?_ ?_ <;> simp [okM, okO, lk, ren, renL, renNd, by_, hst, eTB, eI] <;> (try omega))))
      omega
    · have hl := hjl rfl
      have zx : ((j : Int) < (x.length : Int)) = True := eq_true (by omega)
      obtain ⟨u, hu⟩ : ∃ u, y[j]? = some u := ⟨_, List.getElem?_eq_getElem hjy⟩
      obtain ⟨v, hv⟩ : ∃ v, x[j]? = some v := ⟨x[j]'(by omega), by simp⟩
      rw [drop_at hu, drop_at hv, sameVs] at hjr
      (repeat' (first | refine awp_seq ?_ | refine awp_block ?_ | refine awp_skip ?_ | ((first | refine rR (fun K kp hK hkp => ?_) | refine rD (id := 12) mixed 14 [0,1,2,3,4,5,6,7,8,9,10,11,12,13] (fun K kp hK hkp => ?_)); simp (implicitDefEqProofs := false) (maxSteps := 2000000) (disch := omega) only [go_sem, zj, zx, zk, hx, hu, hv, eTB, eRw, eV]; (repeat' (refine hK _ ?_; clear hK hkp kp K))) | refine awp_cond_t rfl ?_))
      ((refine nextA ((j + 1, sameV u v)) ?_ ?_ ?_); rotate_left; (· (try dsimp only); (omega)); (· (refine embK hE [0, 1, 2] rfl ?_ ?_ <;> simp [okM, okO, lk, ren, renL, renNd, by_, eTB, sameV] <;> (try omega))))
      exact ⟨by omega, fun _ => hl, by simpa using hjr⟩
  · have zj : ((j : Int) < (y.length : Int)) = False := eq_false (by omega)
    have hb : b = R := by
      cases b
      · simpa using hjr
      · have hl := hjl rfl
        rw [List.drop_of_length_le (by omega), List.drop_of_length_le (by omega), sameVs] at hjr
        simpa using hjr
    subst hb
    cases b
    · simp only [Bool.false_eq_true, ↓reduceIte] at hst
      (repeat' (first | refine awp_seq ?_ | refine awp_exit ?_ | ((refine rR (fun K kp hK hkp => ?_)); simp (implicitDefEqProofs := false) (maxSteps := 2000000) (disch := omega) only [go_sem, zj, hx, eTB, eRw, eI, Value.oneCell']; (repeat' (first | (refine hK _ ?_; clear hK hkp kp K) | (with_reducible refine And.intro ?_ ?_) | omega))) | refine awp_cond_t rfl ?_ | refine awp_cond_f rfl ?_))
      ((refine nextA (k + 1) ?_ ?_ ?_); rotate_left; (· (try dsimp only); (omega)); (· (refine embK hE [0, 1, 4] rfl ?_ ?_ <;> simp [okM, okO, lk, ren, renL, renNd, by_, hst, eTB, eI] <;> (try omega))))
      omega
    · simp only [↓reduceIte, List.append_nil] at hst
      (repeat' (first | refine awp_seq ?_ | refine awp_skip ?_ | refine awp_exit ?_ | ((refine rR (fun K kp hK hkp => ?_)); simp (implicitDefEqProofs := false) (maxSteps := 2000000) (disch := omega) only [go_sem, zj, hx, eTB, eRw, eI]; (repeat' (refine hK _ ?_; clear hK hkp kp K))) | refine awp_cond_f rfl ?_))
      ((refine nextA (k + 1) ?_ ?_ ?_); rotate_left; (· (try dsimp only); (omega)); (· (refine embK hE [0, 1, 2] rfl ?_ ?_ <;> simp [okM, okO, lk, ren, renL, renNd, by_, hst, eTB, eI] <;> (try omega))))
      omega
theorem lawBaseChanges_con {G : List (Nat × List Value)} (T : Tabs G) (HR : RepCon G) (was now : TB) (hw : okTB was) (hn : okTB now) : Con Go.Proofs.Tryz.prog G 4 [.agg (eTB was), .agg (eTB now)] [] 0 (Is (.r (.bool true)) [] 0) No := by
  have c1 := tableCopy_con G was hw
  have c2 := tableCopy_con G now hn
  have pc := changed_con T HR was now hw hn
  have rc := tableChanged_con G was now hw hn
  have hl : (chgM was now).1.length ≤ 1048576 := by
    unfold chgM
    split
    · rename_i h
      have := diffF_len was.rows 0 now.rows
      have := hn.rl
      simp only; omega
    · exact Nat.zero_le _
  generalize chgM was now = R at *
  obtain ⟨R1, R2⟩ := R
  have sc := sameI_con G true true R1 hl
  rw [chgA] at pc rc
  simp only [eTB] at c1 c2 pc rc
  refine con_of_awp Go.Proofs.Tryz.func4 rfl (by kernel_rfl) (of_decide_eq_true (by kernel_rfl)) ?_; intro E hG hE; subst hG; simp only [ent]
  (repeat' (first | refine awp_seq ?_ | ((first | refine rR (fun K kp hK hkp => ?_) | refine rD (id := 1) mixed 10 [0,2,1,3,4,5,6,7,8,9] (fun K kp hK hkp => ?_) | refine cD c1 ?_ | refine cD c2 ?_ | refine cD pc ?_ | refine cR rc ?_ | refine cR sc ?_); simp (implicitDefEqProofs := false) (maxSteps := 2000000) (disch := omega) only [go_sem, beq_self_eq_true, eTB]; (repeat' (refine hK _ ?_; clear hK hkp kp K))) | refine awp_ret ?_))
  (refine retA_is (by (simp (implicitDefEqProofs := false) (maxSteps := 2000000) (disch := omega) only [go_sem, Go.Proofs.Tryz.results4]); rfl) ?_; refine eN hE ?_; simp [oneA, ren, renL])
end Go.AM
namespace Go.Proofs.YtekljlenlbhmcaaGreatDoor
open Go.Shelf
def Sh.lays155_ren : Go.Shelf.Ren := ⟨fun | 155 => 119 | 154 => 179 | 138 => 223 | 165 => 224 | 143 => 225 | 166 => 226 | 197 => 227 | 169 => 228 | 195 => 242 | 218 => 243 | 240 => 244 | 241 => 245 | 219 => 246 | 260 => 247 | 276 => 258 | 277 => 259 | 217 => 260 | 225 => 261 | 224 => 262 | 267 => 263 | 266 => 271 | 314 => 272 | n => n, fun | 9 => 9 | 3 => 3 | 4 => 4 | 72 => 244 | 0 => 0 | 76 => 248 | 105 => 250 | 21 => 21 | 5 => 5 | 70 => 242 | 20 => 20 | 37 => 81 | 75 => 247 | 127 => 264 | 164 => 270 | 46 => 233 | 119 => 272 | 139 => 275 | 138 => 274 | 146 => 281 | 51 => 280 | 80 => 252 | n => n, fun | 1 => 3 | 3 => 4 | 4 => 5 | n => n⟩
theorem Sh.lays155 : Go.Proofs.Lays.n155 Tryz.prog Sh.lays155_ren := {
  mixed := by kernel_rfl
  f138 := Tryz.func223.trans (congrArg some (by kernel_rfl))
  f143 := Tryz.func225.trans (congrArg some (by kernel_rfl))
  f154 := Tryz.func179.trans (congrArg some (by kernel_rfl))
  f155 := Tryz.func119.trans (congrArg some (by kernel_rfl))
  f165 := Tryz.func224.trans (congrArg some (by kernel_rfl))
  f166 := Tryz.func226.trans (congrArg some (by kernel_rfl))
  f169 := Tryz.func228.trans (congrArg some (by kernel_rfl))
  f195 := Tryz.func242.trans (congrArg some (by kernel_rfl))
  f197 := Tryz.func227.trans (congrArg some (by kernel_rfl))
  f217 := Tryz.func260.trans (congrArg some (by kernel_rfl))
  f218 := Tryz.func243.trans (congrArg some (by kernel_rfl))
  f219 := Tryz.func246.trans (congrArg some (by kernel_rfl))
  f224 := Tryz.func262.trans (congrArg some (by kernel_rfl))
  f225 := Tryz.func261.trans (congrArg some (by kernel_rfl))
  f240 := Tryz.func244.trans (congrArg some (by kernel_rfl))
  f241 := Tryz.func245.trans (congrArg some (by kernel_rfl))
  f260 := Tryz.func247.trans (congrArg some (by kernel_rfl))
  f266 := Tryz.func271.trans (congrArg some (by kernel_rfl))
  f267 := Tryz.func263.trans (congrArg some (by kernel_rfl))
  f276 := Tryz.func258.trans (congrArg some (by kernel_rfl))
  f277 := Tryz.func259.trans (congrArg some (by kernel_rfl))
  f314 := Tryz.func272.trans (congrArg some (by kernel_rfl))
  t0 := Tryz.underlying0
  a0 := Tryz.isAgg0
  z0 := Tryz.sizeOf0
  v0 := Tryz.zeroValue0
  t3 := Tryz.underlying3
  a3 := Tryz.isAgg3
  z3 := Tryz.sizeOf3
  v3 := Tryz.zeroValue3
  t4 := Tryz.underlying4
  a4 := Tryz.isAgg4
  z4 := Tryz.sizeOf4
  v4 := Tryz.zeroValue4
  t5 := Tryz.underlying5
  a5 := Tryz.isAgg5
  z5 := Tryz.sizeOf5
  v5 := Tryz.zeroValue5
  t9 := Tryz.underlying9
  a9 := Tryz.isAgg9
  z9 := Tryz.sizeOf9
  v9 := Tryz.zeroValue9
  t20 := Tryz.underlying20
  a20 := Tryz.isAgg20
  z20 := Tryz.sizeOf20
  v20 := Tryz.zeroValue20
  t21 := Tryz.underlying21
  a21 := Tryz.isAgg21
  z21 := Tryz.sizeOf21
  v21 := Tryz.zeroValue21
  t37 := Tryz.underlying81
  a37 := Tryz.isAgg81
  z37 := Tryz.sizeOf81
  v37 := Tryz.zeroValue81
  t46 := Tryz.underlying233
  a46 := Tryz.isAgg233
  z46 := Tryz.sizeOf233
  v46 := Tryz.zeroValue233
  t51 := Tryz.underlying280
  a51 := Tryz.isAgg280
  z51 := Tryz.sizeOf280
  v51 := Tryz.zeroValue280
  t70 := Tryz.underlying242
  a70 := Tryz.isAgg242
  z70 := Tryz.sizeOf242
  v70 := Tryz.zeroValue242
  t72 := Tryz.underlying244
  a72 := Tryz.isAgg244
  z72 := Tryz.sizeOf244
  v72 := Tryz.zeroValue244
  t75 := Tryz.underlying247
  a75 := Tryz.isAgg247
  z75 := Tryz.sizeOf247
  v75 := Tryz.zeroValue247
  t76 := Tryz.underlying248
  a76 := Tryz.isAgg248
  z76 := Tryz.sizeOf248
  v76 := Tryz.zeroValue248
  t105 := Tryz.underlying250
  a105 := Tryz.isAgg250
  z105 := Tryz.sizeOf250
  v105 := Tryz.zeroValue250
  t119 := Tryz.underlying272
  a119 := Tryz.isAgg272
  z119 := Tryz.sizeOf272
  t127 := Tryz.underlying264
  a127 := Tryz.isAgg264
  z127 := Tryz.sizeOf264
  v127 := Tryz.zeroValue264
  t138 := Tryz.underlying274
  a138 := Tryz.isAgg274
  z138 := Tryz.sizeOf274
  v138 := Tryz.zeroValue274
  t139 := Tryz.underlying275
  a139 := Tryz.isAgg275
  z139 := Tryz.sizeOf275
  v139 := Tryz.zeroValue275
  t146 := Tryz.underlying281
  a146 := Tryz.isAgg281
  z146 := Tryz.sizeOf281
  v146 := Tryz.zeroValue281
  t164 := Tryz.underlying270
  a164 := Tryz.isAgg270
  z164 := Tryz.sizeOf270
  v164 := Tryz.zeroValue270
  g1 := by kernel_rfl
  g3 := by kernel_rfl
  g4 := by kernel_rfl }
theorem Sh.Builder_Extra_155 : Builder.Extra Tryz.prog Sh.lays155_ren := {
  sizeBuilder := by kernel_rfl
  liesBuilder := by kernel_rfl
  t5 := Tryz.underlying5
  a5 := Tryz.isAgg5
  z5 := Tryz.sizeOf5
  v5 := Tryz.zeroValue5
  infoByte := by kernel_rfl
  cellsByte := by kernel_rfl
  sizeByte := by kernel_rfl
  neB5 := by decide }
open Go.RowKit Go.Lib in
theorem Sh.strings_ReplaceAll (s old new : ByteArray) (m : Int) (w : World) (hs : s.size < 4294967281) (hm : w.cell? ⟨3, 0, none⟩ = some (.int .i64 m)) (h1 : 1 ≤ old.size) (hlen : s.size + Lib.countB s old * new.size ≤ 140737488355328) :
    Calls Tryz.prog 119 #[.string s, .string old, .string new] w fun e w' =>
      e = .returned (.string ⟨(Lib.replaceAll s.data.toList old.data.toList new.data.toList).toArray⟩) ∧ Below w.heap.size w w' := Any.strings_ReplaceAll Sh.lays155 Sh.Builder_Extra_155 s old new m w hs hm h1 hlen
end Go.Proofs.YtekljlenlbhmcaaGreatDoor
namespace Go.AM
open Go Go.RowKit
attribute [local irreducible] AWP retA
theorem rep_of {G : List (Nat × List Value)} {m : Int} (hm : (3, [Value.int .i64 m]) ∈ G) (c : UInt8) (new : List UInt8) (hn : ([c] == new) = false) (hl : new.length ≤ 2) (s : ByteArray) (hs : s.size ≤ 400) :
    Con Go.Proofs.Tryz.prog G 119 [.r (.string s), .r (.string ⟨#[c]⟩), .r (.string ⟨new.toArray⟩)] [] 0 (Is (.r (.string ⟨(repM c new s.data.toList).toArray⟩)) [] 0) No :=
  con_of_calls (by kernel_rfl) (fun w z vs hz hr hG => by
    obtain ⟨v, r, rfl, h1, h2⟩ := hr.head
    obtain ⟨v2, r2, rfl, h3, h4⟩ := h2.head
    obtain ⟨v3, r3, rfl, h5, h6⟩ := h4.head
    obtain rfl := h1.r_inv
    obtain rfl := h3.r_inv
    obtain rfl := h5.r_inv
    obtain rfl := h6.of_nil
    have hc : w.cell? ⟨3, 0, none⟩ = some (.int .i64 m) := (hG _ _ hm).2 0 _ rfl
    have hle : Lib.countB s ⟨#[c]⟩ ≤ s.size + 1 := by
      have := Lib.count_le s.data.toList [c]
      rw [ba_len]; exact this
    have key := Go.Proofs.YtekljlenlbhmcaaGreatDoor.Sh.strings_ReplaceAll s ⟨#[c]⟩ ⟨new.toArray⟩ m w (by omega) hc (Nat.le_refl 1) (by
      have e : (⟨new.toArray⟩ : ByteArray).size = new.length := by rw [ba_len]
      rw [e]
      have : Lib.countB s ⟨#[c]⟩ * new.length ≤ 401 * 2 := Nat.mul_le_mul (by omega) hl
      omega)
    have e : Lib.replaceAll s.data.toList [c] new = repM c new s.data.toList := replaceAll_one c new _ hn
    have key2 : Calls Go.Proofs.Tryz.prog 119 #[.string s, .string ⟨#[c]⟩, .string ⟨new.toArray⟩] w fun e w' => e = .returned (.string ⟨(repM c new s.data.toList).toArray⟩) ∧ Below w.heap.size w w' := by
      rw [← e]; exact key
    exact key2)
theorem repCon_of {G : List (Nat × List Value)} {m : Int} (hm : (3, [Value.int .i64 m]) ∈ G) : RepCon G := fun s hs => rep_of hm 0 [0, 255] (by decide) (by simp) s hs
end Go.AM
namespace Go.Proofs.YtekljlenlbhmcaaGreatDoor
open Go.ChangeShapes Go.WideShapes Go.ChangeAt Go.RowKit
theorem own : ownKnob Tryz.prog.godebug = none := by kernel_rfl
theorem laidOut : laidOutB Tryz.prog = true := by kernel_rfl
theorem open_str {H : Type} {enc : TypeId × Value → H} {w : World} {base : Nat} {spare : Nat → Bool} {held : Bool} {b0 : Nat} {v : Value} {d : DataW H} {p : List MemPlace}
    (hv : Value.okWide Tryz.prog w .any b0 9 v) (h : DataW.Trod enc Tryz.prog w base spare held 9 v d p) : ∃ s : ByteArray, v = .string s ∧ s.size ≤ maxLen := by
  obtain ⟨s, rfl, _, _, w0⟩ := Go.ChangeMaps.open_string Tryz.underlying9 hv h
  exact ⟨s, rfl, w0⟩
theorem arrS {P : Program} {w : World} {t e : TypeId} {n fuel : Nat} {cs : List Value} {ls : List (List UInt8)} {p : List MemPlace} {base : Nat} {spare : Nat → Bool} {held : Bool}
    (ht : P.underlying t = some (.array n e)) (he : P.underlying e = some .string) (hce : P.cellsOf e = 1)
    (h : DataW.trod (fun _ => ()) P w base spare held fuel t cs = some (.agg (ls.map fun l => .lit (.string l)), p)) :
    ls.length = n ∧ ∀ j : Nat, j < n → cs[j]? = some (.string (str (ls.getD j []))) := by
  obtain ⟨xs, m', rfl, hx, hl, hn, hi⟩ := DataW.trod_array ht h
  simp only [Prod.mk.injEq, DataW.agg.injEq] at hx
  have hlen : ls.length = n := by
    have := congrArg List.length hx.1
    simpa [hn] using this
  refine ⟨hlen, fun j hj => ?_⟩
  have h1 := hi j hj
  obtain ⟨y, hy⟩ : ∃ y, xs[j]? = some y := ⟨xs[j], by simp [hn, hj]⟩
  rw [hy] at h1
  obtain ⟨s, e1, rfl, _⟩ := DataW.trod_string he h1
  have h2 := congrArg (fun l => l[j]?) hx.1
  simp only [List.getElem?_map, hy, Option.map_some] at h2
  have hj' : j < ls.length := by omega
  rw [List.getElem?_eq_getElem hj'] at h2
  simp only [Option.map_some, Option.some.injEq, DataW.lit.injEq, Lit.string.injEq] at h2
  rw [hce] at e1
  have h4 := congrArg (fun l => l[0]?) e1
  simp at h4
  rw [h4]
  have : s = str (ls.getD j []) := by
    rw [List.getD, List.getElem?_eq_getElem hj', Option.getD_some, h2]
    rfl
  rw [this]
def marksL : List (List UInt8) := [[60, 61], [62, 61], [60, 62], [40], [41], [44], [42], [43], [45], [61], [60], [62]]
theorem gMarks : Tryz.prog.globalNamed "padlock/lex.marks" = some 2 := by kernel_rfl
theorem gMarksT : (Tryz.prog.globals[2]?).map (·.type) = some 228 := by kernel_rfl
theorem marks_head {W : World} {rest : List (String × DataW Unit)} {ps : List MemPlace} (h : DataW.LaidVars Tryz.prog W (("padlock/lex.marks", Rows.laid_padlock_lex_marks) :: rest) ps) :
    StrsAt W 2 marksS ∧ 2 < W.heap.size ∧ ∃ q, DataW.LaidVars Tryz.prog W rest q := by
  obtain ⟨g, t, cs, fuel, p, q, hg, ht, hvar, hd, hr, _⟩ := h
  obtain rfl := Option.some.inj (gMarks.symm.trans hg)
  obtain rfl := Option.some.inj (gMarksT.symm.trans ht)
  have e : (Rows.laid_padlock_lex_marks : DataW Unit) = .agg (marksL.map fun l => .lit (.string l)) := rfl
  rw [e] at hd
  obtain ⟨h1, h2⟩ := arrS Tryz.underlying228 Tryz.underlying9 (by kernel_rfl) hd
  have hc : ∀ j : Nat, j < 12 → W.cell? ⟨2, j, none⟩ = some (.string (str (marksL.getD j []))) := fun j hj => by
    rw [World.var?_cell gMarks hvar]
    have := h2 j hj
    rwa [Array.getElem?_toList] at this
  refine ⟨fun j hj => ?_, ?_, q, hr⟩
  · rw [hc j hj]
    have : marksS = marksL.map str := rfl
    rw [this, List.getD, List.getD, List.getElem?_map, List.getElem?_eq_getElem (show j < marksL.length from hj)]
    rfl
  · have h0 := hc 0 (by decide)
    rcases Nat.lt_or_ge 2 W.heap.size with h | h
    · exact h
    · simp [World.cell?, Array.getElem?_eq_none h] at h0
end Go.Proofs.YtekljlenlbhmcaaGreatDoor
namespace Go.Proofs.YtekljlenlbhmcaaGreatDoor
open Go.ChangeShapes Go.WideShapes Go.ChangeAt Go.RowKit
theorem gWords : Tryz.prog.globalNamed "padlock/parse.words" = some 0 := by kernel_rfl
theorem gWordsT : (Tryz.prog.globals[0]?).map (·.type) = some 181 := by kernel_rfl
theorem words_head {W : World} {rest : List (String × DataW Unit)} {ps : List MemPlace} (h : DataW.LaidVars Tryz.prog W (("padlock/parse.words", Rows.laid_padlock_parse_words) :: rest) ps) :
    StrsAt W 0 wordsS ∧ 0 < W.heap.size ∧ ∃ q, DataW.LaidVars Tryz.prog W rest q := by
  obtain ⟨g, t, cs, fuel, p, q, hg, ht, hvar, hd, hr, _⟩ := h
  obtain rfl := Option.some.inj (gWords.symm.trans hg)
  obtain rfl := Option.some.inj (gWordsT.symm.trans ht)
  have e : (Rows.laid_padlock_parse_words : DataW Unit) = .agg (wordsL.map fun l => .lit (.string l)) := rfl
  rw [e] at hd
  obtain ⟨h1, h2⟩ := arrS Tryz.underlying181 Tryz.underlying9 (by kernel_rfl) hd
  have hc : ∀ j : Nat, j < 30 → W.cell? ⟨0, j, none⟩ = some (.string (str (wordsL.getD j []))) := fun j hj => by
    rw [World.var?_cell gWords hvar]
    have := h2 j hj
    rwa [Array.getElem?_toList] at this
  refine ⟨fun j hj => ?_, ?_, q, hr⟩
  · rw [hc j hj]
    have : wordsS = wordsL.map str := rfl
    rw [this, List.getD, List.getD, List.getElem?_map, List.getElem?_eq_getElem (show j < wordsL.length from hj)]
    rfl
  · have h0 := hc 0 (by decide)
    rcases Nat.lt_or_ge 0 W.heap.size with h | h
    · exact h
    · simp [World.cell?, Array.getElem?_eq_none h] at h0
end Go.Proofs.YtekljlenlbhmcaaGreatDoor
namespace Go.Proofs.YtekljlenlbhmcaaGreatDoor
open Go.ChangeShapes Go.WideShapes Go.ChangeAt Go.RowKit Go.AM
theorem bulk_one {H : Type} (d : DataW H) : 1 ≤ Rows.uptoBulk d := by
  cases d with
  | lit l => cases l <;> simp [Rows.uptoBulk]
  | nil => simp [Rows.uptoBulk]
  | ptr d => simp [Rows.uptoBulk]
  | slice elems spare => simp [Rows.uptoBulk]
  | agg parts => simp [Rows.uptoBulk]
  | iface t d => simp [Rows.uptoBulk]
  | map entries => simp [Rows.uptoBulk]
  | held h => simp [Rows.uptoBulk]
theorem bulk_length {H : Type} : ∀ l : List (DataW H), l.length ≤ Rows.uptoBulkAll l
  | [] => by simp [Rows.uptoBulkAll]
  | x :: r => by have := bulk_one x; have := bulk_length r; simp only [Rows.uptoBulkAll, List.length_cons]; omega
theorem bulk_slice {H : Type} (ds rest : List (DataW H)) : ds.length + 1 ≤ Rows.uptoBulk (.slice ds rest) := by
  have := bulk_length ds
  simp only [Rows.uptoBulk]; omega
theorem bulk_bound {H : Type} {l : List (DataW H)} (hk : Rows.uptoSmall H l = true) : Rows.uptoBulkAll l ≤ 1048576 := of_decide_eq_true hk
theorem bulk_of {H α : Type} {l : List α} {R : α → DataW H → Prop} {d : DataW H} (h : (l = [] ∧ d = .nil) ∨ ∃ ds rest, d = .slice ds rest ∧ ds.length = l.length ∧ ∀ (i : Nat) y, l[i]? = some y → ∃ d, ds[i]? = some d ∧ R y d) : l.length ≤ Rows.uptoBulk d := by
  rcases h with ⟨rfl, _⟩ | ⟨ds, rest, rfl, h, _⟩
  · exact Nat.zero_le _
  · have := bulk_slice ds rest; omega
end Go.Proofs.YtekljlenlbhmcaaGreatDoor
namespace Go.Proofs.YtekljlenlbhmcaaGreatDoor
open Go.ChangeShapes Go.WideShapes Go.ChangeAt Go.RowKit Go.AM
def typesL : List (List UInt8) := [[], [66, 79, 79, 76], [73, 78, 84], [84, 69, 88, 84]]
theorem gTypes : Tryz.prog.globalNamed "padlock/parse.types" = some 1 := by kernel_rfl
theorem gTypesT : (Tryz.prog.globals[1]?).map (·.type) = some 206 := by kernel_rfl
theorem types_head {W : World} {rest : List (String × DataW Unit)} {ps : List MemPlace} (h : DataW.LaidVars Tryz.prog W (("padlock/parse.types", Rows.laid_padlock_parse_types) :: rest) ps) :
    (∀ j : Nat, j < 4 → W.cell? ⟨1, j, none⟩ = some (.string (str (typesL.getD j [])))) ∧ 1 < W.heap.size ∧ ∃ q, DataW.LaidVars Tryz.prog W rest q := by
  obtain ⟨g, t, cs, fuel, p, q, hg, ht, hvar, hd, hr, _⟩ := h
  obtain rfl := Option.some.inj (gTypes.symm.trans hg)
  obtain rfl := Option.some.inj (gTypesT.symm.trans ht)
  have e : (Rows.laid_padlock_parse_types : DataW Unit) = .agg (typesL.map fun l => .lit (.string l)) := rfl
  rw [e] at hd
  obtain ⟨h1, h2⟩ := arrS Tryz.underlying206 Tryz.underlying9 (by kernel_rfl) hd
  have hc : ∀ j : Nat, j < 4 → W.cell? ⟨1, j, none⟩ = some (.string (str (typesL.getD j []))) := fun j hj => by
    rw [World.var?_cell gTypes hvar]
    have := h2 j hj
    rwa [Array.getElem?_toList] at this
  refine ⟨hc, ?_, q, hr⟩
  have h0 := hc 0 (by decide)
  rcases Nat.lt_or_ge 1 W.heap.size with h | h
  · exact h
  · simp [World.cell?, Array.getElem?_eq_none h] at h0
def GT : List (Nat × List Value) := [(1, typesV.map .string), (2, marksS.map .string), (0, wordsS.map .string)]
theorem cellsCol : Tryz.prog.cellsOf 71 = 2 := by kernel_rfl
theorem leaf_col {H : Type} {E : TypeId × Value → H} {w : World} {base : Nat} {spare : Nat → Bool} {held : Bool} (fuel : Nat) (cs : List Value) (x : DataW H × List MemPlace)
    (h : DataW.trod E Tryz.prog w base spare held fuel 71 cs = some x) : ∃ y : CO, Reps w (zAll w) [] (eC y) cs ∧ (∀ v ∈ cs, v.oneCell' = true) ∧ okS y.nm := by
  obtain ⟨y0, y1, n, _, hl, h0, h1⟩ := trod_struct2 Tryz.underlying71 h
  rw [cellsCol] at hl
  obtain ⟨c0, c1, rfl⟩ : ∃ a b, cs = [a, b] := by
    match cs, hl with
    | [a, b], _ => exact ⟨a, b, rfl⟩
  obtain ⟨s, e0, _, w0⟩ := DataW.trod_string Tryz.underlying9 h0
  obtain ⟨k, e1, _, _⟩ := DataW.trod_int Tryz.underlying3 h1
  rw [show Tryz.prog.cellsOf 9 = 1 by kernel_rfl] at e0
  rw [show Tryz.prog.cellsOf 3 = 1 by kernel_rfl] at e1
  simp at e0 e1
  subst e0 e1
  exact ⟨⟨s, k⟩, .cons (.r _ _) (.cons (.r _ _) .nil), by simp [Value.oneCell'], w0⟩
end Go.Proofs.YtekljlenlbhmcaaGreatDoor
namespace Go.Proofs.YtekljlenlbhmcaaGreatDoor
open Go.ChangeShapes Go.WideShapes Go.ChangeAt Go.RowKit Go.AM
theorem maxLen_any (W : World) (h : W.ShapedOpen Tryz.prog) : ∃ m, W.cell? ⟨3, 0, none⟩ = some (.int .i64 m) :=
  Go.Proofs.cell_of_shapedOpen_int (zero := #[.int .i64 0]) (t := 3) h (of_decide_eq_true (by kernel_rfl)) (by kernel_rfl) rfl (by kernel_rfl) (by kernel_rfl) Tryz.underlying3
def GM (m : Int) : List (Nat × List Value) := (3, [.int .i64 m]) :: GT
theorem tabsGM (m : Int) : Tabs (GM m) := ⟨by simp [GM, GT], by simp [GM, GT], rfl⟩
theorem globs_m {W : World} {m : Int} (hm : W.cell? ⟨3, 0, none⟩ = some (.int .i64 m)) (h : Globs GT W) : Globs (GM m) W := by
  intro g cs hg
  rcases List.mem_cons.1 hg with hg | hg
  · cases hg
    refine ⟨World.block_lt_of_cell? _ _ hm, fun j u hu => ?_⟩
    cases j with
    | zero => simp at hu; subst hu; exact hm
    | succ j => simp at hu
  · exact h g cs hg
theorem tabs_five {W : World} (h : laidMetH Tryz.prog [("unicode/utf8.acceptRanges", Rows.laid_unicode_utf8_acceptRanges), ("padlock/lex.marks", Rows.laid_padlock_lex_marks), ("padlock/parse.words", Rows.laid_padlock_parse_words), ("padlock/parse.types", Rows.laid_padlock_parse_types), ("unicode/utf8.first", Rows.laid_unicode_utf8_first)] W) : Globs GT W := by
  obtain ⟨ps, h, _⟩ := h
  obtain ⟨_, _, _, _, _, _, _, _, _, _, h, _⟩ := h
  obtain ⟨h1, h2, q, h3⟩ := marks_head h
  obtain ⟨h4, h5, q2, h6⟩ := words_head h3
  obtain ⟨h7, h8, _⟩ := types_head h6
  intro g cs hg
  simp only [GT, List.mem_cons, Prod.mk.injEq, List.not_mem_nil, or_false] at hg
  rcases hg with ⟨rfl, rfl⟩ | ⟨rfl, rfl⟩ | ⟨rfl, rfl⟩
  · refine ⟨h8, fun j u hu => ?_⟩
    have hj : j < 4 := by have := (List.getElem?_eq_some_iff.1 hu).1; simpa [typesV] using this
    rw [h7 j hj, ← hu]
    match j, hj with
    | 0, _ => rfl
    | 1, _ => rfl
    | 2, _ => rfl
    | 3, _ => rfl
  · refine ⟨h2, fun j u hu => ?_⟩
    have hj := (List.getElem?_eq_some_iff.1 hu).1
    rw [List.length_map] at hj
    rw [h1 j hj, ← hu, List.getElem?_map, List.getD, List.getElem?_eq_getElem hj]; rfl
  · refine ⟨h5, fun j u hu => ?_⟩
    have hj := (List.getElem?_eq_some_iff.1 hu).1
    rw [List.length_map] at hj
    rw [h4 j hj, ← hu, List.getElem?_map, List.getD, List.getElem?_eq_getElem hj]; rfl
end Go.Proofs.YtekljlenlbhmcaaGreatDoor
namespace Go.Proofs.YtekljlenlbhmcaaGreatDoor
open Go.ChangeShapes Go.WideShapes Go.ChangeAt Go.RowKit Go.AM
theorem leaf_u8 {H : Type} {E : TypeId × Value → H} {w : World} {base : Nat} {spare : Nat → Bool} {held : Bool} (fuel : Nat) (cs : List Value) (x : DataW H × List MemPlace)
    (h : DataW.trod E Tryz.prog w base spare held fuel 5 cs = some x) : ∃ y : UInt8, Reps w (zAll w) [] (eByte y) cs ∧ (∀ v ∈ cs, v.oneCell' = true) ∧ True := by
  obtain ⟨n, rfl, _, wf⟩ := DataW.trod_int Tryz.underlying5 h
  have hb : 0 ≤ n ∧ n ≤ 255 := by simpa [Lit.wf, IntKind.min, IntKind.max, IntKind.signed, IntKind.bits] using wf
  refine ⟨UInt8.ofNat n.toNat, ?_, by simp [Value.oneCell'], trivial⟩
  have : ((UInt8.ofNat n.toNat).toNat : Int) = n := by
    rw [UInt8.toNat_ofNat_of_lt' (by simp [UInt8.size]; omega)]; omega
  rw [eByte, this]
  exact rep1 (.r _ _)
end Go.Proofs.YtekljlenlbhmcaaGreatDoor
namespace Go.Proofs.YtekljlenlbhmcaaGreatDoor
open Go.ChangeShapes Go.WideShapes Go.ChangeAt Go.RowKit Go.AM
theorem bulk_mem {H : Type} : ∀ {l : List (DataW H)} {d : DataW H}, d ∈ l → Rows.uptoBulk d ≤ Rows.uptoBulkAll l
  | x :: r, d, h => by
    rcases List.mem_cons.1 h with rfl | h
    · simp only [Rows.uptoBulkAll]; omega
    · have := bulk_mem h; simp only [Rows.uptoBulkAll]; omega
theorem bulk_all {H α : Type} {l : List α} {f : α → Nat} {d : DataW H} (h : (l = [] ∧ d = .nil) ∨ ∃ ds rest, d = .slice ds rest ∧ ds.length = l.length ∧ ∀ (i : Nat) y, l[i]? = some y → ∃ d, ds[i]? = some d ∧ f y ≤ Rows.uptoBulk d) : ∀ y ∈ l, f y ≤ Rows.uptoBulk d := by
  intro c hc
  obtain ⟨i, hi⟩ := List.mem_iff_getElem?.1 hc
  rcases h with ⟨rfl, _⟩ | ⟨ds, rest, rfl, _, h6⟩
  · simp at hi
  · obtain ⟨d, h1, h2⟩ := h6 i c hi
    have := bulk_mem (List.mem_of_getElem? h1)
    simp only [Rows.uptoBulk]; omega
theorem cellsU8 : Tryz.prog.cellsOf 5 = 1 := by kernel_rfl
theorem cellsKy : Tryz.prog.cellsOf 81 = 1 := by kernel_rfl
theorem cellsIn : Tryz.prog.cellsOf 3 = 1 := by kernel_rfl
theorem leaf_int1 {H : Type} {E : TypeId × Value → H} {w : World} {base : Nat} {spare : Nat → Bool} {held : Bool} (fuel : Nat) (cs : List Value) (x : DataW H × List MemPlace)
    (h : DataW.trod E Tryz.prog w base spare held fuel 3 cs = some x) : ∃ y : Int, Reps w (zAll w) [] (eI y) cs ∧ (∀ v ∈ cs, v.oneCell' = true) ∧ True := by
  obtain ⟨n, rfl, _, _⟩ := DataW.trod_int Tryz.underlying3 h
  exact ⟨n, .cons (.r _ _) .nil, by simp [Value.oneCell'], trivial⟩
theorem leaf_ky {H : Type} {E : TypeId × Value → H} {w : World} {base : Nat} {spare : Nat → Bool} {held : Bool} (fuel : Nat) (cs : List Value) (x : DataW H × List MemPlace)
    (h : DataW.trod E Tryz.prog w base spare held fuel 81 cs = some x) : ∃ y : Ky, Reps w (zAll w) [] (eKy y) cs ∧ (∀ v ∈ cs, v.oneCell' = true) ∧ y.length ≤ Rows.uptoBulk x.1 := by
  obtain ⟨u, l, h1, h2, h4, h3⟩ := open_ro eByte (fun _ _ => True) true Tryz.underlying81 cellsU8 (by omega) leaf_u8 h
  subst h1
  exact ⟨l, .cons h2 .nil, by simpa using h4, bulk_of h3⟩
theorem list5 {α : Type} {l : List α} (h : l.length = 5) : ∃ a b c d e, l = [a, b, c, d, e] := by
  match l, h with
  | [a, b, c, d, e], _ => exact ⟨a, b, c, d, e, rfl⟩
def okPg (p : PG) (n : Nat) : Prop := p.keys.length ≤ n ∧ p.kids.length ≤ n ∧ p.high.length ≤ n ∧ ∀ k ∈ p.keys, k.length ≤ n
theorem cellsPg : Tryz.prog.cellsOf 131 = 5 := by kernel_rfl
theorem leaf_pg {H : Type} {E : TypeId × Value → H} {w : World} {base : Nat} {spare : Nat → Bool} {held : Bool} (fuel : Nat) (cs : List Value) (x : DataW H × List MemPlace)
    (h : DataW.trod E Tryz.prog w base spare held fuel 131 cs = some x) : ∃ y : PG, Reps w (zAll w) [] (eP y) cs ∧ (∀ v ∈ cs, v.oneCell' = true) ∧ okPg y (Rows.uptoBulk x.1) := by
  obtain ⟨xs, n, _, hx, hl, hxl, hff⟩ := DataW.trod_struct Tryz.underlying131 h
  rw [cellsPg] at hl
  obtain ⟨c0, c1, c2, c3, c4, rfl⟩ := list5 hl
  obtain ⟨x0, x1, x2, x3, x4, rfl⟩ := list5 (l := xs) hxl
  have cb : Tryz.prog.cellsOf 4 = 1 := by kernel_rfl
  have ck : Tryz.prog.cellsOf 129 = 1 := by kernel_rfl
  have ci : Tryz.prog.cellsOf 36 = 1 := by kernel_rfl
  have h0 : DataW.trod E Tryz.prog w base spare held n 4 (([c0, c1, c2, c3, c4].drop 0).take (Tryz.prog.cellsOf 4)) = some x0 := hff 0 _ rfl
  rw [cb] at h0
  have h1 : DataW.trod E Tryz.prog w base spare held n 129 (([c0, c1, c2, c3, c4].drop 1).take (Tryz.prog.cellsOf 129)) = some x1 := hff 1 _ rfl
  rw [ck] at h1
  have h2 : DataW.trod E Tryz.prog w base spare held n 36 (([c0, c1, c2, c3, c4].drop 2).take (Tryz.prog.cellsOf 36)) = some x2 := hff 2 _ rfl
  rw [ci] at h2
  have h3 : DataW.trod E Tryz.prog w base spare held n 81 (([c0, c1, c2, c3, c4].drop 3).take (Tryz.prog.cellsOf 81)) = some x3 := hff 3 _ rfl
  rw [cellsKy] at h3
  have h4 : DataW.trod E Tryz.prog w base spare held n 3 (([c0, c1, c2, c3, c4].drop 4).take (Tryz.prog.cellsOf 3)) = some x4 := hff 4 _ rfl
  rw [cellsIn] at h4
  obtain ⟨lf, e0, _⟩ := DataW.trod_bool Tryz.underlying4 h0
  obtain ⟨u1, lk, e1, r1, o1, g1⟩ := open_ro eKy (fun y d => y.length ≤ Rows.uptoBulk d) true Tryz.underlying129 cellsKy (by omega) leaf_ky h1
  obtain ⟨u2, li, e2, r2, o2, g2⟩ := open_ro eI (fun _ _ => True) true Tryz.underlying36 cellsIn (by omega) leaf_int1 h2
  obtain ⟨u3, lh, e3, r3, o3, g3⟩ := open_ro eByte (fun _ _ => True) true Tryz.underlying81 cellsU8 (by omega) leaf_u8 h3
  obtain ⟨nx, e4, _, _⟩ := DataW.trod_int Tryz.underlying3 h4
  simp at e0 e1 e2 e3 e4
  subst e0 e1 e2 e3 e4
  refine ⟨⟨lf, lk, li, lh, nx⟩, .cons (.r _ _) (.cons r1 (.cons r2 (.cons r3 (.cons (.r _ _) .nil)))), (by
    intro v hv
    simp only [List.mem_cons, List.not_mem_nil, or_false] at hv
    rcases hv with rfl | rfl | rfl | rfl | rfl <;> first | rfl | assumption), ?_⟩
  rw [hx]
  have b1 := bulk_of g1
  have b2 := bulk_of g2
  have b3 := bulk_of g3
  have b4 := bulk_all g1
  simp only [List.map_cons, List.map_nil, Rows.uptoBulk, Rows.uptoBulkAll]
  exact ⟨by simp only; omega, by simp only; omega, by simp only; omega, fun k hk => by have := b4 k hk; omega⟩
theorem cellsTr : Tryz.prog.cellsOf 33 = 2 := by kernel_rfl
end Go.Proofs.YtekljlenlbhmcaaGreatDoor
namespace Go.Proofs.YtekljlenlbhmcaaGreatDoor
open Go.ChangeShapes Go.WideShapes Go.ChangeAt Go.RowKit Go.AM
theorem cellsVal : Tryz.prog.cellsOf 74 = 3 := by kernel_rfl
end Go.Proofs.YtekljlenlbhmcaaGreatDoor
namespace Go.Proofs.YtekljlenlbhmcaaGreatDoor
open Go.ChangeShapes Go.WideShapes Go.ChangeAt Go.RowKit Go.AM
theorem lit_in {n : Int} (h : (Lit.int .i64 n).wf = true) : inI n := by
  simp only [Lit.wf, Bool.and_eq_true, decide_eq_true_eq] at h
  exact ⟨h.1, h.2⟩
theorem leaf_valI {H : Type} {E : TypeId × Value → H} {w : World} {base : Nat} {spare : Nat → Bool} {held : Bool} (fuel : Nat) (cs : List Value) (x : DataW H × List MemPlace)
    (h : DataW.trod E Tryz.prog w base spare held fuel 74 cs = some x) : ∃ y : V, Reps w (zAll w) [] (eV y) cs ∧ (∀ v ∈ cs, v.oneCell' = true) ∧ gV y := by
  obtain ⟨y0, y1, y2, n, _, hl, h0, h1, h2⟩ := Deep.trod_struct3 Tryz.underlying74 h
  rw [cellsVal] at hl
  obtain ⟨c0, c1, c2, rfl⟩ : ∃ a b c, cs = [a, b, c] := by
    match cs, hl with
    | [a, b, c], _ => exact ⟨a, b, c, rfl⟩
  obtain ⟨k, e0, _, _⟩ := DataW.trod_int Tryz.underlying3 h0
  obtain ⟨m, e1, _, wm⟩ := DataW.trod_int Tryz.underlying3 h1
  obtain ⟨s, e2, _, w0⟩ := DataW.trod_string Tryz.underlying9 h2
  rw [show Tryz.prog.cellsOf 3 = 1 by kernel_rfl] at e0 e1
  rw [show Tryz.prog.cellsOf 9 = 1 by kernel_rfl] at e2
  simp at e0 e1 e2
  subst e0 e1 e2
  exact ⟨⟨k, m, s⟩, .cons (.r _ _) (.cons (.r _ _) (.cons (.r _ _) .nil)), by simp [Value.oneCell'], w0, lit_in wm⟩
end Go.Proofs.YtekljlenlbhmcaaGreatDoor
namespace Go.Proofs.YtekljlenlbhmcaaGreatDoor
open Go.ChangeShapes Go.WideShapes Go.ChangeAt Go.RowKit Go.AM
theorem list4 {α : Type} {l : List α} (h : l.length = 4) : ∃ a b c d, l = [a, b, c, d] := by
  match l, h with
  | [a, b, c, d], _ => exact ⟨a, b, c, d, rfl⟩
theorem list2 {α : Type} {l : List α} (h : l.length = 2) : ∃ a b, l = [a, b] := by
  match l, h with
  | [a, b], _ => exact ⟨a, b, rfl⟩
theorem cellsRw : Tryz.prog.cellsOf 50 = 1 := by kernel_rfl
theorem cellsTb : Tryz.prog.cellsOf 35 = 5 := by kernel_rfl
theorem leaf_rw {H : Type} {E : TypeId × Value → H} {w : World} {base : Nat} {spare : Nat → Bool} {held : Bool} (fuel : Nat) (cs : List Value) (x : DataW H × List MemPlace)
    (h : DataW.trod E Tryz.prog w base spare held fuel 50 cs = some x) : ∃ y : List V, Reps w (zAll w) [] (eRw y) cs ∧ (∀ v ∈ cs, v.oneCell' = true) ∧ (y.length ≤ Rows.uptoBulk x.1 ∧ ∀ v ∈ y, gV v) := by
  obtain ⟨u, l, h1, h2, h4, h3⟩ := open_ro eV (fun y _ => gV y) true Tryz.underlying50 cellsVal (by omega) leaf_valI h
  subst h1
  refine ⟨l, .cons h2 .nil, by simpa using h4, bulk_of h3, fun c hc => ?_⟩
  obtain ⟨i, hi⟩ := List.mem_iff_getElem?.1 hc
  rcases h3 with ⟨rfl, _⟩ | ⟨ds, rest, _, _, h6⟩
  · simp at hi
  · exact (h6 i c hi).choose_spec.2
theorem leaf_tr {H : Type} {E : TypeId × Value → H} {w : World} {base : Nat} {spare : Nat → Bool} {held : Bool} (fuel : Nat) (cs : List Value) (x : DataW H × List MemPlace)
    (h : DataW.trod E Tryz.prog w base spare held fuel 33 cs = some x) : ∃ (ps : List PG) (root : Int), Reps w (zAll w) [] [.ro true 5 (ps.map eP), .r (.int .i64 root)] cs ∧ (∀ v ∈ cs, v.oneCell' = true) ∧ (Rows.uptoBulk x.1 ≤ 1048576 → okPs2 ps) := by
  obtain ⟨xs, n, _, hx, hl, hxl, hff⟩ := DataW.trod_struct Tryz.underlying33 h
  rw [cellsTr] at hl
  obtain ⟨c0, c1, rfl⟩ := list2 hl
  obtain ⟨x0, x1, rfl⟩ := list2 (l := xs) hxl
  have h0 : DataW.trod E Tryz.prog w base spare held n 31 (([c0, c1].drop 0).take (Tryz.prog.cellsOf 31)) = some x0 := hff 0 _ rfl
  rw [show Tryz.prog.cellsOf 31 = 1 by kernel_rfl] at h0
  have h1 : DataW.trod E Tryz.prog w base spare held n 3 (([c0, c1].drop 1).take (Tryz.prog.cellsOf 3)) = some x1 := hff 1 _ rfl
  rw [cellsIn] at h1
  obtain ⟨u0, l, e0, r0, o0, g0⟩ := open_ro eP (fun y d => okPg y (Rows.uptoBulk d)) true Tryz.underlying31 cellsPg (by omega) leaf_pg h0
  obtain ⟨rt, e1, _, _⟩ := DataW.trod_int Tryz.underlying3 h1
  simp at e0 e1
  subst e0 e1
  refine ⟨l, rt, .cons r0 (.cons (.r _ _) .nil), (by
    intro v hv
    simp only [List.mem_cons, List.not_mem_nil, or_false] at hv
    rcases hv with rfl | rfl <;> first | rfl | assumption), fun hb => ?_⟩
  rw [hx] at hb
  simp only [List.map_cons, List.map_nil, Rows.uptoBulk, Rows.uptoBulkAll] at hb
  have b0 := bulk_of g0
  refine ⟨by omega, fun q hq => ?_⟩
  obtain ⟨i, hi⟩ := List.mem_iff_getElem?.1 hq
  rcases g0 with ⟨rfl, _⟩ | ⟨ds, rest, hd, _, h6⟩
  · simp at hi
  · obtain ⟨d, k1, k2, k3, k4, k5⟩ := h6 i q hi
    have k6 := bulk_mem (List.mem_of_getElem? k1)
    rw [hd] at hb
    simp only [Rows.uptoBulk] at hb
    exact ⟨by omega, by omega, by omega, fun k hk => by have := k5 k hk; omega⟩
theorem leaf_tb {H : Type} {E : TypeId × Value → H} {w : World} {base : Nat} {spare : Nat → Bool} {held : Bool} (fuel : Nat) (cs : List Value) (x : DataW H × List MemPlace)
    (h : DataW.trod E Tryz.prog w base spare held fuel 35 cs = some x) : ∃ y : TB, Reps w (zAll w) [] (eTB y) cs ∧ (∀ v ∈ cs, v.oneCell' = true) ∧ (Rows.uptoBulk x.1 ≤ 1048576 → okTB y) := by
  obtain ⟨xs, n, _, hx, hl, hxl, hff⟩ := DataW.trod_struct Tryz.underlying35 h
  rw [cellsTb] at hl
  obtain ⟨c0, c1, c2, c3, c4, rfl⟩ := list5 hl
  obtain ⟨x0, x1, x2, x3, rfl⟩ := list4 (l := xs) hxl
  have h0 : DataW.trod E Tryz.prog w base spare held n 9 (([c0, c1, c2, c3, c4].drop 0).take (Tryz.prog.cellsOf 9)) = some x0 := hff 0 _ rfl
  rw [show Tryz.prog.cellsOf 9 = 1 by kernel_rfl] at h0
  have h1 : DataW.trod E Tryz.prog w base spare held n 29 (([c0, c1, c2, c3, c4].drop 1).take (Tryz.prog.cellsOf 29)) = some x1 := hff 1 _ rfl
  rw [show Tryz.prog.cellsOf 29 = 1 by kernel_rfl] at h1
  have h2 : DataW.trod E Tryz.prog w base spare held n 30 (([c0, c1, c2, c3, c4].drop 2).take (Tryz.prog.cellsOf 30)) = some x2 := hff 2 _ rfl
  rw [show Tryz.prog.cellsOf 30 = 1 by kernel_rfl] at h2
  have h3 : DataW.trod E Tryz.prog w base spare held n 33 (([c0, c1, c2, c3, c4].drop 3).take (Tryz.prog.cellsOf 33)) = some x3 := hff 3 _ rfl
  rw [cellsTr] at h3
  obtain ⟨s, e0, _, w0⟩ := DataW.trod_string Tryz.underlying9 h0
  obtain ⟨u1, lc, e1, r1, o1, g1⟩ := open_ro eC (fun y _ => y.nm.size ≤ maxLen) true Tryz.underlying29 cellsCol (by omega) leaf_col h1
  obtain ⟨u2, lr, e2, r2, o2, g2⟩ := open_ro eRw (fun y d => y.length ≤ Rows.uptoBulk d ∧ ∀ v ∈ y, gV v) true Tryz.underlying30 cellsRw (by omega) leaf_rw h2
  obtain ⟨ps, root, r3, o3, g3⟩ := leaf_tr _ _ _ h3
  simp at e0 e1 e2
  subst e0 e1 e2
  refine ⟨⟨s, lc, lr, ps, root⟩, .cons (.r _ _) (.cons r1 (.cons r2 r3)), (by
    intro v hv
    simp only [List.mem_cons, List.not_mem_nil, or_false] at hv
    rcases hv with rfl | rfl | rfl | hv
    · rfl
    · assumption
    · assumption
    · exact o3 v (by simpa using hv)), fun hb => ?_⟩
  rw [hx] at hb
  simp only [List.map_cons, List.map_nil, Rows.uptoBulk, Rows.uptoBulkAll] at hb
  have b1 := bulk_of g1
  have b2 := bulk_of g2
  refine ⟨w0, by simp only; omega, fun c hc => ?_, by simp only; omega, fun r hr => ?_, g3 (by omega)⟩
  · obtain ⟨i, hi⟩ := List.mem_iff_getElem?.1 hc
    rcases g1 with ⟨rfl, _⟩ | ⟨ds, rest, _, _, h6⟩
    · simp at hi
    · exact (h6 i c hi).choose_spec.2
  · obtain ⟨i, hi⟩ := List.mem_iff_getElem?.1 hr
    rcases g2 with ⟨rfl, _⟩ | ⟨ds, rest, hd, _, h6⟩
    · simp at hi
    · obtain ⟨d, k1, k2, k3⟩ := h6 i r hi
      have k6 := bulk_mem (List.mem_of_getElem? k1)
      rw [hd] at hb
      simp only [Rows.uptoBulk] at hb
      exact ⟨by omega, k3⟩
theorem open_table {H : Type} {E : TypeId × Value → H} {w : World} {base : Nat} {spare : Nat → Bool} {held : Bool} {b0 : Nat} {v : Value} {d : DataW H} {p : List MemPlace}
    (hv : Value.okWide Tryz.prog w .any b0 35 v) (h : DataW.Trod E Tryz.prog w base spare held 35 v d p) :
    ∃ y : TB, Rep w (zAll w) [] (.agg (eTB y)) v ∧ (Rows.uptoBulk d ≤ 1048576 → okTB y) := by
  obtain ⟨cs, rfl, hsz⟩ := okWide_struct Tryz.underlying35 hv
  obtain ⟨fuel, hf⟩ := h
  have hcl : (Value.agg cs).cells.toList = cs.toList := by simp [Value.cells]
  rw [hcl] at hf
  obtain ⟨y, r, _, g⟩ := leaf_tb _ _ _ hf
  have := Rep.agg [] (eTB y) cs.toList r.1 r.2
  rw [Array.toArray_toList] at this
  exact ⟨y, this, g⟩
theorem open_base {H : Type} {E : TypeId × Value → H} {w : World} {base : Nat} {spare : Nat → Bool} {held : Bool} {b0 : Nat} {v : Value} {d : DataW H} {p : List MemPlace}
    (hv : Value.okWide Tryz.prog w .any b0 24 v) (h : DataW.Trod E Tryz.prog w base spare held 24 v d p) :
    ∃ l : List TB, Rep w (zAll w) [] (.agg [.ro true 5 (l.map eTB)]) v ∧ (Rows.uptoBulk d ≤ 1048576 → okBs l) := by
  obtain ⟨cs, rfl, hsz⟩ := okWide_struct Tryz.underlying24 hv
  rw [show Tryz.prog.cellsOf 24 = 1 by kernel_rfl] at hsz
  obtain ⟨fuel, hf⟩ := h
  obtain ⟨c0, hcs⟩ : ∃ a, cs.toList = [a] := List.length_eq_one_iff.1 (by simpa using hsz)
  have hcl : (Value.agg cs).cells.toList = [c0] := by simpa [Value.cells] using hcs
  rw [hcl] at hf
  obtain ⟨xs, n, _, hx, _, hxl, hff⟩ := DataW.trod_struct Tryz.underlying24 hf
  obtain ⟨x0, rfl⟩ : ∃ a, xs = [a] := List.length_eq_one_iff.1 hxl
  have h0 : DataW.trod E Tryz.prog w base spare held n 22 (([c0].drop 0).take (Tryz.prog.cellsOf 22)) = some x0 := hff 0 _ rfl
  rw [show Tryz.prog.cellsOf 22 = 1 by kernel_rfl] at h0
  obtain ⟨u0, l, e0, r0, o0, g0⟩ := open_ro eTB (fun y d => Rows.uptoBulk d ≤ 1048576 → okTB y) true Tryz.underlying22 cellsTb (by omega) leaf_tb h0
  simp at e0
  subst e0
  refine ⟨l, ?_, fun hb => ?_⟩
  · have hr : Reps w (zAll w) [] [.ro true 5 (l.map eTB)] cs.toList := by rw [hcs]; exact .cons r0 .nil
    have := Rep.agg [] [.ro true 5 (l.map eTB)] cs.toList hr.1 hr.2
    rwa [Array.toArray_toList] at this
  · have hd : d = (DataW.agg ([x0].map Prod.fst)) := congrArg Prod.fst hx
    rw [hd] at hb
    simp only [List.map_cons, List.map_nil, Rows.uptoBulk, Rows.uptoBulkAll] at hb
    have b0 := bulk_of g0
    refine ⟨by omega, fun q hq => ?_⟩
    obtain ⟨i, hi⟩ := List.mem_iff_getElem?.1 hq
    rcases g0 with ⟨rfl, _⟩ | ⟨ds, rest, hd, _, h6⟩
    · simp at hi
    · obtain ⟨d, k1, k2⟩ := h6 i q hi
      have k6 := bulk_mem (List.mem_of_getElem? k1)
      rw [hd] at hb
      simp only [Rows.uptoBulk] at hb
      exact k2 (by omega)
end Go.Proofs.YtekljlenlbhmcaaGreatDoor
