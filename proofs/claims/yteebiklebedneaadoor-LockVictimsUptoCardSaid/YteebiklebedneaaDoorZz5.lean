/- Texts of the law LockVictims, part 5: lemmas; what is proved stands in the last text. -/
import Derived.Test.YteebiklebedneaaDoorZz4
import Derived.Test.YteebiklebedneaaDoorCards
import Derived.Test.YteebiklebedneaaDoorTie
import Derived.Test.YteebiklebedneaaDoorZz1
import Derived.WalkKit
import Derived.ProofKit
import Derived.OpenShut
import Derived.ShutString
import Derived.ChangeOld
import Derived.Below
import Derived.Lib.SmallJoins
import Derived.Deep.DeepHandedRow
import Derived.Lib.LaidTab
import Derived.Test.YteebiklebedneaaDoorRows
import Derived.Test.YteebiklebedneaaDoorZz2
import Derived.JoinedCond
import Derived.SizedLaws
import Derived.Deep.Strs
set_option linter.unusedSimpArgs false
set_option linter.unusedVariables false
/- slices.Clone, at any element type. -/
namespace Go.AM
open Go
attribute [local irreducible] AWP retA
theorem con_ro_nil {P : Program} {G : List (Nat × List Value)} {f : Nat} {t : Bool} {k : Nat} {xs : List AV} {o : List (Nat × Nd)} {n : Nat} {Q R : AV → List (Nat × Nd) → Nat → Prop} (h : ∀ (a : Option Addr) (c : Nat), Con P G f (.r (.slice a 0 c) :: xs) o n Q R) : Con P G f (.ro t k [] :: xs) o n Q R :=
  ⟨(h none 0).1, fun w th z own vs ho hm hr => by
    obtain ⟨v, r, rfl, hv, hr'⟩ := hr.head
    obtain ⟨a, c, rfl, _⟩ := hv.ro_inv
    exact (h a c).2 w th z own _ ho hm (.cons (.r _ _) hr')⟩
section
variable {P : Program} {E : Env} {N : Nat} {st : AS} {th : List NLoc} {z : Zone} {a : Act} {w : World}
/-- A nil slice is given back as an own list without elements. -/
theorem embS_nilS (hE : E.th0.length = 0) (hb : st.n + 1 ≤ 1000000000) (T k : Nat) : EmbS E N st (.r (.slice none 0 0)) [(0, .lst T k [])] 1 (.s 0 0 0) := by
  intro th z a w v hs hr
  have hk := hs.know ⟨0, 0, 0, 0, true⟩ (.lst T k []) (fun hp => by cases hp) (fun _ _ _ _ _ _ hp => by cases hp) (.inl ⟨rfl, rfl⟩) (.inl rfl)
  have key := embV (E := E) (st := putNd st (.lst T k [])) [st.n] (x := .s st.n 0 0) (y := .s 0 0 0) (o' := [(0, .lst T k [])]) (by simp [ren, by_]) (by simp [okO, putNd, lk, renNd]) (by simp [putNd]) (by simpa [putNd] using hb) (by intro i hi; omega) (by simp)
  exact key _ z w v hk.mem (by rw [show v = .slice none 0 0 from hr.r_inv]; exact .sn _ _ 0 _ (hs.get_new _) rfl)
end
def cloneBody (T : TypeId) : Code :=
  (Code.region 0 #[{ dst := some 2, op := .assign (.const (.slice none 0 0)), type := T, pos := "slices.go:355", after := #[], guard := none }] false).seq
    (((Code.region 1 #[{ dst := some 3, op := .move (.tmp 0), type := T, pos := "slices.go:357", after := #[], guard := none },
        { dst := some 4, op := .binOp .eql T (.tmp 3) (.const (.slice none 0 0)) T, type := 4, pos := "slices.go:357", after := #[{ on := 0, ground := .data }], guard := none }] false).seq
      (Code.cond (.tmp 4) ((Code.region 2 #[{ dst := some 2, op := .assign (.const (.slice none 0 0)), type := T, pos := "slices.go:358", after := #[], guard := none }] false).seq Code.ret) Code.skip)).seq
    ((Code.region 3 #[{ dst := some 5, op := .buildSlice T 0 #[], type := T, pos := "slices.go:362", after := #[], guard := none },
        { dst := some 6, op := .move (.tmp 0), type := T, pos := "slices.go:362", after := #[], guard := none },
        { dst := some 7, op := .call { callee := .builtin .append, args := #[.tmp 5, .tmp 6], argTypes := #[T, T] }, type := T, pos := "slices.go:362", after := #[{ on := 0, ground := .data }, { on := 1, ground := .data }], guard := none },
        { dst := some 2, op := .assign (.tmp 7), type := T, pos := "slices.go:362", after := #[{ on := 2, ground := .data }, { on := 2, ground := .chain }, { on := 0, ground := .phase }, { on := 1, ground := .phase }, { on := 2, ground := .phase }], guard := none }] false).seq Code.ret))
def cloneX (P : Program) (f : Nat) (T e k by' : Nat) (zs : List Value) : Prop := ∃ fn kk s b z1, P.funcs[f]? = some fn ∧ fn.body = some (cloneBody T) ∧ okFn P f = true ∧ fn.ntmps = 8 ∧ fn.results = #[.tmp 2] ∧ tyOf P T = some ⟨.slice e, s, b, z1⟩ ∧ tyOf P e = some ⟨kk, k, by', some zs⟩ ∧ zs.length = k ∧ 0 < k
set_option maxRecDepth 100000 in
theorem clone_con {P : Program} (G : List (Nat × List Value)) {f T e k by' : Nat} {zs : List Value} (h : cloneX P f T e k by' zs) (t : Bool) {α : Type} (eX : α → List AV) [PTf eX] (l : List α) (hl : l.length * by' ≤ 140737488355328) (hl2 : l.length ≤ 9223372036854775807) :
    Con P G f [.ro t k (l.map eX)] [] 0 (Is (.s 0 0 l.length) [(0, .lst e k (l.map eX))] 1) No := by
  obtain ⟨fn, kk, s, b, z1, hf, hb, hok, hn, hr, hT, hTe, hzl, hk⟩ := h
  have q1 : (0 : Nat) * k ≤ 16777216 := by omega
  cases l with
  | nil =>
    refine con_ro_nil fun ad c => ?_
    refine con_of_awp hf hb hok (by rw [hn]; simp) ?_; intro E hG hE; subst hG; simp only [ent, hn, hr, cloneBody]
    cases ad with
    | none =>
      (repeat' (first | refine awp_seq ?_ | refine awp_skip ?_ | (refine rR (fun K kp hK hkp => ?_); simp (implicitDefEqProofs := false) (maxSteps := 2000000) (disch := omega) only [go_sem, hT, hTe, Option.isNone_none]; (repeat' (first | (refine hK _ ?_; clear hK hkp kp K) | (with_reducible refine And.intro ?_ ?_) | omega))) | refine awp_cond_t rfl ?_ | refine awp_ret ?_))
      refine retA_is (l := [.r (.slice none 0 0)]) (by simp (implicitDefEqProofs := false) (maxSteps := 2000000) (disch := omega) only [go_sem]) (embS_nilS hE ?_ e k)
      simp
    | some ad =>
      (repeat' (first | refine awp_seq ?_ | refine awp_skip ?_ | (refine rR (fun K kp hK hkp => ?_); simp (implicitDefEqProofs := false) (maxSteps := 2000000) (disch := omega) only [go_sem, hT, hTe, Option.isNone_some, hzl, Nat.zero_mul, Nat.zero_le, hk]; (repeat' (first | (refine hK _ ?_; clear hK hkp kp K) | (with_reducible refine And.intro ?_ ?_) | omega))) | refine awp_cond_f rfl ?_ | refine awp_ret ?_))
      refine retA_is (by simp (implicitDefEqProofs := false) (maxSteps := 2000000) (disch := omega) only [go_sem]; rfl) ?_
      refine (embV [1] ?_ ?_ ?_ ?_ ?_ ?_).s <;> simp [oneA, okO, lk, ren, renL, renNd, by_, hE]
  | cons x r =>
    simp only [List.length_cons] at hl hl2
    refine con_of_awp hf hb hok (by rw [hn]; simp) ?_; intro E hG hE; subst hG; simp only [ent, hn, hr, cloneBody]
    (repeat' (first | refine awp_seq ?_ | refine awp_skip ?_ | (refine rR (fun K kp hK hkp => ?_); simp (implicitDefEqProofs := false) (maxSteps := 2000000) (disch := omega) only [go_sem, hT, hTe, hzl, Nat.zero_mul, Nat.zero_le, hk, hl, hl2]; (repeat' (first | (refine hK _ ?_; clear hK hkp kp K) | (with_reducible refine And.intro ?_ ?_) | omega))) | refine awp_cond_f rfl ?_ | refine awp_ret ?_))
    refine retA_is (by simp (implicitDefEqProofs := false) (maxSteps := 2000000) (disch := omega) only [go_sem]; rfl) ?_
    refine (embV [1] ?_ ?_ ?_ ?_ ?_ ?_).s <;> simp [oneA, okO, lk, ren, renL, renNd, by_, hE]
end Go.AM
/- Locks: slices.IndexFunc and slices.DeleteFunc over locks. -/
namespace Go.AM
open Go Go.RowKit
open Go.Proofs.YteebiklebedneaaDoor (LK)
attribute [local irreducible] AWP retA
section
variable {P : Program} {E : Env} {N : Nat} {st : AS} {th : List NLoc} {z : Zone} {a : Act} {w : World}
theorem Mem.less {o o' : List (Nat × Nd)} {n : Nat} (h : Mem E o n th z w) (he : ∀ i x, lk o' i = some x → lk o i = some x) : Mem E o' n th z w :=
  h.sub he
theorem NdAt.cut {L : NLoc} {T : TypeId} {k : Nat} {els tail : List (List AV)} (h : NdAt w z th L (.lst T k (els ++ tail))) : NdAt w z th L (.lst T k els) := by
  rcases h with ⟨h1, h2⟩ | ⟨hp, cells, fr, h1, h2, h3, h4, h5, h6⟩
  · exact .inl ⟨h1, (List.append_eq_nil_iff.1 h2).1⟩
  · refine .inr ⟨hp, cells, fr, h1, h2, h3, h4, by simp at h5; omega, fun i e he => h6 i e ?_⟩
    rw [List.getElem?_append_left (List.getElem?_eq_some_iff.1 he).1]; exact he
/-- Of an own list that is given back less is told. -/
theorem Con.cut {G : List (Nat × List Value)} {f : Nat} {xs : List AV} {o : List (Nat × Nd)} {n m : Nat} {y : AV} {T : TypeId} {k : Nat} {els tail : List (List AV)} (hc : Con P G f xs o n (Is y [(0, .lst T k (els ++ tail))] m) No) :
    Con P G f xs o n (Is y [(0, .lst T k els)] m) No := by
  refine ⟨hc.1, fun w th z own vs ho hm hr => (hc.2 w th z own vs ho hm hr).mono ?_⟩
  rintro e w' ⟨v, u, o', n', th', z', h1, h2, h3⟩
  rcases h1 with ⟨rfl, rfl, rfl, rfl⟩ | ⟨_, h⟩
  · refine ⟨v, u, [(0, .lst T k els)], n', th', z', .inl ⟨rfl, rfl, rfl, rfl⟩, ?_, h3⟩
    refine (h2.say (i := 0) (nd' := .lst T k els) rfl (fun L hL hn => hn.cut)).less fun i x hi => ?_
    simp only [lk] at hi ⊢
    split at hi
    · rename_i q; subst q; cases hi; rfl
    · cases hi
  · exact h.elim
end
def idxK (p : LK → Bool) : List LK → Nat → Int
  | [], _ => -1
  | x :: r, k => if p x = true then (k : Int) else idxK p r (k + 1)
set_option maxRecDepth 100000 in
theorem indexFuncK_con (G : List (Nat × List Value)) (t : Bool) (l : List LK) (g : Nat) (caps : List AV) (p : LK → Bool) (hl : l.length ≤ 1048576) (hcap : ∀ st, borL st caps = some caps) (hren : ∀ f, renL f caps = caps) (hf : ∀ G x, Con Go.Proofs.Tryd.prog G g (.agg (eK x) :: caps) [] 0 (Is (.r (.bool (p x))) [] 0) No) :
    Con Go.Proofs.Tryd.prog G 60 [.ro t 3 (l.map eK), .fn g caps] [] 0 (Is (.r (.int .i64 (idxK p l 0))) [] 0) No := by
  refine con_of_awp Go.Proofs.Tryd.func60 rfl (by kernel_rfl) (of_decide_eq_true (by kernel_rfl)) ?_; intro E hG hE; subst hG; simp only [ent]
  (repeat' (first | refine awp_seq ?_ | refine awp_block ?_ | refine awp_skip ?_ | refine awp_exit ?_ | ((first | refine rR (fun K kp hK hkp => ?_) | refine iG ?_); simp (implicitDefEqProofs := false) (maxSteps := 2000000) (disch := omega) only [go_sem]; (repeat' (first | (refine hK _ ?_; clear hK hkp kp K) | (with_reducible refine And.intro ?_ ?_) | omega))) | ((first | refine aG (fun h => ?_) (fun h => ?_) | refine aD (fun h => ?_) (fun h => ?_) | refine aX (fun h => ?_) (fun h => ?_)) <;> simp only [h]) | refine awp_cond_t rfl ?_ | refine awp_cond_f rfl ?_ | ((refine awp_cond rfl (fun h => ?_) (fun h => ?_) <;> try simp only [ifs] at h) <;> (try (exfalso; omega))) | refine awp_ret ?_))
  refine awp_loop (fun k : Nat => ⟨[(8, .r (.int .i64 k)), (7, .r (.int .i64 l.length)), (0, .ro t 3 (l.map eK)), (1, .fn g caps)], [], 0⟩) (fun k => k ≤ l.length ∧ idxK p (l.drop k) k = idxK p l 0) (fun k => l.length - k) 0 ?_ ?_ ?_
  · simp
  · (refine emb [] ?_ ?_ rfl ?_ ?_ ?_ ?_ <;> simp [okM, okO, lk, ren, renL, renNd, by_, hE, hren] <;> (try omega) <;> (try (intro i hi; first | (rcases (by omega : i = 0 ∨ i = 1 ∨ i = 2) with rfl | rfl | rfl <;> rfl) | (rcases (by omega : i = 0 ∨ i = 1) with rfl | rfl <;> rfl))))
  intro k ⟨hk, hno⟩
  by_cases hk' : k < l.length
  · obtain ⟨x, hx⟩ : ∃ x, l[k]? = some x := ⟨l[k], by simp [hk']⟩
    have hd := drop_at hx
    rw [hd, idxK] at hno
    have hfx := hf E.G x
    simp only [eK] at hfx
    (repeat' (first | refine awp_seq ?_ | refine awp_block ?_ | refine awp_skip ?_ | refine awp_exit ?_ | ((first | refine rR (fun K kp hK hkp => ?_) | refine cR hfx ?_ | refine iG ?_); simp (implicitDefEqProofs := false) (maxSteps := 2000000) (disch := omega) only [go_sem, hx, eK, hcap]; (repeat' (first | (refine hK _ ?_; clear hK hkp kp K) | (with_reducible refine And.intro ?_ ?_) | omega))) | ((first | refine aG (fun h => ?_) (fun h => ?_) | refine aD (fun h => ?_) (fun h => ?_) | refine aX (fun h => ?_) (fun h => ?_)) <;> simp only [h]) | refine awp_cond_t rfl ?_ | refine awp_cond_f rfl ?_ | ((refine awp_cond rfl (fun h => ?_) (fun h => ?_) <;> try simp only [ifs] at h) <;> (try (exfalso; omega))) | refine awp_ret ?_))
    · (refine retA_is (by (simp (implicitDefEqProofs := false) (maxSteps := 2000000) (disch := omega) only [go_sem, Go.Proofs.Tryd.results60]); rfl) ?_; refine eN hE ?_; simp [oneA, ren, renL])
      rw [← hno, if_pos h]
    · ((first | (refine nextB (k + 1) ?_ ?_ ?_) | (refine nextA (k + 1) ?_ ?_ ?_) | (refine nextE (k + 1) ?_ ?_ ?_)); rotate_left; (· (try dsimp only); (first | omega | (simp only [List.length_drop, List.length_cons, List.length_append]; omega) | (simp; done) | (simp; omega))); (· (refine emb [] ?_ ?_ rfl ?_ ?_ ?_ ?_ <;> simp [okM, okO, lk, ren, renL, renNd, by_, hE, hren] <;> (try omega) <;> (try (intro i hi; first | (rcases (by omega : i = 0 ∨ i = 1 ∨ i = 2) with rfl | rfl | rfl <;> rfl) | (rcases (by omega : i = 0 ∨ i = 1) with rfl | rfl <;> rfl))))))
      exact ⟨by omega, by rw [← hno, if_neg (by simp [h])]⟩
  · (repeat' (first | refine awp_seq ?_ | refine awp_block ?_ | refine awp_skip ?_ | refine awp_exit ?_ | ((first | refine rR (fun K kp hK hkp => ?_) | refine iG ?_); simp (implicitDefEqProofs := false) (maxSteps := 2000000) (disch := omega) only [go_sem]; (repeat' (first | (refine hK _ ?_; clear hK hkp kp K) | (with_reducible refine And.intro ?_ ?_) | omega))) | ((first | refine aG (fun h => ?_) (fun h => ?_) | refine aD (fun h => ?_) (fun h => ?_) | refine aX (fun h => ?_) (fun h => ?_)) <;> simp only [h]) | refine awp_cond_t rfl ?_ | refine awp_cond_f rfl ?_ | ((refine awp_cond rfl (fun h => ?_) (fun h => ?_) <;> try simp only [ifs] at h) <;> (try (exfalso; omega))) | refine awp_ret ?_))
    (refine retA_is (by (simp (implicitDefEqProofs := false) (maxSteps := 2000000) (disch := omega) only [go_sem, Go.Proofs.Tryd.results60]); rfl) ?_; refine eN hE ?_; simp [oneA, ren, renL])
    rw [← hno, List.drop_of_length_le (by omega)]; rfl
/-- Where the first one is that is so. -/
theorem idxK_spec (p : LK → Bool) : ∀ (l : List LK) (k : Nat), (idxK p l k = -1 ∧ l.filter (fun x => !p x) = l) ∨ ∃ i, idxK p l k = ((k + i : Nat) : Int) ∧ i < l.length ∧ (l.take (i + 1)).filter (fun x => !p x) = l.take i
  | [], k => .inl ⟨rfl, rfl⟩
  | x :: r, k => by
    by_cases h : p x = true
    · exact .inr ⟨0, by rw [idxK, if_pos h]; rfl, by simp, by simp [h]⟩
    · rcases idxK_spec p r (k + 1) with ⟨h1, h2⟩ | ⟨i, h1, h2, h3⟩
      · exact .inl ⟨by rw [idxK, if_neg h, h1], by rw [List.filter_cons, if_pos (by simp [h]), h2]⟩
      · refine .inr ⟨i + 1, ?_, by simp; omega, ?_⟩
        · rw [idxK, if_neg h, h1, show k + 1 + i = k + (i + 1) by omega]
        · rw [List.take_succ_cons, List.filter_cons, if_pos (by simp [h]), h3, List.take_succ_cons]
/-- What stays. -/
def keptK (p : LK → Bool) (l : List LK) : List LK := l.filter fun x => !p x
theorem kept_len (p : LK → Bool) (l : List LK) : (keptK p l).length ≤ l.length := List.length_filter_le _ _
theorem kept_succ {p : LK → Bool} {l : List LK} {j : Nat} {x : LK} (h : l[j]? = some x) : keptK p (l.take (j + 1)) = if p x = true then keptK p (l.take j) else keptK p (l.take j) ++ [x] := by
  unfold keptK
  rw [List.take_add_one, h, List.filter_append]
  cases hp : p x <;> simp [hp]
/-- How the row lies, behind so many of its elements. -/
def rowD (p : LK → Bool) (l : List LK) (j : Nat) : List LK := keptK p (l.take j) ++ l.drop (keptK p (l.take j)).length
theorem kept_take (p : LK → Bool) (l : List LK) (j : Nat) : (keptK p (l.take j)).length ≤ l.length := Nat.le_trans (kept_len _ _) (List.length_take_le' _ _)
theorem rowD_len (p : LK → Bool) (l : List LK) (j : Nat) : (rowD p l j).length = l.length := by
  have := kept_take p l j
  unfold rowD; rw [List.length_append, List.length_drop]; omega
theorem rowD_at (p : LK → Bool) (l : List LK) (j q : Nat) (h : (keptK p (l.take j)).length ≤ q) : (rowD p l j)[q]? = l[q]? := by
  unfold rowD
  rw [List.getElem?_append_right h, List.getElem?_drop]; congr 1; omega
theorem rowD_same {p : LK → Bool} {l : List LK} {j : Nat} {x : LK} (h : l[j]? = some x) (hp : p x = true) : rowD p l (j + 1) = rowD p l j := by
  unfold rowD; rw [kept_succ h, if_pos hp]
theorem rowD_set {p : LK → Bool} {l : List LK} {j : Nat} {x : LK} (h : l[j]? = some x) (hp : p x = false) (hlt : (keptK p (l.take j)).length < l.length) : rowD p l (j + 1) = (rowD p l j).set (keptK p (l.take j)).length x := by
  unfold rowD; rw [kept_succ h, if_neg (by simp [hp])]
  rw [List.set_append_right _ _ (Nat.le_refl _), Nat.sub_self, show (l.drop (keptK p (l.take j)).length).set 0 x = x :: l.drop ((keptK p (l.take j)).length + 1) by rw [List.drop_eq_getElem_cons hlt]; rfl]
  simp
def zK : List AV := [.r (.int .i64 0), .r (.string ⟨#[]⟩), .r (.int .i64 0)]
set_option maxRecDepth 100000 in
set_option maxHeartbeats 8000000 in
theorem deleteFunc_con0 (G : List (Nat × List Value)) (l : List LK) (g : Nat) (caps : List AV) (p : LK → Bool) (hl : l.length ≤ 1048576) (hcap : ∀ st, borL st caps = some caps) (hren : ∀ f, renL f caps = caps) (hf : ∀ G x, Con Go.Proofs.Tryd.prog G g (.agg (eK x) :: caps) [] 0 (Is (.r (.bool (p x))) [] 0) No) :
    Con Go.Proofs.Tryd.prog G 48 [.s 0 0 l.length, .fn g caps] [(0, .lst 82 3 (l.map eK))] 1 (Is (.s 0 0 (keptK p l).length) [(0, .lst 82 3 ((keptK p l).map eK ++ List.replicate (l.length - (keptK p l).length) zK))] 1) No := by
  have ic := indexFuncK_con G false l g caps p hl hcap hren hf
  rcases idxK_spec p l 0 with ⟨h1, h2⟩ | ⟨i, h1, h2, h3⟩
  · rw [h1] at ic
    have hk : keptK p l = l := h2
    rw [hk]
    refine con_of_awp Go.Proofs.Tryd.func48 rfl (by kernel_rfl) (of_decide_eq_true (by kernel_rfl)) ?_; intro E hG hE; subst hG; simp only [ent]
    (repeat' (first | refine awp_seq ?_ | refine awp_block ?_ | refine awp_skip ?_ | refine awp_exit ?_ | ((first | refine rR (fun K kp hK hkp => ?_) | refine cR ic ?_ | refine iG ?_); simp (implicitDefEqProofs := false) (maxSteps := 2000000) (disch := omega) only [go_sem, hcap]; (repeat' (first | (refine hK _ ?_; clear hK hkp kp K) | (with_reducible refine And.intro ?_ ?_) | omega))) | ((first | refine aG (fun h => ?_) (fun h => ?_) | refine aD (fun h => ?_) (fun h => ?_) | refine aX (fun h => ?_) (fun h => ?_)) <;> simp only [h]) | refine awp_cond_t rfl ?_ | refine awp_cond_f rfl ?_ | ((refine awp_cond rfl (fun h => ?_) (fun h => ?_) <;> try simp only [ifs] at h) <;> (try (exfalso; omega))) | refine awp_ret ?_))
    (refine retA_is (by (simp (implicitDefEqProofs := false) (maxSteps := 2000000) (disch := omega) only [go_sem, Go.Proofs.Tryd.results48]); rfl) ?_; refine (embV [0] ?_ ?_ ?_ ?_ ?_ ?_).s <;> simp [oneA, okO, lk, ren, renL, renNd, by_, hE] <;> (try (intro i hi; first | (rcases (by omega : i = 0 ∨ i = 1 ∨ i = 2) with rfl | rfl | rfl <;> rfl) | (rcases (by omega : i = 0 ∨ i = 1) with rfl | rfl <;> rfl))))
  · rw [h1, Nat.zero_add] at ic
    have b1 : ((i : Int) == -1) = false := by rw [beq_eq_false_iff_ne]; omega
    refine con_of_awp Go.Proofs.Tryd.func48 rfl (by kernel_rfl) (of_decide_eq_true (by kernel_rfl)) ?_; intro E hG hE; subst hG; simp only [ent]
    (repeat' (first | refine awp_seq ?_ | refine awp_block ?_ | refine awp_skip ?_ | refine awp_exit ?_ | ((first | refine rR (fun K kp hK hkp => ?_) | refine cR ic ?_ | refine iG ?_); simp (implicitDefEqProofs := false) (maxSteps := 2000000) (disch := omega) only [go_sem, hcap, b1]; (repeat' (first | (refine hK _ ?_; clear hK hkp kp K) | (with_reducible refine And.intro ?_ ?_) | omega))) | ((first | refine aG (fun h => ?_) (fun h => ?_) | refine aD (fun h => ?_) (fun h => ?_) | refine aX (fun h => ?_) (fun h => ?_)) <;> simp only [h]) | refine awp_cond_t rfl ?_ | refine awp_cond_f rfl ?_ | ((refine awp_cond rfl (fun h => ?_) (fun h => ?_) <;> try simp only [ifs] at h) <;> (try (exfalso; omega))) | refine awp_ret ?_))
    have hki : keptK p (l.take (i + 1)) = l.take i := h3
    have hli : (l.take i).length = i := by rw [List.length_take]; omega
    have hri : rowD p l (i + 1) = l := by unfold rowD; rw [hki, hli, List.take_append_drop]
    refine awp_loop (fun j : Nat => ⟨[(6, .r (.int .i64 j)), (5, .r (.int .i64 (keptK p (l.take j)).length)), (0, .s 0 0 l.length), (1, .fn g caps)], [(0, .lst 82 3 ((rowD p l j).map eK))], 1⟩) (fun j => j ≤ l.length ∧ (keptK p (l.take j)).length + 1 ≤ j) (fun j => l.length - j) (i + 1) ?_ ?_ ?_
    · exact ⟨by omega, by rw [hki, hli]; omega⟩
    · (refine emb [0] ?_ ?_ rfl ?_ ?_ ?_ ?_ <;> simp [okM, okO, lk, ren, renL, renNd, by_, hE, hki, hli, hri, hren] <;> (try omega) <;> (try (intro i hi; first | (rcases (by omega : i = 0 ∨ i = 1 ∨ i = 2) with rfl | rfl | rfl <;> rfl) | (rcases (by omega : i = 0 ∨ i = 1) with rfl | rfl <;> rfl))))
    rintro j ⟨hj, hkj⟩
    have hrl := rowD_len p l j
    by_cases hlt : j < l.length
    · obtain ⟨x, hx⟩ : ∃ x, l[j]? = some x := ⟨l[j], by simp [hlt]⟩
      obtain ⟨y, hy⟩ : ∃ y, l[(keptK p (l.take j)).length]? = some y := ⟨l[(keptK p (l.take j)).length]'(by omega), by simp⟩
      have hx1 := rowD_at p l j j (by omega)
      have hy1 := rowD_at p l j _ (Nat.le_refl (keptK p (l.take j)).length)
      rw [hx] at hx1
      rw [hy] at hy1
      have hks := kept_succ (p := p) hx
      have hfx := hf E.G x
      simp only [eK] at hfx
      have z1 : ((j : Int) < (l.length : Int)) = True := eq_true (by omega)
      cases hp : p x
      · rw [hp] at hfx
        rw [if_neg (by simp [hp])] at hks
        have hst : List.set ((rowD p l j).map eK) (keptK p (l.take j)).length (eK x) = (rowD p l (j + 1)).map eK := by rw [rowD_set hx hp (by omega), List.map_set]
        simp only [eK] at hst
        have z2 : (((keptK p (l.take j)).length : Int) < (l.length : Int)) = True := eq_true (by omega)
        (repeat' (first | refine awp_seq ?_ | refine awp_block ?_ | refine awp_skip ?_ | refine awp_exit ?_ | ((first | refine rR (fun K kp hK hkp => ?_) | refine cR hfx ?_ | refine iG ?_); simp (implicitDefEqProofs := false) (maxSteps := 2000000) (disch := omega) only [go_sem, hx1, hy1, eK, hcap, z1, z2]; (repeat' (first | (refine hK _ ?_; clear hK hkp kp K) | (with_reducible refine And.intro ?_ ?_) | omega))) | ((first | refine aG (fun h => ?_) (fun h => ?_) | refine aD (fun h => ?_) (fun h => ?_) | refine aX (fun h => ?_) (fun h => ?_)) <;> simp only [h]) | refine awp_cond_t rfl ?_ | refine awp_cond_f rfl ?_ | ((refine awp_cond rfl (fun h => ?_) (fun h => ?_) <;> try simp only [ifs] at h) <;> (try (exfalso; omega))) | refine awp_ret ?_))
        ((first | (refine nextB (j + 1) ?_ ?_ ?_) | (refine nextA (j + 1) ?_ ?_ ?_) | (refine nextE (j + 1) ?_ ?_ ?_)); rotate_left; (· (try dsimp only); (first | omega | (simp only [List.length_drop, List.length_cons, List.length_append]; omega) | (simp; done) | (simp; omega))); (· (refine emb [0] ?_ ?_ rfl ?_ ?_ ?_ ?_ <;> simp [okM, okO, lk, ren, renL, renNd, by_, hE, hks, hst, splice, hren] <;> (try omega) <;> (try (intro i hi; first | (rcases (by omega : i = 0 ∨ i = 1 ∨ i = 2) with rfl | rfl | rfl <;> rfl) | (rcases (by omega : i = 0 ∨ i = 1) with rfl | rfl <;> rfl))))))
        exact ⟨by omega, by rw [hks]; simp; omega⟩
      · rw [hp] at hfx
        rw [if_pos hp] at hks
        (repeat' (first | refine awp_seq ?_ | refine awp_block ?_ | refine awp_skip ?_ | refine awp_exit ?_ | ((first | refine rR (fun K kp hK hkp => ?_) | refine cR hfx ?_ | refine iG ?_); simp (implicitDefEqProofs := false) (maxSteps := 2000000) (disch := omega) only [go_sem, hx1, hy1, eK, hcap, z1]; (repeat' (first | (refine hK _ ?_; clear hK hkp kp K) | (with_reducible refine And.intro ?_ ?_) | omega))) | ((first | refine aG (fun h => ?_) (fun h => ?_) | refine aD (fun h => ?_) (fun h => ?_) | refine aX (fun h => ?_) (fun h => ?_)) <;> simp only [h]) | refine awp_cond_t rfl ?_ | refine awp_cond_f rfl ?_ | ((refine awp_cond rfl (fun h => ?_) (fun h => ?_) <;> try simp only [ifs] at h) <;> (try (exfalso; omega))) | refine awp_ret ?_))
        ((first | (refine nextB (j + 1) ?_ ?_ ?_) | (refine nextA (j + 1) ?_ ?_ ?_) | (refine nextE (j + 1) ?_ ?_ ?_)); rotate_left; (· (try dsimp only); (first | omega | (simp only [List.length_drop, List.length_cons, List.length_append]; omega) | (simp; done) | (simp; omega))); (· (refine emb [0] ?_ ?_ rfl ?_ ?_ ?_ ?_ <;> simp [okM, okO, lk, ren, renL, renNd, by_, hE, hks, rowD_same hx hp, hren] <;> (try omega) <;> (try (intro i hi; first | (rcases (by omega : i = 0 ∨ i = 1 ∨ i = 2) with rfl | rfl | rfl <;> rfl) | (rcases (by omega : i = 0 ∨ i = 1) with rfl | rfl <;> rfl))))))
        exact ⟨by omega, by rw [hks]; omega⟩
    · obtain rfl : j = l.length := by omega
      rw [List.take_length] at hkj ⊢
      have hrow : rowD p l l.length = keptK p l ++ l.drop (keptK p l).length := by unfold rowD; rw [List.take_length]
      have q1 : List.take (keptK p l).length ((rowD p l l.length).map eK) = (keptK p l).map eK := by rw [hrow, List.map_append, List.take_left' (by simp)]
      have q2 : List.drop ((keptK p l).length + (l.length - (keptK p l).length)) ((rowD p l l.length).map eK) = [] := List.drop_of_length_le (by simp [hrl]; omega)
      (repeat' (first | refine awp_seq ?_ | refine awp_block ?_ | refine awp_skip ?_ | refine awp_exit ?_ | ((first | refine rR (fun K kp hK hkp => ?_) | refine iG ?_); simp (implicitDefEqProofs := false) (maxSteps := 2000000) (disch := omega) only [go_sem, List.length_map, hrl]; (repeat' (first | (refine hK _ ?_; clear hK hkp kp K) | (with_reducible refine And.intro ?_ ?_) | omega))) | ((first | refine aG (fun h => ?_) (fun h => ?_) | refine aD (fun h => ?_) (fun h => ?_) | refine aX (fun h => ?_) (fun h => ?_)) <;> simp only [h]) | refine awp_cond_t rfl ?_ | refine awp_cond_f rfl ?_ | ((refine awp_cond rfl (fun h => ?_) (fun h => ?_) <;> try simp only [ifs] at h) <;> (try (exfalso; omega))) | refine awp_ret ?_))
      · rfl
      · rw [q1, q2, List.append_nil]
        (refine retA_is (by (simp (implicitDefEqProofs := false) (maxSteps := 2000000) (disch := omega) only [go_sem, Go.Proofs.Tryd.results48, zK]); rfl) ?_; refine (embV [0] ?_ ?_ ?_ ?_ ?_ ?_).s <;> simp [oneA, okO, lk, ren, renL, renNd, by_, hE, zK] <;> (try (intro i hi; first | (rcases (by omega : i = 0 ∨ i = 1 ∨ i = 2) with rfl | rfl | rfl <;> rfl) | (rcases (by omega : i = 0 ∨ i = 1) with rfl | rfl <;> rfl))))
theorem deleteFunc_con (G : List (Nat × List Value)) (l : List LK) (g : Nat) (caps : List AV) (p : LK → Bool) (hl : l.length ≤ 1048576) (hcap : ∀ st, borL st caps = some caps) (hren : ∀ f, renL f caps = caps) (hf : ∀ G x, Con Go.Proofs.Tryd.prog G g (.agg (eK x) :: caps) [] 0 (Is (.r (.bool (p x))) [] 0) No) :
    Con Go.Proofs.Tryd.prog G 48 [.s 0 0 l.length, .fn g caps] [(0, .lst 82 3 (l.map eK))] 1 (Is (.s 0 0 (keptK p l).length) [(0, .lst 82 3 ((keptK p l).map eK))] 1) No :=
  (deleteFunc_con0 G l g caps p hl hcap hren hf).cut
end Go.AM
/- lock.Victim. -/
namespace Go.AM
open Go Go.RowKit
open Go.Proofs.YteebiklebedneaaDoor (LK modeB lockGood uniqS)
attribute [local irreducible] AWP retA
def tsK (l : List LK) : List Int := l.map (·.t)
theorem ts_get {l : List LK} {k : Nat} {q : LK} (h : l[k]? = some q) : (tsK l)[k]? = some q.t := by simp [tsK, h]
theorem idxK_at (p : LK → Bool) : ∀ (l : List LK) (k : Nat), (idxK p l k = -1 ∧ ∀ x ∈ l, p x = false) ∨ ∃ (i : Nat) (x : LK), idxK p l k = ((k + i : Nat) : Int) ∧ l[i]? = some x ∧ p x = true
  | [], k => .inl ⟨rfl, fun _ h => by cases h⟩
  | x :: r, k => by
    by_cases h : p x = true
    · exact .inr ⟨0, x, by rw [idxK, if_pos h]; rfl, rfl, h⟩
    · rcases idxK_at p r (k + 1) with ⟨h1, h2⟩ | ⟨i, y, h1, h2, h3⟩
      · exact .inl ⟨by rw [idxK, if_neg h, h1], fun y hy => by
          rcases List.mem_cons.1 hy with rfl | hy
          · simpa using h
          · exact h2 y hy⟩
      · exact .inr ⟨i + 1, y, by rw [idxK, if_neg h, h1, show k + 1 + i = k + (i + 1) by omega], by simpa using h2, h3⟩
theorem flat_le {B : Nat} : ∀ (rs : List (List Int)), (∀ r ∈ rs, r.length ≤ B) → rs.flatten.length ≤ rs.length * B
  | [], _ => by simp
  | r :: rs, h => by
    have := flat_le rs (fun x hx => h x (by simp [hx]))
    have h1 := h r (by simp)
    rw [List.flatten_cons, List.length_append, List.length_cons, Nat.add_mul]; omega
theorem good_nodup {l1 l2 : List LK} (h : lockGood l1 l2) {i j : Nat} {p q : LK} (hi : l2[i]? = some p) (hj : l2[j]? = some q) (ht : p.t = q.t) : i = j := by
  have key : ∀ {i j : Nat} {p q : LK}, l2[i]? = some p → l2[j]? = some q → p.t = q.t → ¬ i < j := by
    intro i j p q hi hj ht hlt
    have h1 := List.any_eq_false.1 (h.2.2.2 j q hj).2.1 p (List.mem_of_getElem? (i := i) (by rw [List.getElem?_take_of_lt hlt]; exact hi))
    simp [Go.Proofs.YteebiklebedneaaDoor.sameX, ht] at h1
  rcases Nat.lt_trichotomy i j with h1 | h1 | h1
  · exact (key hi hj ht h1).elim
  · exact h1
  · exact (key hj hi ht.symm h1).elim
theorem victim1_con (G : List (Nat × List Value)) (x : LK) (t : Int) : Con Go.Proofs.Tryd.prog G 61 [.agg (eK x), .re false [.r (.int .i64 t)] 0] [] 0 (Is (.r (.bool (x.t == t))) [] 0) No := by
  refine con_of_awp Go.Proofs.Tryd.func61 rfl (by kernel_rfl) (of_decide_eq_true (by kernel_rfl)) ?_; intro E hG hE; subst hG; simp only [ent]
  (repeat' (first | refine awp_seq ?_ | refine awp_block ?_ | refine awp_skip ?_ | refine awp_exit ?_ | ((first | refine rR (fun K kp hK hkp => ?_) | refine iG ?_); simp (implicitDefEqProofs := false) (maxSteps := 2000000) (disch := omega) only [go_sem, eK]; (repeat' (first | (refine hK _ ?_; clear hK hkp kp K) | (with_reducible refine And.intro ?_ ?_) | omega))) | ((first | refine aG (fun h => ?_) (fun h => ?_) | refine aD (fun h => ?_) (fun h => ?_) | refine aX (fun h => ?_) (fun h => ?_)) <;> simp only [h]) | refine awp_cond_t rfl ?_ | refine awp_cond_f rfl ?_ | ((refine awp_cond rfl (fun h => ?_) (fun h => ?_) <;> try simp only [ifs] at h) <;> (try (exfalso; omega))) | refine awp_ret ?_))
  (refine retA_is (by (simp (implicitDefEqProofs := false) (maxSteps := 2000000) (disch := omega) only [go_sem, Go.Proofs.Tryd.results61]); rfl) ?_; refine eN hE ?_; simp [oneA, ren, renL])
end Go.AM
/- lock.Victim: the walk. -/
namespace Go.AM
open Go Go.RowKit
open Go.Proofs.YteebiklebedneaaDoor (LK modeB lockGood uniqS)
attribute [local irreducible] AWP retA
theorem cloneI (G : List (Nat × List Value)) (t : Bool) (l : List Int) (hl : l.length ≤ 1048576) : Con Go.Proofs.Tryd.prog G 59 [.ro t 1 (l.map eI)] [] 0 (Is (.s 0 0 l.length) [(0, .lst 3 1 (l.map eI))] 1) No :=
  clone_con G ⟨_, _, _, _, _, Go.Proofs.Tryd.func59, rfl, by kernel_rfl, rfl, rfl, ty_43, ty_3, rfl, by decide⟩ t eI l (by omega) (by omega)
set_option maxRecDepth 100000 in
set_option maxHeartbeats 8000000 in
theorem Victim_good {G : List (Nat × List Value)} (T : TabsL G) (t1 t2 : Bool) (l1 l2 : List LK) (o1 : okKs l1) (o2 : okKs l2) (hg : lockGood l1 l2) :
    Con Go.Proofs.Tryd.prog G 27 [.agg [.ro t1 3 (l1.map eK), .ro t2 3 (l2.map eK)]] [] 0 (Is (.tup [.r (.int .i64 (vicF (tsK l2) (rowsM l1 l2 l2.length) l2.length)), .r (.int .i64 0)]) [] 0) No := by
  have wc := Waits_good T t1 t2 l1 l2 o1 o2 hg
  obtain ⟨rs, hrs⟩ : ∃ rs, rowsM l1 l2 l2.length = rs := ⟨_, rfl⟩
  have hB := hg.1
  have hrl : ∀ r ∈ rs, r.length ≤ 200 := fun r hr => by
    rw [← hrs] at hr
    obtain ⟨i, _, rfl⟩ := List.mem_map.1 hr
    have := rowM_len l1 l2 i; omega
  have hrn : rs.length = l2.length := by rw [← hrs, rowsM_len]
  have hfl : rs.flatten.length ≤ 40000 := by
    have := flat_le rs hrl
    have : rs.length * 200 ≤ 200 * 200 := Nat.mul_le_mul_right _ (by omega)
    omega
  rw [hrs] at wc ⊢
  refine con_of_awp Go.Proofs.Tryd.func27 rfl (by kernel_rfl) (of_decide_eq_true (by kernel_rfl)) ?_; intro E hG hE; subst hG; simp only [ent]
  (repeat' (first | refine awp_seq ?_ | refine awp_block ?_ | refine awp_skip ?_ | refine awp_exit ?_ | ((first | refine rR (fun K kp hK hkp => ?_) | refine cR wc ?_ | refine iG ?_); simp (implicitDefEqProofs := false) (maxSteps := 2000000) (disch := omega) only [go_sem, eK]; (repeat' (first | (refine hK _ ?_; clear hK hkp kp K) | (with_reducible refine And.intro ?_ ?_) | omega))) | ((first | refine aG (fun h => ?_) (fun h => ?_) | refine aD (fun h => ?_) (fun h => ?_) | refine aX (fun h => ?_) (fun h => ?_)) <;> simp only [h]) | refine awp_cond_t rfl ?_ | refine awp_cond_f rfl ?_ | ((refine awp_cond rfl (fun h => ?_) (fun h => ?_) <;> try simp only [ifs] at h) <;> (try (exfalso; omega))) | refine awp_ret ?_))
  refine awp_loop (fun k : Nat => ⟨[(28, .r (.int .i64 k)), (27, .r (.int .i64 l2.length)), (26, .ro t2 3 (l2.map eK)), (6, .r (.int .i64 (vicF (tsK l2) rs k))), (4, .ro true 1 (rs.map eIs)), (1, .p 0 0 0)], [(0, .box 41 [.ro t1 3 (l1.map eK), .ro t2 3 (l2.map eK)])], 1⟩) (fun k => k ≤ l2.length) (fun k => l2.length - k) 0 ?_ ?_ ?_
  · simp
  · (refine emb [0] ?_ ?_ rfl ?_ ?_ ?_ ?_ <;> simp [okM, okO, lk, ren, renL, renNd, by_, hE, vicF] <;> (try omega) <;> (try (intro i hi; first | (rcases (by omega : i = 0 ∨ i = 1 ∨ i = 2) with rfl | rfl | rfl <;> rfl) | (rcases (by omega : i = 0 ∨ i = 1) with rfl | rfl <;> rfl))))
  intro k hk
  by_cases hlt : k < l2.length
  · obtain ⟨q, hx⟩ : ∃ x, l2[k]? = some x := ⟨l2[k], by simp [hlt]⟩
    obtain ⟨r, hr⟩ : ∃ r, rs[k]? = some r := ⟨rs[k]'(by omega), by simp [hrn, hlt]⟩
    have hrk := hrl r (List.mem_of_getElem? hr)
    have cc := cloneI E.G true r (by omega)
    (repeat' (first | refine awp_seq ?_ | refine awp_block ?_ | refine awp_skip ?_ | refine awp_exit ?_ | ((first | refine rR (fun K kp hK hkp => ?_) | refine cR cc ?_ | refine iG ?_); simp (implicitDefEqProofs := false) (maxSteps := 2000000) (disch := omega) only [go_sem, hx, hr, eK, eIs]; (repeat' (first | (refine hK _ ?_; clear hK hkp kp K) | (with_reducible refine And.intro ?_ ?_) | omega))) | ((first | refine aG (fun h => ?_) (fun h => ?_) | refine aD (fun h => ?_) (fun h => ?_) | refine aX (fun h => ?_) (fun h => ?_)) <;> simp only [h]) | refine awp_cond_t rfl ?_ | refine awp_cond_f rfl ?_ | ((refine awp_cond rfl (fun h => ?_) (fun h => ?_) <;> try simp only [ifs] at h) <;> (try (exfalso; omega))) | refine awp_ret ?_))
    refine awp_loop (fun p : List Int × List Int => ⟨[(10, .s 3 0 p.2.length), (9, .q 2), (7, .r (.int .i64 k)), (8, .p 1 0 0), (28, .r (.int .i64 k)), (27, .r (.int .i64 l2.length)), (26, .ro t2 3 (l2.map eK)), (6, .r (.int .i64 (vicF (tsK l2) rs k))), (4, .ro true 1 (rs.map eIs)), (1, .p 0 0 0)],
      [(0, .box 41 [.ro t1 3 (l1.map eK), .ro t2 3 (l2.map eK)]), (1, .box 82 (eK q)), (2, .mp p.1), (3, .lst 3 1 (p.2.map eI))], 4⟩)
      (fun p => DfsAt (tsK l2) rs k p.1 p.2 ∧ p.2.length ≤ (p.1.length + 1) * 200) (fun p => dfsMu rs.flatten.length 200 p.1 p.2) ([], r) ?_ ?_ ?_
    · exact ⟨dfs_start hr, by simp; omega⟩
    · (refine emb [0, 1, 2, 3] ?_ ?_ rfl ?_ ?_ ?_ ?_ <;> simp [okM, okO, lk, ren, renL, renNd, by_, hE, eK] <;> (try omega) <;> (try (intro i hi; first | (rcases (by omega : i = 0 ∨ i = 1 ∨ i = 2) with rfl | rfl | rfl <;> rfl) | (rcases (by omega : i = 0 ∨ i = 1) with rfl | rfl <;> rfl))))
    rintro ⟨seen, todo⟩ ⟨hD, hle⟩
    have hsl : seen.length ≤ rs.flatten.length := dfs_seen hD
    have hbig : todo.length ≤ 10000000 := by
      have : (seen.length + 1) * 200 ≤ 40001 * 200 := Nat.mul_le_mul_right _ (by omega)
      simp only at hle; omega
    rcases List.eq_nil_or_concat todo with rfl | ⟨td, t, rfl⟩
    · have hS := dfs_end hD q.t
      have hself := self_iff (rs := rs) (ts_get hx)
      have hq0 : (tsK l2).getD k 0 = q.t := by rw [List.getD_eq_getElem?_getD, ts_get hx]; rfl
      by_cases hs : q.t ∈ seen
      · have hc : seen.contains q.t = true := by simpa using hs
        have hv : vicF (tsK l2) rs (k + 1) = if q.t > vicF (tsK l2) rs k then q.t else vicF (tsK l2) rs k := by
          rw [vicF, hq0]; simp only [hself.2 (hS.1 hs), true_and]
        (repeat' (first | refine awp_seq ?_ | refine awp_block ?_ | refine awp_skip ?_ | refine awp_exit ?_ | ((first | refine rR (fun K kp hK hkp => ?_) | refine iG ?_); simp (implicitDefEqProofs := false) (maxSteps := 2000000) (disch := omega) only [go_sem, hc, eK]; (repeat' (first | (refine hK _ ?_; clear hK hkp kp K) | (with_reducible refine And.intro ?_ ?_) | omega))) | ((first | refine aG (fun h => ?_) (fun h => ?_) | refine aD (fun h => ?_) (fun h => ?_) | refine aX (fun h => ?_) (fun h => ?_)) <;> simp only [h]) | refine awp_cond_t rfl ?_ | refine awp_cond_f rfl ?_ | ((refine awp_cond rfl (fun h => ?_) (fun h => ?_) <;> try simp only [ifs] at h) <;> (try (exfalso; omega))) | refine awp_ret ?_))
        ((first | (refine nextB (k + 1) ?_ ?_ ?_) | (refine nextA (k + 1) ?_ ?_ ?_) | (refine nextE (k + 1) ?_ ?_ ?_)); rotate_left; (· (try dsimp only); (first | omega | (simp only [List.length_drop, List.length_cons, List.length_append]; omega) | (simp; done) | (simp; omega))); (· (refine emb [0] ?_ ?_ rfl ?_ ?_ ?_ ?_ <;> simp [okM, okO, lk, ren, renL, renNd, by_, hE, hv] <;> (try omega) <;> (try (intro i hi; first | (rcases (by omega : i = 0 ∨ i = 1 ∨ i = 2) with rfl | rfl | rfl <;> rfl) | (rcases (by omega : i = 0 ∨ i = 1) with rfl | rfl <;> rfl))))))
        omega
      · have hc : seen.contains q.t = false := by simpa using hs
        have hv : vicF (tsK l2) rs (k + 1) = vicF (tsK l2) rs k := by
          rw [vicF, if_neg (fun hh => hs (hS.2 (hself.1 hh.1)))]
        (repeat' (first | refine awp_seq ?_ | refine awp_block ?_ | refine awp_skip ?_ | refine awp_exit ?_ | ((first | refine rR (fun K kp hK hkp => ?_) | refine iG ?_); simp (implicitDefEqProofs := false) (maxSteps := 2000000) (disch := omega) only [go_sem, hc, eK]; (repeat' (first | (refine hK _ ?_; clear hK hkp kp K) | (with_reducible refine And.intro ?_ ?_) | omega))) | ((first | refine aG (fun h => ?_) (fun h => ?_) | refine aD (fun h => ?_) (fun h => ?_) | refine aX (fun h => ?_) (fun h => ?_)) <;> simp only [h]) | refine awp_cond_t rfl ?_ | refine awp_cond_f rfl ?_ | ((refine awp_cond rfl (fun h => ?_) (fun h => ?_) <;> try simp only [ifs] at h) <;> (try (exfalso; omega))) | refine awp_ret ?_))
        ((first | (refine nextB (k + 1) ?_ ?_ ?_) | (refine nextA (k + 1) ?_ ?_ ?_) | (refine nextE (k + 1) ?_ ?_ ?_)); rotate_left; (· (try dsimp only); (first | omega | (simp only [List.length_drop, List.length_cons, List.length_append]; omega) | (simp; done) | (simp; omega))); (· (refine emb [0] ?_ ?_ rfl ?_ ?_ ?_ ?_ <;> simp [okM, okO, lk, ren, renL, renNd, by_, hE, hv] <;> (try omega) <;> (try (intro i hi; first | (rcases (by omega : i = 0 ∨ i = 1 ∨ i = 2) with rfl | rfl | rfl <;> rfl) | (rcases (by omega : i = 0 ∨ i = 1) with rfl | rfl <;> rfl))))))
        omega
    · simp only [List.concat_eq_append, List.length_append, List.length_singleton] at hD hle hbig ⊢
      have e1 : ((td.length + 1 : Nat) : Int) - 1 = (td.length : Int) := by omega
      have e2 : ((td.length : Int) < ((td.length + 1 : Nat) : Int)) = True := eq_true (by omega)
      have g1 : ((td ++ [t]).map eI)[td.length]? = some [.r (.int .i64 t)] := by simp [eI]
      have htk : ((td ++ [t]).map eI).take td.length = td.map eI := by simp
      by_cases ht : t ∈ seen
      · have hc : seen.contains t = true := by simpa using ht
        (repeat' (first | refine awp_seq ?_ | refine awp_block ?_ | refine awp_skip ?_ | refine awp_exit ?_ | ((first | refine rR (fun K kp hK hkp => ?_) | refine iG ?_); simp (implicitDefEqProofs := false) (maxSteps := 2000000) (disch := omega) only [go_sem, hc, e1, e2, g1]; (repeat' (first | (refine hK _ ?_; clear hK hkp kp K) | (with_reducible refine And.intro ?_ ?_) | omega))) | ((first | refine aG (fun h => ?_) (fun h => ?_) | refine aD (fun h => ?_) (fun h => ?_) | refine aX (fun h => ?_) (fun h => ?_)) <;> simp only [h]) | refine awp_cond_t rfl ?_ | refine awp_cond_f rfl ?_ | ((refine awp_cond rfl (fun h => ?_) (fun h => ?_) <;> try simp only [ifs] at h) <;> (try (exfalso; omega))) | refine awp_ret ?_))
        have hmu : dfsMu rs.flatten.length 200 seen td < dfsMu rs.flatten.length 200 seen (td ++ [t]) := by unfold dfsMu; simp
        ((first | (refine nextB ((seen, td)) ?_ ?_ ?_) | (refine nextA ((seen, td)) ?_ ?_ ?_) | (refine nextE ((seen, td)) ?_ ?_ ?_)); rotate_left; (· (try dsimp only); (first | omega | (simp only [List.length_drop, List.length_cons, List.length_append]; omega) | (simp; done) | (simp; omega))); (· refine Emb.trans (emb_cut 3 td.length rfl) ?_; (try simp only [setNd]); (refine emb [0, 1, 2, 3] ?_ ?_ rfl ?_ ?_ ?_ ?_ <;> simp [okM, okO, lk, ren, renL, renNd, by_, hE, htk, eK] <;> (try omega) <;> (try (intro i hi; first | (rcases (by omega : i = 0 ∨ i = 1 ∨ i = 2) with rfl | rfl | rfl <;> rfl) | (rcases (by omega : i = 0 ∨ i = 1) with rfl | rfl <;> rfl))))))
        exact ⟨dfs_old hD ht, by simp only; omega⟩
      · have hc : seen.contains t = false := by simpa using ht
        have hp : putK seen t = seen ++ [t] := by unfold putK; rw [hc]; rfl
        have ic := indexFuncK_con E.G t2 l2 61 [.re false [.r (.int .i64 t)] 0] (fun x => x.t == t) o2.1 (fun _ => rfl) (fun _ => rfl) (fun G x => victim1_con G x t)
        have hsl2 : (seen ++ [t]).length ≤ rs.flatten.length := nodup_le (by
          rw [List.nodup_append]
          exact ⟨hD.n, by simp, fun a ha b hb => by rw [List.mem_singleton.1 hb]; exact fun e => ht (e ▸ ha)⟩) (fun x hx => by
          rcases List.mem_append.1 hx with hx | hx
          · exact rch_in (hD.s x hx)
          · rw [List.mem_singleton.1 hx]; exact rch_in (hD.d t (by simp)))
        rcases idxK_at (fun x => x.t == t) l2 0 with ⟨hi, hno⟩ | ⟨i, x, hi, hxi, hxt⟩
        · rw [hi] at ic
          (repeat' (first | refine awp_seq ?_ | refine awp_block ?_ | refine awp_skip ?_ | refine awp_exit ?_ | ((first | refine rR (fun K kp hK hkp => ?_) | refine cR ic ?_ | refine iG ?_); simp (implicitDefEqProofs := false) (maxSteps := 2000000) (disch := omega) only [go_sem, hc, hp, e1, e2, g1]; (repeat' (first | (refine hK _ ?_; clear hK hkp kp K) | (with_reducible refine And.intro ?_ ?_) | omega))) | ((first | refine aG (fun h => ?_) (fun h => ?_) | refine aD (fun h => ?_) (fun h => ?_) | refine aX (fun h => ?_) (fun h => ?_)) <;> simp only [h]) | refine awp_cond_t rfl ?_ | refine awp_cond_f rfl ?_ | ((refine awp_cond rfl (fun h => ?_) (fun h => ?_) <;> try simp only [ifs] at h) <;> (try (exfalso; omega))) | refine awp_ret ?_))
          have hmu : dfsMu rs.flatten.length 200 (seen ++ [t]) td < dfsMu rs.flatten.length 200 seen (td ++ [t]) := by
            have := dfsMu_new (more := []) (todo := td) (B := 200) hsl2 (by simp)
            simpa using this
          ((first | (refine nextB ((seen ++ [t], td)) ?_ ?_ ?_) | (refine nextA ((seen ++ [t], td)) ?_ ?_ ?_) | (refine nextE ((seen ++ [t], td)) ?_ ?_ ?_)); rotate_left; (· (try dsimp only); (first | omega | (simp only [List.length_drop, List.length_cons, List.length_append]; omega) | (simp; done) | (simp; omega))); (· refine Emb.trans (emb_cut 3 td.length rfl) ?_; (try simp only [setNd]); (refine emb [0, 1, 2, 3] ?_ ?_ rfl ?_ ?_ ?_ ?_ <;> simp [okM, okO, lk, ren, renL, renNd, by_, hE, htk, eK] <;> (try omega) <;> (try (intro i hi; first | (rcases (by omega : i = 0 ∨ i = 1 ∨ i = 2) with rfl | rfl | rfl <;> rfl) | (rcases (by omega : i = 0 ∨ i = 1) with rfl | rfl <;> rfl))))))
          refine ⟨?_, by simp only [List.length_append, List.length_singleton]; omega⟩
          have := dfs_new (more := []) hD ht (fun j r' hj _ => by
            rw [tsK, List.getElem?_map, Option.map_eq_some_iff] at hj
            obtain ⟨y, hy, hyt⟩ := hj
            have := hno y (List.mem_of_getElem? hy)
            simp [hyt] at this) (.inl rfl)
          simpa using this
        · rw [Nat.zero_add] at hi
          rw [hi] at ic
          obtain ⟨ri, hri⟩ : ∃ r, rs[i]? = some r := ⟨rs[i]'(by rw [hrn]; exact (List.getElem?_eq_some_iff.1 hxi).1), by simp⟩
          have hril := hrl ri (List.mem_of_getElem? hri)
          (repeat' (first | refine awp_seq ?_ | refine awp_block ?_ | refine awp_skip ?_ | refine awp_exit ?_ | ((first | refine rR (fun K kp hK hkp => ?_) | refine cR ic ?_ | refine iG ?_); simp (implicitDefEqProofs := false) (maxSteps := 2000000) (disch := omega) only [go_sem, hc, hp, e1, e2, g1, hri, htk, eIs]; (repeat' (first | (refine hK _ ?_; clear hK hkp kp K) | (with_reducible refine And.intro ?_ ?_) | omega))) | ((first | refine aG (fun h => ?_) (fun h => ?_) | refine aD (fun h => ?_) (fun h => ?_) | refine aX (fun h => ?_) (fun h => ?_)) <;> simp only [h]) | refine awp_cond_t rfl ?_ | refine awp_cond_f rfl ?_ | ((refine awp_cond rfl (fun h => ?_) (fun h => ?_) <;> try simp only [ifs] at h) <;> (try (exfalso; omega))) | refine awp_ret ?_))
          have hmu := dfsMu_new (more := ri) (todo := td) (B := 200) hsl2 hril
          ((first | (refine nextB ((seen ++ [t], td ++ ri)) ?_ ?_ ?_) | (refine nextA ((seen ++ [t], td ++ ri)) ?_ ?_ ?_) | (refine nextE ((seen ++ [t], td ++ ri)) ?_ ?_ ?_)); rotate_left; (· (try dsimp only); (first | omega | (simp only [List.length_drop, List.length_cons, List.length_append]; omega) | (simp; done) | (simp; omega))); (· (refine emb [0, 1, 2, 6] ?_ ?_ rfl ?_ ?_ ?_ ?_ <;> simp [okM, okO, lk, ren, renL, renNd, by_, hE, htk, eK] <;> (try omega) <;> (try (intro i hi; first | (rcases (by omega : i = 0 ∨ i = 1 ∨ i = 2) with rfl | rfl | rfl <;> rfl) | (rcases (by omega : i = 0 ∨ i = 1) with rfl | rfl <;> rfl))))))
          have hxt' : x.t = t := by simpa using hxt
          refine ⟨dfs_new hD ht (fun j r' hj hr' => ?_) (.inr ⟨i, by rw [ts_get hxi, hxt'], hri⟩), by simp only [List.length_append, List.length_singleton]; omega⟩
          rw [tsK, List.getElem?_map, Option.map_eq_some_iff] at hj
          obtain ⟨y, hy, hyt⟩ := hj
          have := good_nodup hg hy hxi (hyt.trans hxt'.symm)
          subst this
          rw [hri] at hr'; cases hr'; rfl
  · obtain rfl : k = l2.length := by omega
    (repeat' (first | refine awp_seq ?_ | refine awp_block ?_ | refine awp_skip ?_ | refine awp_exit ?_ | ((first | refine rR (fun K kp hK hkp => ?_) | refine iG ?_); simp (implicitDefEqProofs := false) (maxSteps := 2000000) (disch := omega) only [go_sem, hrs]; (repeat' (first | (refine hK _ ?_; clear hK hkp kp K) | (with_reducible refine And.intro ?_ ?_) | omega))) | ((first | refine aG (fun h => ?_) (fun h => ?_) | refine aD (fun h => ?_) (fun h => ?_) | refine aX (fun h => ?_) (fun h => ?_)) <;> simp only [h]) | refine awp_cond_t rfl ?_ | refine awp_cond_f rfl ?_ | ((refine awp_cond rfl (fun h => ?_) (fun h => ?_) <;> try simp only [ifs] at h) <;> (try (exfalso; omega))) | refine awp_ret ?_))
    (refine retA_is (by (simp (implicitDefEqProofs := false) (maxSteps := 2000000) (disch := omega) only [go_sem, Go.Proofs.Tryd.results27]); rfl) ?_; refine eN hE ?_; simp [oneA, ren, renL])
end Go.AM
/- The reference's VictimOf. -/
namespace Go.AM
open Go Go.RowKit
open Go.Proofs.YteebiklebedneaaDoor (LK modeB lockGood uniqS)
attribute [local irreducible] AWP retA
def eBo (b : Bool) : List AV := [.r (.bool b)]
@[simp] theorem ptA_eBo (a : Bool) : (∀ x, x ∈ eBo a → PT x) = True := eq_true (by intro x hx; simp [eBo] at hx; subst hx; exact .r _)
instance : PTf eBo := ⟨fun a => of_eq_true (ptA_eBo a)⟩
def rowB (n : Nat) (f : Nat → Bool) : List (List AV) := (List.range n).map fun c => eBo (f c)
theorem rowB_len (n : Nat) (f : Nat → Bool) : (rowB n f).length = n := by simp [rowB]
theorem rowB_take (n : Nat) (f : Nat → Bool) : (rowB n f).take n = rowB n f := List.take_of_length_le (by rw [rowB_len]; exact Nat.le_refl _)
theorem rowB_get {n c : Nat} (f : Nat → Bool) (h : c < n) : (rowB n f)[c]? = some [.r (.bool (f c))] := by simp [rowB, h, eBo]
theorem rowB_congr {n : Nat} {f g : Nat → Bool} (h : ∀ c, c < n → f c = g c) : rowB n f = rowB n g := by
  unfold rowB
  exact List.map_congr_left fun c hc => by rw [h c (List.mem_range.1 hc)]
theorem rowB_set {n b : Nat} (f : Nat → Bool) : (rowB n f).set b [.r (.bool true)] = rowB n fun c => if c = b then true else f c := by
  apply List.ext_getElem?
  intro i
  rw [List.getElem?_set]
  by_cases h : i < n
  · rw [rowB_get _ h]
    by_cases hb : b = i
    · subst hb
      rw [rowB_get (fun c => if c = b then true else f c) h]
      simp [rowB_len, h]
    · rw [if_neg hb, rowB_get (fun c => if c = b then true else f c) h, if_neg (Ne.symm hb)]
  · rw [List.getElem?_eq_none (by rw [rowB_len]; omega : (rowB n fun c => if c = b then true else f c).length ≤ i)]
    split
    · rw [rowB_len, if_neg (by omega)]
    · exact List.getElem?_eq_none (by rw [rowB_len]; omega)
/-- Rows that are there, and rows that are not yet. -/
def eA (ts : List Int) (rs : List (List Int)) (n k : Nat) : List (List AV) := (List.range n).map fun a => if a < k then [.u 4 1 (rowB n (edgeB ts rs a))] else [.r (.slice none 0 0)]
def eW (ts : List Int) (rs : List (List Int)) (n k i : Nat) : List (List AV) := (List.range n).map fun a => [.u 4 1 (rowB n (if a < i then wM ts rs (k + 1) a else wM ts rs k a))]
variable {ts : List Int} {rs : List (List Int)} {n k i : Nat}
theorem eA_zero : eA ts rs n 0 = List.replicate n [.r (.slice none 0 0)] := by
  apply List.ext_getElem?
  intro a
  by_cases h : a < n
  · simp [eA, h]
  · simp [eA, h]
theorem eA_len : (eA ts rs n k).length = n := by simp [eA]
theorem eA_at (h : i < n) : (eA ts rs n i)[i]? = some [.r (.slice none 0 0)] := by simp [eA, h]
theorem eA_close : (eA ts rs n i).set i [.u 4 1 (rowB n (edgeB ts rs i))] = eA ts rs n (i + 1) := by
  apply List.ext_getElem?
  intro a
  rw [List.getElem?_set]
  by_cases h : a < n
  · by_cases hi : i = a
    · subst hi; simp [eA, h]
    · rw [if_neg hi]
      by_cases hlt : a < i
      · simp [eA, h, hlt, show a < i + 1 by omega]
      · simp [eA, h, hlt, show ¬ a < i + 1 by omega]
  · rw [List.getElem?_eq_none (by rw [eA_len]; omega : (eA ts rs n (i + 1)).length ≤ a)]
    split
    · rw [eA_len, if_neg (by omega)]
    · exact List.getElem?_eq_none (by rw [eA_len]; omega)
theorem eA_end : eA ts rs n n = eW ts rs n 0 0 := by
  unfold eA eW
  exact List.map_congr_left fun c hc => by
    rw [if_pos (List.mem_range.1 hc), if_neg (by omega)]; rfl
theorem eW_len : (eW ts rs n k i).length = n := by simp [eW]
theorem eW_next : eW ts rs n k n = eW ts rs n (k + 1) 0 := by
  unfold eW
  exact List.map_congr_left fun c hc => by
    rw [if_pos (List.mem_range.1 hc), if_neg (by omega)]
theorem eW_at (h : i < n) : (eW ts rs n k i)[i]? = some [.u 4 1 (rowB n (wM ts rs k i))] := by simp [eW, h]
theorem eW_k (h : k < n) : (eW ts rs n k i)[k]? = some [.u 4 1 (rowB n (wM ts rs k k))] := by
  have : (if k < i then wM ts rs (k + 1) k else wM ts rs k k) = wM ts rs k k := by
    split
    · funext b; exact wM_row k b
    · rfl
  simp only [eW, List.getElem?_map, List.getElem?_range h, Option.map_some, this]
theorem eW_step {a : Nat} : (eW ts rs n k i)[a]? = (if a = i then none else (eW ts rs n k (i + 1))[a]?) ∨ a = i := by
  by_cases h : a = i
  · exact .inr h
  · refine .inl ?_
    rw [if_neg h]
    by_cases hn : a < n
    · by_cases hlt : a < i
      · simp [eW, hn, hlt, show a < i + 1 by omega]
      · simp [eW, hn, hlt, show ¬ a < i + 1 by omega]
    · rw [List.getElem?_eq_none (by rw [eW_len]; omega), List.getElem?_eq_none (by rw [eW_len]; omega)]
theorem eW_set1 (h : i < n) : (eW ts rs n k i).set i [.u 4 1 (rowB n (wM ts rs (k + 1) i))] = eW ts rs n k (i + 1) := by
  apply List.ext_getElem?
  intro a
  rw [List.getElem?_set]
  by_cases ha : i = a
  · subst ha
    rw [if_pos rfl, eW_len, if_pos h]
    simp [eW, h]
  · rw [if_neg ha]
    rcases eW_step (ts := ts) (rs := rs) (n := n) (k := k) (i := i) (a := a) with h1 | h1
    · rw [h1, if_neg (Ne.symm ha)]
    · exact absurd h1.symm ha
theorem eW_set2 (hk : k < n) : (eW ts rs n k i).set k [.u 4 1 (rowB n (wM ts rs k k))] = eW ts rs n k i := by
  apply List.ext_getElem?
  intro a
  rw [List.getElem?_set]
  by_cases ha : k = a
  · subst ha; rw [if_pos rfl, eW_len, if_pos hk, eW_k hk]
  · rw [if_neg ha]
/-- The rows, read alone from now on. -/
def eR (ts : List Int) (rs : List (List Int)) (n : Nat) : List (List AV) := (List.range n).map fun a => [.ro true 1 (rowB n (wM ts rs n a))]
theorem dfz_rowB (t : Bool) (f : Nat → Bool) : dfzR t (rowB n f) = rowB n f := by
  unfold rowB
  exact dfzR_map t (fun c => eBo (f c)) (fun c => eBo (f c)) (fun a => by simp [eBo, dfzC, dfz]) _
theorem eW_end : dfzR true (eW ts rs n n 0) = eR ts rs n := by
  unfold eW eR
  refine dfzR_map true _ _ (fun a => ?_) _
  simp only [dfzC, dfz, dfz_rowB, Nat.not_lt_zero, if_false]
theorem eR_at (h : i < n) : (eR ts rs n)[i]? = some [.ro true 1 (rowB n (wM ts rs n i))] := by simp [eR, h]
theorem eR_len : (eR ts rs n).length = n := by simp [eR]
end Go.AM
/- The reference's VictimOf: the walk. -/
namespace Go.AM
open Go Go.RowKit
open Go.Proofs.YteebiklebedneaaDoor (LK modeB lockGood uniqS)
attribute [local irreducible] AWP retA
/-- What stands in a row that is filled. -/
def fillB (ts : List Int) (rs : List (List Int)) (i b j c : Nat) : Bool := if c < b then edgeB ts rs i c else if c = b then ((rs.getD i []).take j).contains (ts.getD b 0) else false
def wRow (ts : List Int) (rs : List (List Int)) (k i j c : Nat) : Bool := if c < j then wM ts rs (k + 1) i c else wM ts rs k i c
set_option maxRecDepth 100000 in
set_option maxHeartbeats 8000000 in
theorem VictimOf_good (G : List (Nat × List Value)) (t1 t2 : Bool) (l1 l2 : List LK) (o1 : okKs l1) (o2 : okKs l2) (hg : lockGood l1 l2) :
    Con Go.Proofs.Tryd.prog G 28 [.agg [.ro t1 3 (l1.map eK), .ro t2 3 (l2.map eK)]] [] 0 (Is (.tup [.r (.int .i64 (vicF (tsK l2) (rowsM l1 l2 l2.length) l2.length)), .r (.int .i64 0)]) [] 0) No := by
  have wc := WaitsOf_good G t1 t2 l1 l2 o1 o2 hg
  obtain ⟨rs, hrs⟩ : ∃ rs, rowsM l1 l2 l2.length = rs := ⟨_, rfl⟩
  have hB := hg.1
  have hrn : rs.length = l2.length := by rw [← hrs, rowsM_len]
  obtain ⟨ts, hts⟩ : ∃ ts, tsK l2 = ts := ⟨_, rfl⟩
  have htn : ts.length = l2.length := by rw [← hts]; simp [tsK]
  rw [hrs] at wc ⊢
  rw [hts]
  refine con_of_awp Go.Proofs.Tryd.func28 rfl (by kernel_rfl) (of_decide_eq_true (by kernel_rfl)) ?_; intro E hG hE; subst hG; simp only [ent]
  (repeat' (first | refine awp_seq ?_ | refine awp_block ?_ | refine awp_skip ?_ | refine awp_exit ?_ | ((first | refine rR (fun K kp hK hkp => ?_) | refine rD (id := 16) mixed 14 [0,1,2,3,4,5,6,7,8,9,10,11,12,13] (fun K kp hK hkp => ?_) | refine cR wc ?_ | refine cD wc ?_ | refine iG ?_ | refine iD ?_); simp (implicitDefEqProofs := false) (maxSteps := 2000000) (disch := omega) only [go_sem, eK, Value.oneCell']; (repeat' (first | (refine hK _ ?_; clear hK hkp kp K) | (with_reducible refine And.intro ?_ ?_) | omega))) | ((first | refine aG (fun h => ?_) (fun h => ?_) | refine aD (fun h => ?_) (fun h => ?_) | refine aX (fun h => ?_) (fun h => ?_)) <;> simp only [h]) | refine awp_cond_t rfl ?_ | refine awp_cond_f rfl ?_ | ((refine awp_cond rfl (fun h => ?_) (fun h => ?_) <;> try simp only [ifs] at h) <;> (try (exfalso; omega))) | refine awp_ret ?_))
  (refine AWP.emb (emb_toU (T := ?z1T) (k := ?z1k) (els := ?z1e) 1 ?z1h) ?z1g; (case z1h => rfl); simp only [setNd])
  rw [← eA_zero (ts := ts) (rs := rs)]
  refine awp_loop (fun i : Nat => ⟨[(8, .r (.int .i64 i)), (7, .s 1 0 l2.length), (6, .r (.int .i64 l2.length)), (4, .ro true 1 (rs.map eIs)), (1, .p 0 0 0)], [(0, .box 41 [.ro t1 3 (l1.map eK), .ro t2 3 (l2.map eK)]), (1, .ul 99 1 (eA ts rs l2.length i) [])], 2⟩) (fun i => i ≤ l2.length) (fun i => l2.length - i) 0 ?_ ?_ ?_
  · simp
  · (refine emb [0, 1] ?_ ?_ rfl ?_ ?_ ?_ ?_ <;> simp [okM, okO, lk, ren, renL, renNd, by_, hE, renOp] <;> (try omega) <;> (try (intro i hi; first | (rcases (by omega : i = 0 ∨ i = 1 ∨ i = 2) with rfl | rfl | rfl <;> rfl) | (rcases (by omega : i = 0 ∨ i = 1) with rfl | rfl <;> rfl))))
  · intro i hi
    by_cases hlt : i < l2.length
    · have hA := eA_at (ts := ts) (rs := rs) hlt
      have zi : ((i : Int) < (l2.length : Int)) = True := eq_true (by omega)
      obtain ⟨r, hr⟩ : ∃ r, rs[i]? = some r := ⟨rs[i]'(by omega), by simp [hrn, hlt]⟩
      have hrl : r.length ≤ 200 := by
        have hm := List.mem_of_getElem? hr
        rw [← hrs] at hm
        obtain ⟨i, _, rfl⟩ := List.mem_map.1 hm
        have := rowM_len l1 l2 i; omega
      have hrD : rs.getD i [] = r := by rw [List.getD_eq_getElem?_getD, hr]; rfl
      have hel := eA_len (ts := ts) (rs := rs) (n := l2.length) (k := i)
      have e0 : List.replicate l2.length [AV.r (.bool false)] = rowB l2.length (fillB ts rs i 0 0) := by
        apply List.ext_getElem?
        intro c
        by_cases hc : c < l2.length
        · rw [rowB_get _ hc]; simp [hc, fillB]
        · rw [List.getElem?_eq_none (by simp; omega), List.getElem?_eq_none (by rw [rowB_len]; omega)]
      (repeat' (first | refine awp_seq ?_ | refine awp_block ?_ | refine awp_skip ?_ | refine awp_exit ?_ | ((first | refine rR (fun K kp hK hkp => ?_) | refine rD (id := 16) mixed 14 [0,1,2,3,4,5,6,7,8,9,10,11,12,13] (fun K kp hK hkp => ?_) | refine iG ?_ | refine iD ?_); simp (implicitDefEqProofs := false) (maxSteps := 2000000) (disch := omega) only [go_sem, hA, zi, Value.oneCell']; (repeat' (first | (refine hK _ ?_; clear hK hkp kp K) | (with_reducible refine And.intro ?_ ?_) | omega))) | ((first | refine aG (fun h => ?_) (fun h => ?_) | refine aD (fun h => ?_) (fun h => ?_) | refine aX (fun h => ?_) (fun h => ?_)) <;> simp only [h]) | refine awp_cond_t rfl ?_ | refine awp_cond_f rfl ?_ | ((refine awp_cond rfl (fun h => ?_) (fun h => ?_) <;> try simp only [ifs] at h) <;> (try (exfalso; omega))) | refine awp_ret ?_))
      rw [e0]
      refine awp_loop (fun b : Nat => ⟨[(9, .r (.int .i64 b)), (8, .r (.int .i64 i)), (7, .s 1 0 l2.length), (6, .r (.int .i64 l2.length)), (4, .ro true 1 (rs.map eIs)), (1, .p 0 0 0)], [(0, .box 41 [.ro t1 3 (l1.map eK), .ro t2 3 (l2.map eK)]), (1, .ul 99 1 ((eA ts rs l2.length i).set i [.any]) [(i, 0, .s 2 0 l2.length)]), (2, .lst 4 1 (rowB l2.length (fillB ts rs i b 0)))], 3⟩) (fun b => b ≤ l2.length) (fun b => l2.length - b) 0 ?_ ?_ ?_
      · simp
      · (refine emb [0, 1, 2] ?_ ?_ rfl ?_ ?_ ?_ ?_ <;> simp [okM, okO, lk, ren, renL, renNd, by_, hE, renOp] <;> (try omega) <;> (try (intro i hi; first | (rcases (by omega : i = 0 ∨ i = 1 ∨ i = 2) with rfl | rfl | rfl <;> rfl) | (rcases (by omega : i = 0 ∨ i = 1) with rfl | rfl <;> rfl))))
      · intro b hb
        by_cases hbl : b < l2.length
        · have zb : ((b : Int) < (l2.length : Int)) = True := eq_true (by omega)
          obtain ⟨q, hx⟩ : ∃ x, l2[b]? = some x := ⟨l2[b], by simp [hbl]⟩
          have hq0 : ts.getD b 0 = q.t := by rw [← hts, List.getD_eq_getElem?_getD, ts_get hx]; rfl
          (repeat' (first | refine awp_seq ?_ | refine awp_block ?_ | refine awp_skip ?_ | refine awp_exit ?_ | ((first | refine rR (fun K kp hK hkp => ?_) | refine rD (id := 16) mixed 14 [0,1,2,3,4,5,6,7,8,9,10,11,12,13] (fun K kp hK hkp => ?_) | refine iG ?_ | refine iD ?_); simp (implicitDefEqProofs := false) (maxSteps := 2000000) (disch := omega) only [go_sem, zb]; (repeat' (first | (refine hK _ ?_; clear hK hkp kp K) | (with_reducible refine And.intro ?_ ?_) | omega))) | ((first | refine aG (fun h => ?_) (fun h => ?_) | refine aD (fun h => ?_) (fun h => ?_) | refine aX (fun h => ?_) (fun h => ?_)) <;> simp only [h]) | refine awp_cond_t rfl ?_ | refine awp_cond_f rfl ?_ | ((refine awp_cond rfl (fun h => ?_) (fun h => ?_) <;> try simp only [ifs] at h) <;> (try (exfalso; omega))) | refine awp_ret ?_))
          refine awp_loop (fun j : Nat => ⟨[(10, .r (.int .i64 j)), (9, .r (.int .i64 b)), (8, .r (.int .i64 i)), (7, .s 1 0 l2.length), (6, .r (.int .i64 l2.length)), (4, .ro true 1 (rs.map eIs)), (1, .p 0 0 0)], [(0, .box 41 [.ro t1 3 (l1.map eK), .ro t2 3 (l2.map eK)]), (1, .ul 99 1 ((eA ts rs l2.length i).set i [.any]) [(i, 0, .s 2 0 l2.length)]), (2, .lst 4 1 (rowB l2.length (fillB ts rs i b j)))], 3⟩) (fun j => j ≤ r.length) (fun j => r.length - j) 0 ?_ ?_ ?_
          · simp
          · (refine emb [0, 1, 2] ?_ ?_ rfl ?_ ?_ ?_ ?_ <;> simp [okM, okO, lk, ren, renL, renNd, by_, hE, renOp] <;> (try omega) <;> (try (intro i hi; first | (rcases (by omega : i = 0 ∨ i = 1 ∨ i = 2) with rfl | rfl | rfl <;> rfl) | (rcases (by omega : i = 0 ∨ i = 1) with rfl | rfl <;> rfl))))
          · intro j hj
            by_cases hjl : j < r.length
            · obtain ⟨u, hu⟩ : ∃ u, r[j]? = some u := ⟨r[j], by simp [hjl]⟩
              have hset : ((eA ts rs l2.length i).set i [.any])[i]? = some [.any] := by simp [hel, hlt]
              have hrow := rowB_get (fillB ts rs i b j) hbl
              have htk : r.take (j + 1) = r.take j ++ [u] := by rw [List.take_add_one, hu]; rfl
              by_cases huq : u = q.t
              · have hb1 : (u == q.t) = true := by simpa using huq
                have hnext : (rowB l2.length (fillB ts rs i b j)).set b [.r (.bool true)] = rowB l2.length (fillB ts rs i b (j + 1)) := by
                  rw [rowB_set]
                  refine rowB_congr fun c hc => ?_
                  unfold fillB
                  rw [hrD, htk, hq0]
                  by_cases h1 : c < b
                  · rw [if_neg (by omega)]; simp [h1]
                  · by_cases h2 : c = b
                    · simp [h2, huq]
                    · simp [h1, h2]
                (repeat' (first | refine awp_seq ?_ | refine awp_block ?_ | refine awp_skip ?_ | refine awp_exit ?_ | ((first | refine rR (fun K kp hK hkp => ?_) | refine rD (id := 16) mixed 14 [0,1,2,3,4,5,6,7,8,9,10,11,12,13] (fun K kp hK hkp => ?_) | refine iG ?_ | refine iD ?_); simp (implicitDefEqProofs := false) (maxSteps := 2000000) (disch := omega) only [go_sem, zb, zi, hx, hr, hu, hb1, hset, hrow, eK, eIs, eI]; (repeat' (first | (refine hK _ ?_; clear hK hkp kp K) | (with_reducible refine And.intro ?_ ?_) | omega))) | ((first | refine aG (fun h => ?_) (fun h => ?_) | refine aD (fun h => ?_) (fun h => ?_) | refine aX (fun h => ?_) (fun h => ?_)) <;> simp only [h]) | refine awp_cond_t rfl ?_ | refine awp_cond_f rfl ?_ | ((refine awp_cond rfl (fun h => ?_) (fun h => ?_) <;> try simp only [ifs] at h) <;> (try (exfalso; omega))) | refine awp_ret ?_))
                ((first | (refine nextB (j + 1) ?_ ?_ ?_) | (refine nextA (j + 1) ?_ ?_ ?_) | (refine nextE (j + 1) ?_ ?_ ?_)); rotate_left; (· (try dsimp only); (first | omega | (simp only [List.length_drop, List.length_cons, List.length_append]; omega) | (simp; done) | (simp; omega))); (· (refine emb [0, 1, 2] ?_ ?_ rfl ?_ ?_ ?_ ?_ <;> simp [okM, okO, lk, ren, renL, renNd, by_, hE, hnext, renOp] <;> (try omega) <;> (try (intro i hi; first | (rcases (by omega : i = 0 ∨ i = 1 ∨ i = 2) with rfl | rfl | rfl <;> rfl) | (rcases (by omega : i = 0 ∨ i = 1) with rfl | rfl <;> rfl))))))
                omega
              · have hb1 : (u == q.t) = false := by simpa using huq
                have hnext : rowB l2.length (fillB ts rs i b j) = rowB l2.length (fillB ts rs i b (j + 1)) := by
                  refine rowB_congr fun c hc => ?_
                  unfold fillB
                  rw [hrD, htk, hq0]
                  by_cases h1 : c < b
                  · simp [h1]
                  · by_cases h2 : c = b
                    · simp [h2, Ne.symm huq]
                    · simp [h1, h2]
                (repeat' (first | refine awp_seq ?_ | refine awp_block ?_ | refine awp_skip ?_ | refine awp_exit ?_ | ((first | refine rR (fun K kp hK hkp => ?_) | refine rD (id := 16) mixed 14 [0,1,2,3,4,5,6,7,8,9,10,11,12,13] (fun K kp hK hkp => ?_) | refine iG ?_ | refine iD ?_); simp (implicitDefEqProofs := false) (maxSteps := 2000000) (disch := omega) only [go_sem, zb, zi, hx, hr, hu, hb1, hset, hrow, eK, eIs, eI]; (repeat' (first | (refine hK _ ?_; clear hK hkp kp K) | (with_reducible refine And.intro ?_ ?_) | omega))) | ((first | refine aG (fun h => ?_) (fun h => ?_) | refine aD (fun h => ?_) (fun h => ?_) | refine aX (fun h => ?_) (fun h => ?_)) <;> simp only [h]) | refine awp_cond_t rfl ?_ | refine awp_cond_f rfl ?_ | ((refine awp_cond rfl (fun h => ?_) (fun h => ?_) <;> try simp only [ifs] at h) <;> (try (exfalso; omega))) | refine awp_ret ?_))
                rw [hnext]
                ((first | (refine nextB (j + 1) ?_ ?_ ?_) | (refine nextA (j + 1) ?_ ?_ ?_) | (refine nextE (j + 1) ?_ ?_ ?_)); rotate_left; (· (try dsimp only); (first | omega | (simp only [List.length_drop, List.length_cons, List.length_append]; omega) | (simp; done) | (simp; omega))); (· (refine emb [0, 1, 2] ?_ ?_ rfl ?_ ?_ ?_ ?_ <;> simp [okM, okO, lk, ren, renL, renNd, by_, hE, renOp] <;> (try omega) <;> (try (intro i hi; first | (rcases (by omega : i = 0 ∨ i = 1 ∨ i = 2) with rfl | rfl | rfl <;> rfl) | (rcases (by omega : i = 0 ∨ i = 1) with rfl | rfl <;> rfl))))))
                omega
            · obtain rfl : j = r.length := by omega
              have hnext : rowB l2.length (fillB ts rs i b r.length) = rowB l2.length (fillB ts rs i (b + 1) 0) := by
                refine rowB_congr fun c hc => ?_
                unfold fillB
                rw [hrD, List.take_length, hq0]
                by_cases h1 : c < b
                · simp [h1, show c < b + 1 by omega]
                · by_cases h2 : c = b
                  · subst h2
                    rw [if_neg (by omega), if_pos rfl, if_pos (by omega), edgeB, hrD, hq0]
                  · rw [if_neg h1, if_neg h2, if_neg (by omega)]
                    simp
              (repeat' (first | refine awp_seq ?_ | refine awp_block ?_ | refine awp_skip ?_ | refine awp_exit ?_ | ((first | refine rR (fun K kp hK hkp => ?_) | refine rD (id := 16) mixed 14 [0,1,2,3,4,5,6,7,8,9,10,11,12,13] (fun K kp hK hkp => ?_) | refine iG ?_ | refine iD ?_); simp (implicitDefEqProofs := false) (maxSteps := 2000000) (disch := omega) only [go_sem, hr, eIs]; (repeat' (first | (refine hK _ ?_; clear hK hkp kp K) | (with_reducible refine And.intro ?_ ?_) | omega))) | ((first | refine aG (fun h => ?_) (fun h => ?_) | refine aD (fun h => ?_) (fun h => ?_) | refine aX (fun h => ?_) (fun h => ?_)) <;> simp only [h]) | refine awp_cond_t rfl ?_ | refine awp_cond_f rfl ?_ | ((refine awp_cond rfl (fun h => ?_) (fun h => ?_) <;> try simp only [ifs] at h) <;> (try (exfalso; omega))) | refine awp_ret ?_))
              rw [hnext]
              ((first | (refine nextB (b + 1) ?_ ?_ ?_) | (refine nextA (b + 1) ?_ ?_ ?_) | (refine nextE (b + 1) ?_ ?_ ?_)); rotate_left; (· (try dsimp only); (first | omega | (simp only [List.length_drop, List.length_cons, List.length_append]; omega) | (simp; done) | (simp; omega))); (· (refine emb [0, 1, 2] ?_ ?_ rfl ?_ ?_ ?_ ?_ <;> simp [okM, okO, lk, ren, renL, renNd, by_, hE, renOp] <;> (try omega) <;> (try (intro i hi; first | (rcases (by omega : i = 0 ∨ i = 1 ∨ i = 2) with rfl | rfl | rfl <;> rfl) | (rcases (by omega : i = 0 ∨ i = 1) with rfl | rfl <;> rfl))))))
              omega
        · obtain rfl : b = l2.length := by omega
          have hfin : rowB l2.length (fillB ts rs i l2.length 0) = rowB l2.length (edgeB ts rs i) := rowB_congr fun c hc => by simp [fillB, hc]
          rw [hfin]
          (refine AWP.emb (emb_toU (T := ?z2T) (k := ?z2k) (els := ?z2e) 2 ?z2h) ?z2g; (case z2h => rfl); simp only [setNd])
          have hset : ((eA ts rs l2.length i).set i [.any])[i]? = some [.any] := by simp [hel, hlt]
          (refine AWP.emb (emb_close (T := ?z3T) (k := ?z3k) (els := ?z3e) (T' := ?z3T1) (k' := ?z3k1) (els' := ?z3e1) (op := ?z3op) (e := ?z3ee) (m := ?z3m) (lo := ?z3lo) (len := ?z3len) 1 i 0 ?z3h ?z3ho ?z3hm ?z3hn ?z3hl ?z3he ?z3hj) ?z3g; (case z3h => rfl); (case z3he => exact hset); (case z3ho => (simp only [lk2, and_self, if_true, ↓reduceIte, rowB_len, rowB_take]; rfl)); (case z3hm => rfl); (case z3hn => simp); (case z3hl => simp [rowB_len, rowB_take]); (case z3hj => simp [rowB_len, rowB_take]); simp only [rm, rm2, and_self, Nat.le_refl, Nat.zero_add, Nat.lt_add_one, Nat.reduceLT, Nat.reduceEqDiff, ↓reduceIte, if_true, List.drop_zero, List.set_cons_zero, List.set_cons_succ, rowB_len, rowB_take])
          (repeat' (first | refine awp_seq ?_ | refine awp_block ?_ | refine awp_skip ?_ | refine awp_exit ?_ | ((first | refine rR (fun K kp hK hkp => ?_) | refine rD (id := 16) mixed 14 [0,1,2,3,4,5,6,7,8,9,10,11,12,13] (fun K kp hK hkp => ?_) | refine iG ?_ | refine iD ?_); simp (implicitDefEqProofs := false) (maxSteps := 2000000) (disch := omega) only [go_sem]; (repeat' (first | (refine hK _ ?_; clear hK hkp kp K) | (with_reducible refine And.intro ?_ ?_) | omega))) | ((first | refine aG (fun h => ?_) (fun h => ?_) | refine aD (fun h => ?_) (fun h => ?_) | refine aX (fun h => ?_) (fun h => ?_)) <;> simp only [h]) | refine awp_cond_t rfl ?_ | refine awp_cond_f rfl ?_ | ((refine awp_cond rfl (fun h => ?_) (fun h => ?_) <;> try simp only [ifs] at h) <;> (try (exfalso; omega))) | refine awp_ret ?_))
          ((first | (refine nextB (i + 1) ?_ ?_ ?_) | (refine nextA (i + 1) ?_ ?_ ?_) | (refine nextE (i + 1) ?_ ?_ ?_)); rotate_left; (· (try dsimp only); (first | omega | (simp only [List.length_drop, List.length_cons, List.length_append]; omega) | (simp; done) | (simp; omega))); (· (refine emb [0, 1] ?_ ?_ rfl ?_ ?_ ?_ ?_ <;> simp [okM, okO, lk, ren, renL, renNd, by_, hE, eA_close, renOp] <;> (try omega) <;> (try (intro i hi; first | (rcases (by omega : i = 0 ∨ i = 1 ∨ i = 2) with rfl | rfl | rfl <;> rfl) | (rcases (by omega : i = 0 ∨ i = 1) with rfl | rfl <;> rfl))))))
          omega
    · obtain rfl : i = l2.length := by omega
      rw [eA_end]
      (repeat' (first | refine awp_seq ?_ | refine awp_block ?_ | refine awp_skip ?_ | refine awp_exit ?_ | ((first | refine rR (fun K kp hK hkp => ?_) | refine rD (id := 16) mixed 14 [0,1,2,3,4,5,6,7,8,9,10,11,12,13] (fun K kp hK hkp => ?_) | refine iG ?_ | refine iD ?_); simp (implicitDefEqProofs := false) (maxSteps := 2000000) (disch := omega) only [go_sem]; (repeat' (first | (refine hK _ ?_; clear hK hkp kp K) | (with_reducible refine And.intro ?_ ?_) | omega))) | ((first | refine aG (fun h => ?_) (fun h => ?_) | refine aD (fun h => ?_) (fun h => ?_) | refine aX (fun h => ?_) (fun h => ?_)) <;> simp only [h]) | refine awp_cond_t rfl ?_ | refine awp_cond_f rfl ?_ | ((refine awp_cond rfl (fun h => ?_) (fun h => ?_) <;> try simp only [ifs] at h) <;> (try (exfalso; omega))) | refine awp_ret ?_))
      refine awp_loop (fun k : Nat => ⟨[(11, .r (.int .i64 k)), (7, .s 1 0 l2.length), (6, .r (.int .i64 l2.length)), (1, .p 0 0 0)], [(0, .box 41 [.ro t1 3 (l1.map eK), .ro t2 3 (l2.map eK)]), (1, .ul 99 1 (eW ts rs l2.length k 0) [])], 2⟩) (fun k => k ≤ l2.length) (fun k => l2.length - k) 0 ?_ ?_ ?_
      · simp
      · (refine emb [0, 1] ?_ ?_ rfl ?_ ?_ ?_ ?_ <;> simp [okM, okO, lk, ren, renL, renNd, by_, hE, renOp] <;> (try omega) <;> (try (intro i hi; first | (rcases (by omega : i = 0 ∨ i = 1 ∨ i = 2) with rfl | rfl | rfl <;> rfl) | (rcases (by omega : i = 0 ∨ i = 1) with rfl | rfl <;> rfl))))
      · intro k hk
        by_cases hkl : k < l2.length
        · have zk : ((k : Int) < (l2.length : Int)) = True := eq_true (by omega)
          (repeat' (first | refine awp_seq ?_ | refine awp_block ?_ | refine awp_skip ?_ | refine awp_exit ?_ | ((first | refine rR (fun K kp hK hkp => ?_) | refine rD (id := 16) mixed 14 [0,1,2,3,4,5,6,7,8,9,10,11,12,13] (fun K kp hK hkp => ?_) | refine iG ?_ | refine iD ?_); simp (implicitDefEqProofs := false) (maxSteps := 2000000) (disch := omega) only [go_sem, zk]; (repeat' (first | (refine hK _ ?_; clear hK hkp kp K) | (with_reducible refine And.intro ?_ ?_) | omega))) | ((first | refine aG (fun h => ?_) (fun h => ?_) | refine aD (fun h => ?_) (fun h => ?_) | refine aX (fun h => ?_) (fun h => ?_)) <;> simp only [h]) | refine awp_cond_t rfl ?_ | refine awp_cond_f rfl ?_ | ((refine awp_cond rfl (fun h => ?_) (fun h => ?_) <;> try simp only [ifs] at h) <;> (try (exfalso; omega))) | refine awp_ret ?_))
          refine awp_loop (fun i : Nat => ⟨[(12, .r (.int .i64 i)), (11, .r (.int .i64 k)), (7, .s 1 0 l2.length), (6, .r (.int .i64 l2.length)), (1, .p 0 0 0)], [(0, .box 41 [.ro t1 3 (l1.map eK), .ro t2 3 (l2.map eK)]), (1, .ul 99 1 (eW ts rs l2.length k i) [])], 2⟩) (fun i => i ≤ l2.length) (fun i => l2.length - i) 0 ?_ ?_ ?_
          · simp
          · (refine emb [0, 1] ?_ ?_ rfl ?_ ?_ ?_ ?_ <;> simp [okM, okO, lk, ren, renL, renNd, by_, hE, renOp] <;> (try omega) <;> (try (intro i hi; first | (rcases (by omega : i = 0 ∨ i = 1 ∨ i = 2) with rfl | rfl | rfl <;> rfl) | (rcases (by omega : i = 0 ∨ i = 1) with rfl | rfl <;> rfl))))
          · intro i hi
            by_cases hlt : i < l2.length
            · have zi : ((i : Int) < (l2.length : Int)) = True := eq_true (by omega)
              have hWk := eW_k (ts := ts) (rs := rs) (i := i) hkl
              have hWi := eW_at (ts := ts) (rs := rs) (k := k) hlt
              by_cases hik : i = k
              · subst hik
                (repeat' (first | refine awp_seq ?_ | refine awp_block ?_ | refine awp_skip ?_ | refine awp_exit ?_ | ((first | refine rR (fun K kp hK hkp => ?_) | refine rD (id := 16) mixed 14 [0,1,2,3,4,5,6,7,8,9,10,11,12,13] (fun K kp hK hkp => ?_) | refine iG ?_ | refine iD ?_); simp (implicitDefEqProofs := false) (maxSteps := 2000000) (disch := omega) only [go_sem, zi]; (repeat' (first | (refine hK _ ?_; clear hK hkp kp K) | (with_reducible refine And.intro ?_ ?_) | omega))) | ((first | refine aG (fun h => ?_) (fun h => ?_) | refine aD (fun h => ?_) (fun h => ?_) | refine aX (fun h => ?_) (fun h => ?_)) <;> simp only [h]) | refine awp_cond_t rfl ?_ | refine awp_cond_f rfl ?_ | ((refine awp_cond rfl (fun h => ?_) (fun h => ?_) <;> try simp only [ifs] at h) <;> (try (exfalso; omega))) | refine awp_ret ?_))
                (refine AWP.emb (emb_open (T := ?z4T) (k := ?z4k) (els := ?z4e) (T' := ?z4T1) (k' := ?z4k1) (els' := ?z4e1) (op := ?z4op) (e := ?z4ee) 1 i 0 ?z4h ?z4he ?z4hj ?z4ho) ?z4g; (case z4h => rfl); (case z4he => exact hWi); (case z4hj => rfl); (case z4ho => simp [lk2, rowB_len]); simp only [List.length_map, rowB_len])
                have hsame : wM ts rs i i i = true → (fun c => if c = i then true else wM ts rs i i c) = wM ts rs i i := fun h => by
                  funext c; by_cases hc : c = i
                  · subst hc; simp [h]
                  · simp [hc]
                refine awp_loop (fun j : Nat => ⟨[(13, .r (.int .i64 j)), (12, .r (.int .i64 i)), (11, .r (.int .i64 i)), (7, .s 1 0 l2.length), (6, .r (.int .i64 l2.length)), (1, .p 0 0 0)], [(0, .box 41 [.ro t1 3 (l1.map eK), .ro t2 3 (l2.map eK)]), (1, .ul 99 1 (eW ts rs l2.length i i) [(i, 0, .s 2 0 l2.length)]), (2, .ul 4 1 (rowB l2.length (wM ts rs i i)) [])], 3⟩) (fun j => j ≤ l2.length) (fun j => l2.length - j) 0 ?_ ?_ ?_
                · simp
                · (refine emb [0, 1, 2] ?_ ?_ rfl ?_ ?_ ?_ ?_ <;> simp [okM, okO, lk, ren, renL, renNd, by_, hE, renOp] <;> (try omega) <;> (try (intro i hi; first | (rcases (by omega : i = 0 ∨ i = 1 ∨ i = 2) with rfl | rfl | rfl <;> rfl) | (rcases (by omega : i = 0 ∨ i = 1) with rfl | rfl <;> rfl))))
                · intro j hj
                  by_cases hjl : j < l2.length
                  · have zj : ((j : Int) < (l2.length : Int)) = True := eq_true (by omega)
                    have hgk := rowB_get (wM ts rs i i) hlt
                    have hgj := rowB_get (wM ts rs i i) hjl
                    have hst : wM ts rs i i j = true → (rowB l2.length (wM ts rs i i)).set j [.r (.bool true)] = rowB l2.length (wM ts rs i i) := fun h => by
                      rw [rowB_set]
                      exact rowB_congr fun c _ => by
                        by_cases hc : c = j
                        · subst hc; simp [h]
                        · simp [hc]
                    cases hk1 : wM ts rs i i i
                    · rw [hk1] at hgk
                      (repeat' (first | refine awp_seq ?_ | refine awp_block ?_ | refine awp_skip ?_ | refine awp_exit ?_ | ((first | refine rR (fun K kp hK hkp => ?_) | refine rD (id := 16) mixed 14 [0,1,2,3,4,5,6,7,8,9,10,11,12,13] (fun K kp hK hkp => ?_) | refine iG ?_ | refine iD ?_); simp (implicitDefEqProofs := false) (maxSteps := 2000000) (disch := omega) only [go_sem, zi, zj, hWi, hgk]; (repeat' (first | (refine hK _ ?_; clear hK hkp kp K) | (with_reducible refine And.intro ?_ ?_) | omega))) | ((first | refine aG (fun h => ?_) (fun h => ?_) | refine aD (fun h => ?_) (fun h => ?_) | refine aX (fun h => ?_) (fun h => ?_)) <;> simp only [h]) | refine awp_cond_t rfl ?_ | refine awp_cond_f rfl ?_ | ((refine awp_cond rfl (fun h => ?_) (fun h => ?_) <;> try simp only [ifs] at h) <;> (try (exfalso; omega))) | refine awp_ret ?_))
                      ((first | (refine nextB (j + 1) ?_ ?_ ?_) | (refine nextA (j + 1) ?_ ?_ ?_) | (refine nextE (j + 1) ?_ ?_ ?_)); rotate_left; (· (try dsimp only); (first | omega | (simp only [List.length_drop, List.length_cons, List.length_append]; omega) | (simp; done) | (simp; omega))); (· (refine emb [0, 1, 2] ?_ ?_ rfl ?_ ?_ ?_ ?_ <;> simp [okM, okO, lk, ren, renL, renNd, by_, hE, renOp] <;> (try omega) <;> (try (intro i hi; first | (rcases (by omega : i = 0 ∨ i = 1 ∨ i = 2) with rfl | rfl | rfl <;> rfl) | (rcases (by omega : i = 0 ∨ i = 1) with rfl | rfl <;> rfl))))))
                      omega
                    · rw [hk1] at hgk
                      cases hk2 : wM ts rs i i j
                      · rw [hk2] at hgj
                        (repeat' (first | refine awp_seq ?_ | refine awp_block ?_ | refine awp_skip ?_ | refine awp_exit ?_ | ((first | refine rR (fun K kp hK hkp => ?_) | refine rD (id := 16) mixed 14 [0,1,2,3,4,5,6,7,8,9,10,11,12,13] (fun K kp hK hkp => ?_) | refine iG ?_ | refine iD ?_); simp (implicitDefEqProofs := false) (maxSteps := 2000000) (disch := omega) only [go_sem, zi, zj, hWi, hgk, hgj]; (repeat' (first | (refine hK _ ?_; clear hK hkp kp K) | (with_reducible refine And.intro ?_ ?_) | omega))) | ((first | refine aG (fun h => ?_) (fun h => ?_) | refine aD (fun h => ?_) (fun h => ?_) | refine aX (fun h => ?_) (fun h => ?_)) <;> simp only [h]) | refine awp_cond_t rfl ?_ | refine awp_cond_f rfl ?_ | ((refine awp_cond rfl (fun h => ?_) (fun h => ?_) <;> try simp only [ifs] at h) <;> (try (exfalso; omega))) | refine awp_ret ?_))
                        ((first | (refine nextB (j + 1) ?_ ?_ ?_) | (refine nextA (j + 1) ?_ ?_ ?_) | (refine nextE (j + 1) ?_ ?_ ?_)); rotate_left; (· (try dsimp only); (first | omega | (simp only [List.length_drop, List.length_cons, List.length_append]; omega) | (simp; done) | (simp; omega))); (· (refine emb [0, 1, 2] ?_ ?_ rfl ?_ ?_ ?_ ?_ <;> simp [okM, okO, lk, ren, renL, renNd, by_, hE, renOp] <;> (try omega) <;> (try (intro i hi; first | (rcases (by omega : i = 0 ∨ i = 1 ∨ i = 2) with rfl | rfl | rfl <;> rfl) | (rcases (by omega : i = 0 ∨ i = 1) with rfl | rfl <;> rfl))))))
                        omega
                      · rw [hk2] at hgj
                        (repeat' (first | refine awp_seq ?_ | refine awp_block ?_ | refine awp_skip ?_ | refine awp_exit ?_ | ((first | refine rR (fun K kp hK hkp => ?_) | refine rD (id := 16) mixed 14 [0,1,2,3,4,5,6,7,8,9,10,11,12,13] (fun K kp hK hkp => ?_) | refine iG ?_ | refine iD ?_); simp (implicitDefEqProofs := false) (maxSteps := 2000000) (disch := omega) only [go_sem, zi, zj, hWi, hgk, hgj]; (repeat' (first | (refine hK _ ?_; clear hK hkp kp K) | (with_reducible refine And.intro ?_ ?_) | omega))) | ((first | refine aG (fun h => ?_) (fun h => ?_) | refine aD (fun h => ?_) (fun h => ?_) | refine aX (fun h => ?_) (fun h => ?_)) <;> simp only [h]) | refine awp_cond_t rfl ?_ | refine awp_cond_f rfl ?_ | ((refine awp_cond rfl (fun h => ?_) (fun h => ?_) <;> try simp only [ifs] at h) <;> (try (exfalso; omega))) | refine awp_ret ?_))
                        ((first | (refine nextB (j + 1) ?_ ?_ ?_) | (refine nextA (j + 1) ?_ ?_ ?_) | (refine nextE (j + 1) ?_ ?_ ?_)); rotate_left; (· (try dsimp only); (first | omega | (simp only [List.length_drop, List.length_cons, List.length_append]; omega) | (simp; done) | (simp; omega))); (· (refine emb [0, 1, 2] ?_ ?_ rfl ?_ ?_ ?_ ?_ <;> simp [okM, okO, lk, ren, renL, renNd, by_, hE, hst hk2, renOp] <;> (try omega) <;> (try (intro i hi; first | (rcases (by omega : i = 0 ∨ i = 1 ∨ i = 2) with rfl | rfl | rfl <;> rfl) | (rcases (by omega : i = 0 ∨ i = 1) with rfl | rfl <;> rfl))))))
                        omega
                  · obtain rfl : j = l2.length := by omega
                    (refine AWP.emb (emb_close (T := ?z5T) (k := ?z5k) (els := ?z5e) (T' := ?z5T1) (k' := ?z5k1) (els' := ?z5e1) (op := ?z5op) (e := ?z5ee) (m := ?z5m) (lo := ?z5lo) (len := ?z5len) 1 i 0 ?z5h ?z5ho ?z5hm ?z5hn ?z5hl ?z5he ?z5hj) ?z5g; (case z5h => rfl); (case z5he => exact hWi); (case z5ho => (simp only [lk2, and_self, if_true, ↓reduceIte, rowB_len, rowB_take]; rfl)); (case z5hm => rfl); (case z5hn => simp); (case z5hl => simp [rowB_len, rowB_take]); (case z5hj => simp [rowB_len, rowB_take]); simp only [rm, rm2, and_self, Nat.le_refl, Nat.zero_add, Nat.lt_add_one, Nat.reduceLT, Nat.reduceEqDiff, ↓reduceIte, if_true, List.drop_zero, List.set_cons_zero, List.set_cons_succ, rowB_len, rowB_take])
                    have hrw : wM ts rs (i + 1) i = wM ts rs i i := by funext c; exact wM_row i c
                    have hfin := eW_set1 (ts := ts) (rs := rs) (n := l2.length) (k := i) (i := i) hlt
                    rw [hrw] at hfin
                    (repeat' (first | refine awp_seq ?_ | refine awp_block ?_ | refine awp_skip ?_ | refine awp_exit ?_ | ((first | refine rR (fun K kp hK hkp => ?_) | refine rD (id := 16) mixed 14 [0,1,2,3,4,5,6,7,8,9,10,11,12,13] (fun K kp hK hkp => ?_) | refine iG ?_ | refine iD ?_); simp (implicitDefEqProofs := false) (maxSteps := 2000000) (disch := omega) only [go_sem]; (repeat' (first | (refine hK _ ?_; clear hK hkp kp K) | (with_reducible refine And.intro ?_ ?_) | omega))) | ((first | refine aG (fun h => ?_) (fun h => ?_) | refine aD (fun h => ?_) (fun h => ?_) | refine aX (fun h => ?_) (fun h => ?_)) <;> simp only [h]) | refine awp_cond_t rfl ?_ | refine awp_cond_f rfl ?_ | ((refine awp_cond rfl (fun h => ?_) (fun h => ?_) <;> try simp only [ifs] at h) <;> (try (exfalso; omega))) | refine awp_ret ?_))
                    ((first | (refine nextB (i + 1) ?_ ?_ ?_) | (refine nextA (i + 1) ?_ ?_ ?_) | (refine nextE (i + 1) ?_ ?_ ?_)); rotate_left; (· (try dsimp only); (first | omega | (simp only [List.length_drop, List.length_cons, List.length_append]; omega) | (simp; done) | (simp; omega))); (· (refine emb [0, 1] ?_ ?_ rfl ?_ ?_ ?_ ?_ <;> simp [okM, okO, lk, ren, renL, renNd, by_, hE, hfin, renOp] <;> (try omega) <;> (try (intro i hi; first | (rcases (by omega : i = 0 ∨ i = 1 ∨ i = 2) with rfl | rfl | rfl <;> rfl) | (rcases (by omega : i = 0 ∨ i = 1) with rfl | rfl <;> rfl))))))
                    omega
              · have hki : (k = i) = False := eq_false (Ne.symm hik)
                have hik' : (i = k) = False := eq_false hik
                (repeat' (first | refine awp_seq ?_ | refine awp_block ?_ | refine awp_skip ?_ | refine awp_exit ?_ | ((first | refine rR (fun K kp hK hkp => ?_) | refine rD (id := 16) mixed 14 [0,1,2,3,4,5,6,7,8,9,10,11,12,13] (fun K kp hK hkp => ?_) | refine iG ?_ | refine iD ?_); simp (implicitDefEqProofs := false) (maxSteps := 2000000) (disch := omega) only [go_sem, zi]; (repeat' (first | (refine hK _ ?_; clear hK hkp kp K) | (with_reducible refine And.intro ?_ ?_) | omega))) | ((first | refine aG (fun h => ?_) (fun h => ?_) | refine aD (fun h => ?_) (fun h => ?_) | refine aX (fun h => ?_) (fun h => ?_)) <;> simp only [h]) | refine awp_cond_t rfl ?_ | refine awp_cond_f rfl ?_ | ((refine awp_cond rfl (fun h => ?_) (fun h => ?_) <;> try simp only [ifs] at h) <;> (try (exfalso; omega))) | refine awp_ret ?_))
                (refine AWP.emb (emb_open (T := ?z6T) (k := ?z6k) (els := ?z6e) (T' := ?z6T1) (k' := ?z6k1) (els' := ?z6e1) (op := ?z6op) (e := ?z6ee) 1 i 0 ?z6h ?z6he ?z6hj ?z6ho) ?z6g; (case z6h => rfl); (case z6he => exact hWi); (case z6hj => rfl); (case z6ho => simp [lk2, rowB_len]); simp only [List.length_map, rowB_len])
                (refine AWP.emb (emb_open (T := ?z7T) (k := ?z7k) (els := ?z7e) (T' := ?z7T1) (k' := ?z7k1) (els' := ?z7e1) (op := ?z7op) (e := ?z7ee) 1 k 0 ?z7h ?z7he ?z7hj ?z7ho) ?z7g; (case z7h => rfl); (case z7he => exact hWk); (case z7hj => rfl); (case z7ho => simp [lk2, rowB_len, hik']); simp only [List.length_map, rowB_len, hik'])
                have hgk0 : wRow ts rs k i 0 = wM ts rs k i := by funext c; simp [wRow]
                rw [← hgk0]
                refine awp_loop (fun j : Nat => ⟨[(13, .r (.int .i64 j)), (12, .r (.int .i64 i)), (11, .r (.int .i64 k)), (7, .s 1 0 l2.length), (6, .r (.int .i64 l2.length)), (1, .p 0 0 0)], [(0, .box 41 [.ro t1 3 (l1.map eK), .ro t2 3 (l2.map eK)]), (1, .ul 99 1 (eW ts rs l2.length k i) [(k, 0, .s 3 0 l2.length), (i, 0, .s 2 0 l2.length)]), (2, .ul 4 1 (rowB l2.length (wRow ts rs k i j)) []), (3, .ul 4 1 (rowB l2.length (wM ts rs k k)) [])], 4⟩) (fun j => j ≤ l2.length) (fun j => l2.length - j) 0 ?_ ?_ ?_
                · simp
                · (refine emb [0, 1, 2, 3] ?_ ?_ rfl ?_ ?_ ?_ ?_ <;> simp [okM, okO, lk, ren, renL, renNd, by_, hE, renOp] <;> (try omega) <;> (try (intro i hi; first | (rcases (by omega : i = 0 ∨ i = 1 ∨ i = 2) with rfl | rfl | rfl <;> rfl) | (rcases (by omega : i = 0 ∨ i = 1) with rfl | rfl <;> rfl))))
                · intro j hj
                  by_cases hjl : j < l2.length
                  · have zj : ((j : Int) < (l2.length : Int)) = True := eq_true (by omega)
                    have hw : wRow ts rs k i j k = wM ts rs k i k := by
                      unfold wRow
                      split
                      · exact wM_col k i
                      · rfl
                    have hgk := rowB_get (wRow ts rs k i j) hkl
                    have hgj := rowB_get (wM ts rs k k) hjl
                    have hno : (wM ts rs k i k && wM ts rs k k j) = false → rowB l2.length (wRow ts rs k i j) = rowB l2.length (wRow ts rs k i (j + 1)) := fun h => by
                      refine rowB_congr fun c _ => ?_
                      unfold wRow
                      by_cases hc : c = j
                      · subst hc; rw [if_neg (by omega), if_pos (by omega), wM, h, Bool.or_false]
                      · by_cases hlt : c < j
                        · rw [if_pos hlt, if_pos (by omega)]
                        · rw [if_neg hlt, if_neg (by omega)]
                    have hyes : (wM ts rs k i k && wM ts rs k k j) = true → (rowB l2.length (wRow ts rs k i j)).set j [.r (.bool true)] = rowB l2.length (wRow ts rs k i (j + 1)) := fun h => by
                      rw [rowB_set]
                      refine rowB_congr fun c _ => ?_
                      unfold wRow
                      by_cases hc : c = j
                      · subst hc; rw [if_pos rfl, if_pos (by omega), wM, h, Bool.or_true]
                      · rw [if_neg hc]
                        by_cases hlt : c < j
                        · rw [if_pos hlt, if_pos (by omega)]
                        · rw [if_neg hlt, if_neg (by omega)]
                    cases hk1 : wM ts rs k i k
                    · rw [hw, hk1] at hgk
                      (repeat' (first | refine awp_seq ?_ | refine awp_block ?_ | refine awp_skip ?_ | refine awp_exit ?_ | ((first | refine rR (fun K kp hK hkp => ?_) | refine rD (id := 16) mixed 14 [0,1,2,3,4,5,6,7,8,9,10,11,12,13] (fun K kp hK hkp => ?_) | refine iG ?_ | refine iD ?_); simp (implicitDefEqProofs := false) (maxSteps := 2000000) (disch := omega) only [go_sem, zi, zj, zk, hki, hik', hWi, hWk, hgk]; (repeat' (first | (refine hK _ ?_; clear hK hkp kp K) | (with_reducible refine And.intro ?_ ?_) | omega))) | ((first | refine aG (fun h => ?_) (fun h => ?_) | refine aD (fun h => ?_) (fun h => ?_) | refine aX (fun h => ?_) (fun h => ?_)) <;> simp only [h]) | refine awp_cond_t rfl ?_ | refine awp_cond_f rfl ?_ | ((refine awp_cond rfl (fun h => ?_) (fun h => ?_) <;> try simp only [ifs] at h) <;> (try (exfalso; omega))) | refine awp_ret ?_))
                      rw [hno (by rw [hk1]; rfl)]
                      ((first | (refine nextB (j + 1) ?_ ?_ ?_) | (refine nextA (j + 1) ?_ ?_ ?_) | (refine nextE (j + 1) ?_ ?_ ?_)); rotate_left; (· (try dsimp only); (first | omega | (simp only [List.length_drop, List.length_cons, List.length_append]; omega) | (simp; done) | (simp; omega))); (· (refine emb [0, 1, 2, 3] ?_ ?_ rfl ?_ ?_ ?_ ?_ <;> simp [okM, okO, lk, ren, renL, renNd, by_, hE, renOp] <;> (try omega) <;> (try (intro i hi; first | (rcases (by omega : i = 0 ∨ i = 1 ∨ i = 2) with rfl | rfl | rfl <;> rfl) | (rcases (by omega : i = 0 ∨ i = 1) with rfl | rfl <;> rfl))))))
                      omega
                    · rw [hw, hk1] at hgk
                      cases hk2 : wM ts rs k k j
                      · rw [hk2] at hgj
                        (repeat' (first | refine awp_seq ?_ | refine awp_block ?_ | refine awp_skip ?_ | refine awp_exit ?_ | ((first | refine rR (fun K kp hK hkp => ?_) | refine rD (id := 16) mixed 14 [0,1,2,3,4,5,6,7,8,9,10,11,12,13] (fun K kp hK hkp => ?_) | refine iG ?_ | refine iD ?_); simp (implicitDefEqProofs := false) (maxSteps := 2000000) (disch := omega) only [go_sem, zi, zj, zk, hki, hik', hWi, hWk, hgk, hgj]; (repeat' (first | (refine hK _ ?_; clear hK hkp kp K) | (with_reducible refine And.intro ?_ ?_) | omega))) | ((first | refine aG (fun h => ?_) (fun h => ?_) | refine aD (fun h => ?_) (fun h => ?_) | refine aX (fun h => ?_) (fun h => ?_)) <;> simp only [h]) | refine awp_cond_t rfl ?_ | refine awp_cond_f rfl ?_ | ((refine awp_cond rfl (fun h => ?_) (fun h => ?_) <;> try simp only [ifs] at h) <;> (try (exfalso; omega))) | refine awp_ret ?_))
                        rw [hno (by rw [hk1, hk2]; rfl)]
                        ((first | (refine nextB (j + 1) ?_ ?_ ?_) | (refine nextA (j + 1) ?_ ?_ ?_) | (refine nextE (j + 1) ?_ ?_ ?_)); rotate_left; (· (try dsimp only); (first | omega | (simp only [List.length_drop, List.length_cons, List.length_append]; omega) | (simp; done) | (simp; omega))); (· (refine emb [0, 1, 2, 3] ?_ ?_ rfl ?_ ?_ ?_ ?_ <;> simp [okM, okO, lk, ren, renL, renNd, by_, hE, renOp] <;> (try omega) <;> (try (intro i hi; first | (rcases (by omega : i = 0 ∨ i = 1 ∨ i = 2) with rfl | rfl | rfl <;> rfl) | (rcases (by omega : i = 0 ∨ i = 1) with rfl | rfl <;> rfl))))))
                        omega
                      · rw [hk2] at hgj
                        have hgx := rowB_get (wRow ts rs k i j) hjl
                        (repeat' (first | refine awp_seq ?_ | refine awp_block ?_ | refine awp_skip ?_ | refine awp_exit ?_ | ((first | refine rR (fun K kp hK hkp => ?_) | refine rD (id := 16) mixed 14 [0,1,2,3,4,5,6,7,8,9,10,11,12,13] (fun K kp hK hkp => ?_) | refine iG ?_ | refine iD ?_); simp (implicitDefEqProofs := false) (maxSteps := 2000000) (disch := omega) only [go_sem, zi, zj, zk, hki, hik', hWi, hWk, hgk, hgj, hgx]; (repeat' (first | (refine hK _ ?_; clear hK hkp kp K) | (with_reducible refine And.intro ?_ ?_) | omega))) | ((first | refine aG (fun h => ?_) (fun h => ?_) | refine aD (fun h => ?_) (fun h => ?_) | refine aX (fun h => ?_) (fun h => ?_)) <;> simp only [h]) | refine awp_cond_t rfl ?_ | refine awp_cond_f rfl ?_ | ((refine awp_cond rfl (fun h => ?_) (fun h => ?_) <;> try simp only [ifs] at h) <;> (try (exfalso; omega))) | refine awp_ret ?_))
                        rw [hyes (by rw [hk1, hk2]; rfl)]
                        ((first | (refine nextB (j + 1) ?_ ?_ ?_) | (refine nextA (j + 1) ?_ ?_ ?_) | (refine nextE (j + 1) ?_ ?_ ?_)); rotate_left; (· (try dsimp only); (first | omega | (simp only [List.length_drop, List.length_cons, List.length_append]; omega) | (simp; done) | (simp; omega))); (· (refine emb [0, 1, 2, 3] ?_ ?_ rfl ?_ ?_ ?_ ?_ <;> simp [okM, okO, lk, ren, renL, renNd, by_, hE, renOp] <;> (try omega) <;> (try (intro i hi; first | (rcases (by omega : i = 0 ∨ i = 1 ∨ i = 2) with rfl | rfl | rfl <;> rfl) | (rcases (by omega : i = 0 ∨ i = 1) with rfl | rfl <;> rfl))))))
                        omega
                  · obtain rfl : j = l2.length := by omega
                    have hgke : rowB l2.length (wRow ts rs k i l2.length) = rowB l2.length (wM ts rs (k + 1) i) := rowB_congr fun c hc => by simp [wRow, hc]
                    rw [hgke]
                    have hs2 := eW_set2 (ts := ts) (rs := rs) (n := l2.length) (i := i) hkl
                    have hs1 := eW_set1 (ts := ts) (rs := rs) (n := l2.length) (k := k) hlt
                    (refine AWP.emb (emb_close (T := ?z8T) (k := ?z8k) (els := ?z8e) (T' := ?z8T1) (k' := ?z8k1) (els' := ?z8e1) (op := ?z8op) (e := ?z8ee) (m := ?z8m) (lo := ?z8lo) (len := ?z8len) 1 k 0 ?z8h ?z8ho ?z8hm ?z8hn ?z8hl ?z8he ?z8hj) ?z8g; (case z8h => rfl); (case z8he => exact hWk); (case z8ho => (simp only [lk2, and_self, if_true, ↓reduceIte, rowB_len, rowB_take, hs2, hki, hik', false_and, if_false]; rfl)); (case z8hm => rfl); (case z8hn => simp); (case z8hl => simp [rowB_len, rowB_take, hs2, hki, hik', false_and, if_false]); (case z8hj => simp [rowB_len, rowB_take, hs2, hki, hik', false_and, if_false]); simp only [rm, rm2, and_self, Nat.le_refl, Nat.zero_add, Nat.lt_add_one, Nat.reduceLT, Nat.reduceEqDiff, ↓reduceIte, if_true, List.drop_zero, List.set_cons_zero, List.set_cons_succ, rowB_len, rowB_take, hs2, hki, hik', false_and, if_false])
                    (refine AWP.emb (emb_close (T := ?z9T) (k := ?z9k) (els := ?z9e) (T' := ?z9T1) (k' := ?z9k1) (els' := ?z9e1) (op := ?z9op) (e := ?z9ee) (m := ?z9m) (lo := ?z9lo) (len := ?z9len) 1 i 0 ?z9h ?z9ho ?z9hm ?z9hn ?z9hl ?z9he ?z9hj) ?z9g; (case z9h => rfl); (case z9he => exact hWi); (case z9ho => (simp only [lk2, and_self, if_true, ↓reduceIte, rowB_len, rowB_take, hs1, hki, hik']; rfl)); (case z9hm => rfl); (case z9hn => simp); (case z9hl => simp [rowB_len, rowB_take, hs1, hki, hik']); (case z9hj => simp [rowB_len, rowB_take, hs1, hki, hik']); simp only [rm, rm2, and_self, Nat.le_refl, Nat.zero_add, Nat.lt_add_one, Nat.reduceLT, Nat.reduceEqDiff, ↓reduceIte, if_true, List.drop_zero, List.set_cons_zero, List.set_cons_succ, rowB_len, rowB_take, hs1, hki, hik'])
                    (repeat' (first | refine awp_seq ?_ | refine awp_block ?_ | refine awp_skip ?_ | refine awp_exit ?_ | ((first | refine rR (fun K kp hK hkp => ?_) | refine rD (id := 16) mixed 14 [0,1,2,3,4,5,6,7,8,9,10,11,12,13] (fun K kp hK hkp => ?_) | refine iG ?_ | refine iD ?_); simp (implicitDefEqProofs := false) (maxSteps := 2000000) (disch := omega) only [go_sem]; (repeat' (first | (refine hK _ ?_; clear hK hkp kp K) | (with_reducible refine And.intro ?_ ?_) | omega))) | ((first | refine aG (fun h => ?_) (fun h => ?_) | refine aD (fun h => ?_) (fun h => ?_) | refine aX (fun h => ?_) (fun h => ?_)) <;> simp only [h]) | refine awp_cond_t rfl ?_ | refine awp_cond_f rfl ?_ | ((refine awp_cond rfl (fun h => ?_) (fun h => ?_) <;> try simp only [ifs] at h) <;> (try (exfalso; omega))) | refine awp_ret ?_))
                    ((first | (refine nextB (i + 1) ?_ ?_ ?_) | (refine nextA (i + 1) ?_ ?_ ?_) | (refine nextE (i + 1) ?_ ?_ ?_)); rotate_left; (· (try dsimp only); (first | omega | (simp only [List.length_drop, List.length_cons, List.length_append]; omega) | (simp; done) | (simp; omega))); (· (refine emb [0, 1] ?_ ?_ rfl ?_ ?_ ?_ ?_ <;> simp [okM, okO, lk, ren, renL, renNd, by_, hE, renOp] <;> (try omega) <;> (try (intro i hi; first | (rcases (by omega : i = 0 ∨ i = 1 ∨ i = 2) with rfl | rfl | rfl <;> rfl) | (rcases (by omega : i = 0 ∨ i = 1) with rfl | rfl <;> rfl))))))
                    omega
            · obtain rfl : i = l2.length := by omega
              rw [eW_next]
              (repeat' (first | refine awp_seq ?_ | refine awp_block ?_ | refine awp_skip ?_ | refine awp_exit ?_ | ((first | refine rR (fun K kp hK hkp => ?_) | refine rD (id := 16) mixed 14 [0,1,2,3,4,5,6,7,8,9,10,11,12,13] (fun K kp hK hkp => ?_) | refine iG ?_ | refine iD ?_); simp (implicitDefEqProofs := false) (maxSteps := 2000000) (disch := omega) only [go_sem]; (repeat' (first | (refine hK _ ?_; clear hK hkp kp K) | (with_reducible refine And.intro ?_ ?_) | omega))) | ((first | refine aG (fun h => ?_) (fun h => ?_) | refine aD (fun h => ?_) (fun h => ?_) | refine aX (fun h => ?_) (fun h => ?_)) <;> simp only [h]) | refine awp_cond_t rfl ?_ | refine awp_cond_f rfl ?_ | ((refine awp_cond rfl (fun h => ?_) (fun h => ?_) <;> try simp only [ifs] at h) <;> (try (exfalso; omega))) | refine awp_ret ?_))
              ((first | (refine nextB (k + 1) ?_ ?_ ?_) | (refine nextA (k + 1) ?_ ?_ ?_) | (refine nextE (k + 1) ?_ ?_ ?_)); rotate_left; (· (try dsimp only); (first | omega | (simp only [List.length_drop, List.length_cons, List.length_append]; omega) | (simp; done) | (simp; omega))); (· (refine emb [0, 1] ?_ ?_ rfl ?_ ?_ ?_ ?_ <;> simp [okM, okO, lk, ren, renL, renNd, by_, hE, renOp] <;> (try omega) <;> (try (intro i hi; first | (rcases (by omega : i = 0 ∨ i = 1 ∨ i = 2) with rfl | rfl | rfl <;> rfl) | (rcases (by omega : i = 0 ∨ i = 1) with rfl | rfl <;> rfl))))))
              omega
        · obtain rfl : k = l2.length := by omega
          (refine AWP.emb (emb_toL (T := ?z10T) (k := ?z10k) (els := ?z10e) 1 ?z10h) ?z10g; (case z10h => rfl); simp only [setNd, eW_end])
          (repeat' (first | refine awp_seq ?_ | refine awp_block ?_ | refine awp_skip ?_ | refine awp_exit ?_ | ((first | refine rR (fun K kp hK hkp => ?_) | refine rD (id := 16) mixed 14 [0,1,2,3,4,5,6,7,8,9,10,11,12,13] (fun K kp hK hkp => ?_) | refine iG ?_ | refine iD ?_); simp (implicitDefEqProofs := false) (maxSteps := 2000000) (disch := omega) only [go_sem]; (repeat' (first | (refine hK _ ?_; clear hK hkp kp K) | (with_reducible refine And.intro ?_ ?_) | omega))) | ((first | refine aG (fun h => ?_) (fun h => ?_) | refine aD (fun h => ?_) (fun h => ?_) | refine aX (fun h => ?_) (fun h => ?_)) <;> simp only [h]) | refine awp_cond_t rfl ?_ | refine awp_cond_f rfl ?_ | ((refine awp_cond rfl (fun h => ?_) (fun h => ?_) <;> try simp only [ifs] at h) <;> (try (exfalso; omega))) | refine awp_ret ?_))
          refine awp_loop (fun i : Nat => ⟨[(15, .r (.int .i64 i)), (14, .r (.int .i64 (vicF ts rs i))), (7, .s 1 0 l2.length), (6, .r (.int .i64 l2.length)), (1, .p 0 0 0)], [(0, .box 41 [.ro t1 3 (l1.map eK), .ro t2 3 (l2.map eK)]), (1, .lst 99 1 (eR ts rs l2.length))], 2⟩) (fun i => i ≤ l2.length) (fun i => l2.length - i) 0 ?_ ?_ ?_
          · simp
          · (refine emb [0, 1] ?_ ?_ rfl ?_ ?_ ?_ ?_ <;> simp [okM, okO, lk, ren, renL, renNd, by_, hE, vicF] <;> (try omega) <;> (try (intro i hi; first | (rcases (by omega : i = 0 ∨ i = 1 ∨ i = 2) with rfl | rfl | rfl <;> rfl) | (rcases (by omega : i = 0 ∨ i = 1) with rfl | rfl <;> rfl))))
          · intro i hi
            by_cases hlt : i < l2.length
            · have zi : ((i : Int) < (l2.length : Int)) = True := eq_true (by omega)
              have hR := eR_at (ts := ts) (rs := rs) hlt
              have hg := rowB_get (wM ts rs l2.length i) hlt
              obtain ⟨q, hx⟩ : ∃ x, l2[i]? = some x := ⟨l2[i], by simp [hlt]⟩
              have hq0 : ts.getD i 0 = q.t := by rw [← hts, List.getD_eq_getElem?_getD, ts_get hx]; rfl
              have hvs : vicF ts rs (i + 1) = if wM ts rs l2.length i i = true ∧ q.t > vicF ts rs i then q.t else vicF ts rs i := by
                rw [vicF, hq0, selfB, htn]
              cases hs : wM ts rs l2.length i i
              · rw [hs] at hg hvs
                have hv : vicF ts rs i = vicF ts rs (i + 1) := by simp [hvs]
                (repeat' (first | refine awp_seq ?_ | refine awp_block ?_ | refine awp_skip ?_ | refine awp_exit ?_ | ((first | refine rR (fun K kp hK hkp => ?_) | refine rD (id := 16) mixed 14 [0,1,2,3,4,5,6,7,8,9,10,11,12,13] (fun K kp hK hkp => ?_) | refine iG ?_ | refine iD ?_); simp (implicitDefEqProofs := false) (maxSteps := 2000000) (disch := omega) only [go_sem, zi, hR, hg, hx, eK]; (repeat' (first | (refine hK _ ?_; clear hK hkp kp K) | (with_reducible refine And.intro ?_ ?_) | omega))) | ((first | refine aG (fun h => ?_) (fun h => ?_) | refine aD (fun h => ?_) (fun h => ?_) | refine aX (fun h => ?_) (fun h => ?_)) <;> simp only [h]) | refine awp_cond_t rfl ?_ | refine awp_cond_f rfl ?_ | ((refine awp_cond rfl (fun h => ?_) (fun h => ?_) <;> try simp only [ifs] at h) <;> (try (exfalso; omega))) | refine awp_ret ?_))
                ((first | (refine nextB (i + 1) ?_ ?_ ?_) | (refine nextA (i + 1) ?_ ?_ ?_) | (refine nextE (i + 1) ?_ ?_ ?_)); rotate_left; (· (try dsimp only); (first | omega | (simp only [List.length_drop, List.length_cons, List.length_append]; omega) | (simp; done) | (simp; omega))); (· (refine emb [0, 1] ?_ ?_ rfl ?_ ?_ ?_ ?_ <;> simp [okM, okO, lk, ren, renL, renNd, by_, hE, hv] <;> (try omega) <;> (try (intro i hi; first | (rcases (by omega : i = 0 ∨ i = 1 ∨ i = 2) with rfl | rfl | rfl <;> rfl) | (rcases (by omega : i = 0 ∨ i = 1) with rfl | rfl <;> rfl))))))
                omega
              · rw [hs] at hg hvs
                by_cases hgt : q.t > vicF ts rs i
                · have hv : q.t = vicF ts rs (i + 1) := by simp [hvs, hgt]
                  have hgt' : (vicF ts rs i < q.t) = True := eq_true hgt
                  (repeat' (first | refine awp_seq ?_ | refine awp_block ?_ | refine awp_skip ?_ | refine awp_exit ?_ | ((first | refine rR (fun K kp hK hkp => ?_) | refine rD (id := 16) mixed 14 [0,1,2,3,4,5,6,7,8,9,10,11,12,13] (fun K kp hK hkp => ?_) | refine iG ?_ | refine iD ?_); simp (implicitDefEqProofs := false) (maxSteps := 2000000) (disch := omega) only [go_sem, zi, hR, hg, hx, eK, hgt']; (repeat' (first | (refine hK _ ?_; clear hK hkp kp K) | (with_reducible refine And.intro ?_ ?_) | omega))) | ((first | refine aG (fun h => ?_) (fun h => ?_) | refine aD (fun h => ?_) (fun h => ?_) | refine aX (fun h => ?_) (fun h => ?_)) <;> simp only [h]) | refine awp_cond_t rfl ?_ | refine awp_cond_f rfl ?_ | ((refine awp_cond rfl (fun h => ?_) (fun h => ?_) <;> try simp only [ifs] at h) <;> (try (exfalso; omega))) | refine awp_ret ?_))
                  ((first | (refine nextB (i + 1) ?_ ?_ ?_) | (refine nextA (i + 1) ?_ ?_ ?_) | (refine nextE (i + 1) ?_ ?_ ?_)); rotate_left; (· (try dsimp only); (first | omega | (simp only [List.length_drop, List.length_cons, List.length_append]; omega) | (simp; done) | (simp; omega))); (· (refine emb [0, 1] ?_ ?_ rfl ?_ ?_ ?_ ?_ <;> simp [okM, okO, lk, ren, renL, renNd, by_, hE, hv] <;> (try omega) <;> (try (intro i hi; first | (rcases (by omega : i = 0 ∨ i = 1 ∨ i = 2) with rfl | rfl | rfl <;> rfl) | (rcases (by omega : i = 0 ∨ i = 1) with rfl | rfl <;> rfl))))))
                  omega
                · have hv : vicF ts rs i = vicF ts rs (i + 1) := by simp [hvs, hgt]
                  have hgt' : (vicF ts rs i < q.t) = False := eq_false hgt
                  (repeat' (first | refine awp_seq ?_ | refine awp_block ?_ | refine awp_skip ?_ | refine awp_exit ?_ | ((first | refine rR (fun K kp hK hkp => ?_) | refine rD (id := 16) mixed 14 [0,1,2,3,4,5,6,7,8,9,10,11,12,13] (fun K kp hK hkp => ?_) | refine iG ?_ | refine iD ?_); simp (implicitDefEqProofs := false) (maxSteps := 2000000) (disch := omega) only [go_sem, zi, hR, hg, hx, eK, hgt']; (repeat' (first | (refine hK _ ?_; clear hK hkp kp K) | (with_reducible refine And.intro ?_ ?_) | omega))) | ((first | refine aG (fun h => ?_) (fun h => ?_) | refine aD (fun h => ?_) (fun h => ?_) | refine aX (fun h => ?_) (fun h => ?_)) <;> simp only [h]) | refine awp_cond_t rfl ?_ | refine awp_cond_f rfl ?_ | ((refine awp_cond rfl (fun h => ?_) (fun h => ?_) <;> try simp only [ifs] at h) <;> (try (exfalso; omega))) | refine awp_ret ?_))
                  ((first | (refine nextB (i + 1) ?_ ?_ ?_) | (refine nextA (i + 1) ?_ ?_ ?_) | (refine nextE (i + 1) ?_ ?_ ?_)); rotate_left; (· (try dsimp only); (first | omega | (simp only [List.length_drop, List.length_cons, List.length_append]; omega) | (simp; done) | (simp; omega))); (· (refine emb [0, 1] ?_ ?_ rfl ?_ ?_ ?_ ?_ <;> simp [okM, okO, lk, ren, renL, renNd, by_, hE, hv] <;> (try omega) <;> (try (intro i hi; first | (rcases (by omega : i = 0 ∨ i = 1 ∨ i = 2) with rfl | rfl | rfl <;> rfl) | (rcases (by omega : i = 0 ∨ i = 1) with rfl | rfl <;> rfl))))))
                  omega
            · obtain rfl : i = l2.length := by omega
              (repeat' (first | refine awp_seq ?_ | refine awp_block ?_ | refine awp_skip ?_ | refine awp_exit ?_ | ((first | refine rR (fun K kp hK hkp => ?_) | refine rD (id := 16) mixed 14 [0,1,2,3,4,5,6,7,8,9,10,11,12,13] (fun K kp hK hkp => ?_) | refine iG ?_ | refine iD ?_); simp (implicitDefEqProofs := false) (maxSteps := 2000000) (disch := omega) only [go_sem]; (repeat' (first | (refine hK _ ?_; clear hK hkp kp K) | (with_reducible refine And.intro ?_ ?_) | omega))) | ((first | refine aG (fun h => ?_) (fun h => ?_) | refine aD (fun h => ?_) (fun h => ?_) | refine aX (fun h => ?_) (fun h => ?_)) <;> simp only [h]) | refine awp_cond_t rfl ?_ | refine awp_cond_f rfl ?_ | ((refine awp_cond rfl (fun h => ?_) (fun h => ?_) <;> try simp only [ifs] at h) <;> (try (exfalso; omega))) | refine awp_ret ?_))
              (refine retA_is (by (simp (implicitDefEqProofs := false) (maxSteps := 2000000) (disch := omega) only [go_sem, Go.Proofs.Tryd.results28]); rfl) ?_; refine eN hE ?_; simp [oneA, ren, renL])
end Go.AM
/- The law LockVictims. -/
namespace Go.AM
open Go Go.RowKit
open Go.Proofs.YteebiklebedneaaDoor (LK lockGood chkM)
attribute [local irreducible] AWP retA
theorem Victim_bad {G : List (Nat × List Value)} (T : TabsL G) (t1 t2 : Bool) (l1 l2 : List LK) (o1 : okKs l1) (o2 : okKs l2) (hg : ¬ lockGood l1 l2) :
    Con Go.Proofs.Tryd.prog G 27 [.agg [.ro t1 3 (l1.map eK), .ro t2 3 (l2.map eK)]] [] 0 (Is (.tup [.r (.int .i64 0), .r (.int .i64 11)]) [] 0) No := by
  have cc := Waits_bad T t1 t2 l1 l2 o1 o2 hg
  refine con_of_awp Go.Proofs.Tryd.func27 rfl (by kernel_rfl) (of_decide_eq_true (by kernel_rfl)) ?_; intro E hG hE; subst hG; simp only [ent]
  (repeat' (first | refine awp_seq ?_ | refine awp_block ?_ | refine awp_skip ?_ | refine awp_exit ?_ | ((first | refine rR (fun K kp hK hkp => ?_) | refine cR cc ?_ | refine iG ?_); simp (implicitDefEqProofs := false) (maxSteps := 2000000) (disch := omega) only [go_sem, eK]; (repeat' (first | (refine hK _ ?_; clear hK hkp kp K) | (with_reducible refine And.intro ?_ ?_) | omega))) | ((first | refine aG (fun h => ?_) (fun h => ?_) | refine aD (fun h => ?_) (fun h => ?_) | refine aX (fun h => ?_) (fun h => ?_)) <;> simp only [h]) | refine awp_cond_t rfl ?_ | refine awp_cond_f rfl ?_ | ((refine awp_cond rfl (fun h => ?_) (fun h => ?_) <;> try simp only [ifs] at h) <;> (try (exfalso; omega))) | refine awp_ret ?_))
  (refine retA_is (by (simp (implicitDefEqProofs := false) (maxSteps := 2000000) (disch := omega) only [go_sem, Go.Proofs.Tryd.results27]); rfl) ?_; refine eN hE ?_; simp [oneA, ren, renL])
theorem VictimOf_bad (G : List (Nat × List Value)) (t1 t2 : Bool) (l1 l2 : List LK) (o1 : okKs l1) (o2 : okKs l2) (hg : ¬ lockGood l1 l2) :
    Con Go.Proofs.Tryd.prog G 28 [.agg [.ro t1 3 (l1.map eK), .ro t2 3 (l2.map eK)]] [] 0 (Is (.tup [.r (.int .i64 0), .r (.int .i64 11)]) [] 0) No := by
  have cc := WaitsOf_bad G t1 t2 l1 l2 o1 o2 hg
  refine con_of_awp Go.Proofs.Tryd.func28 rfl (by kernel_rfl) (of_decide_eq_true (by kernel_rfl)) ?_; intro E hG hE; subst hG; simp only [ent]
  (repeat' (first | refine awp_seq ?_ | refine awp_block ?_ | refine awp_skip ?_ | refine awp_exit ?_ | ((first | refine rR (fun K kp hK hkp => ?_) | refine rD (id := 16) mixed 14 [0,1,2,3,4,5,6,7,8,9,10,11,12,13] (fun K kp hK hkp => ?_) | refine cR cc ?_ | refine cD cc ?_ | refine iG ?_ | refine iD ?_); simp (implicitDefEqProofs := false) (maxSteps := 2000000) (disch := omega) only [go_sem, eK]; (repeat' (first | (refine hK _ ?_; clear hK hkp kp K) | (with_reducible refine And.intro ?_ ?_) | omega))) | ((first | refine aG (fun h => ?_) (fun h => ?_) | refine aD (fun h => ?_) (fun h => ?_) | refine aX (fun h => ?_) (fun h => ?_)) <;> simp only [h]) | refine awp_cond_t rfl ?_ | refine awp_cond_f rfl ?_ | ((refine awp_cond rfl (fun h => ?_) (fun h => ?_) <;> try simp only [ifs] at h) <;> (try (exfalso; omega))) | refine awp_ret ?_))
  (refine retA_is (by (simp (implicitDefEqProofs := false) (maxSteps := 2000000) (disch := omega) only [go_sem, Go.Proofs.Tryd.results28]); rfl) ?_; refine eN hE ?_; simp [oneA, ren, renL])
set_option maxRecDepth 100000 in
set_option maxHeartbeats 4000000 in
theorem lawVictims_con {G : List (Nat × List Value)} (T : TabsL G) (l1 l2 : List LK) (o1 : okKs l1) (o2 : okKs l2) :
    Con Go.Proofs.Tryd.prog G 8 [.agg [.ro true 3 (l1.map eK), .ro true 3 (l2.map eK)]] [] 0 (Is (.r (.bool true)) [] 0) No := by
  have yc := locksCopy_con G true true l1 l2 o1.1 o2.1
  have q1 := o1.1
  have q2 := o2.1
  by_cases hg : lockGood l1 l2
  · have pc := Victim_good T true true l1 l2 o1 o2 hg
    have rc := VictimOf_good G true true l1 l2 o1 o2 hg
    refine con_of_awp Go.Proofs.Tryd.func8 rfl (by kernel_rfl) (of_decide_eq_true (by kernel_rfl)) ?_; intro E hG hE; subst hG; simp only [ent]
    (repeat' (first | refine awp_seq ?_ | refine awp_block ?_ | refine awp_skip ?_ | refine awp_exit ?_ | ((first | refine rR (fun K kp hK hkp => ?_) | refine cR yc ?_ | refine cR pc ?_ | refine cR rc ?_ | refine iG ?_); simp (implicitDefEqProofs := false) (maxSteps := 2000000) (disch := omega) only [go_sem, beq_self_eq_true]; (repeat' (first | (refine hK _ ?_; clear hK hkp kp K) | (with_reducible refine And.intro ?_ ?_) | omega))) | ((first | refine aG (fun h => ?_) (fun h => ?_) | refine aD (fun h => ?_) (fun h => ?_) | refine aX (fun h => ?_) (fun h => ?_)) <;> simp only [h]) | refine awp_cond_t rfl ?_ | refine awp_cond_f rfl ?_ | ((refine awp_cond rfl (fun h => ?_) (fun h => ?_) <;> try simp only [ifs] at h) <;> (try (exfalso; omega))) | refine awp_ret ?_))
    (refine retA_is (by (simp (implicitDefEqProofs := false) (maxSteps := 2000000) (disch := omega) only [go_sem, Go.Proofs.Tryd.results8]); rfl) ?_; refine eN hE ?_; simp [oneA, ren, renL])
  · have pc := Victim_bad T true true l1 l2 o1 o2 hg
    have rc := VictimOf_bad G true true l1 l2 o1 o2 hg
    refine con_of_awp Go.Proofs.Tryd.func8 rfl (by kernel_rfl) (of_decide_eq_true (by kernel_rfl)) ?_; intro E hG hE; subst hG; simp only [ent]
    (repeat' (first | refine awp_seq ?_ | refine awp_block ?_ | refine awp_skip ?_ | refine awp_exit ?_ | ((first | refine rR (fun K kp hK hkp => ?_) | refine cR yc ?_ | refine cR pc ?_ | refine cR rc ?_ | refine iG ?_); simp (implicitDefEqProofs := false) (maxSteps := 2000000) (disch := omega) only [go_sem, beq_self_eq_true]; (repeat' (first | (refine hK _ ?_; clear hK hkp kp K) | (with_reducible refine And.intro ?_ ?_) | omega))) | ((first | refine aG (fun h => ?_) (fun h => ?_) | refine aD (fun h => ?_) (fun h => ?_) | refine aX (fun h => ?_) (fun h => ?_)) <;> simp only [h]) | refine awp_cond_t rfl ?_ | refine awp_cond_f rfl ?_ | ((refine awp_cond rfl (fun h => ?_) (fun h => ?_) <;> try simp only [ifs] at h) <;> (try (exfalso; omega))) | refine awp_ret ?_))
    (refine retA_is (by (simp (implicitDefEqProofs := false) (maxSteps := 2000000) (disch := omega) only [go_sem, Go.Proofs.Tryd.results8]); rfl) ?_; refine eN hE ?_; simp [oneA, ren, renL])
end Go.AM
/- How arguments and the listed tables read: the lock seat. -/
namespace Go.Proofs.YteebiklebedneaaDoor
open Go.ChangeShapes Go.WideShapes Go.ChangeAt Go.RowKit
theorem own : ownKnob Tryd.prog.godebug = none := by kernel_rfl
theorem laidOut : laidOutB Tryd.prog = true := by kernel_rfl
set_option maxRecDepth 100000 in
theorem open_i64 {H : Type} {enc : TypeId × Value → H} {w : World} {base : Nat} {spare : Nat → Bool} {held : Bool} {b0 : Nat} {v : Value} {d : DataW H} {p : List MemPlace}
    (hv : Value.okWide Tryd.prog w .any b0 3 v) (h : DataW.Trod enc Tryd.prog w base spare held 3 v d p) : ∃ n : Int, v = .int .i64 n ∧ (Lit.int .i64 n).wf = true := by
  obtain ⟨n, rfl, _, _, w0⟩ := open_int Tryd.underlying3 hv h
  exact ⟨n, rfl, w0⟩
/-- A plain datum as a value. -/
def valOf {H : Type} : DataW H → Value
  | .lit (.bool b) => .bool b
  | .lit (.int k n) => .int k n
  | _ => undef
/-- A table of rows, flat in its cells. -/
theorem arr2 {P : Program} {w : World} {t e f : TypeId} {n m fuel : Nat} {cs : List Value} {x : DataW Unit × List MemPlace} {base : Nat} {spare : Nat → Bool} {held : Bool}
    (ht : P.underlying t = some (.array n e)) (he : P.underlying e = some (.array m f)) (hce : P.cellsOf e = m) (hcf : P.cellsOf f = 1)
    (leaf : ∀ fuel cs x, DataW.trod (fun _ => ()) P w base spare held fuel f cs = some x → cs = [valOf x.1])
    (h : DataW.trod (fun _ => ()) P w base spare held fuel t cs = some x) :
    ∃ rows : List (DataW Unit), x.1 = .agg rows ∧ ∀ i j, i < n → j < m → ∃ row d, rows[i]? = some (.agg row) ∧ row[j]? = some d ∧ cs[i * m + j]? = some (valOf d) := by
  obtain ⟨xs, m', rfl, rfl, hl, hn, hi⟩ := DataW.trod_array ht h
  refine ⟨_, rfl, fun i j hin hjm => ?_⟩
  have h1 := hi i hin
  obtain ⟨y, hy⟩ : ∃ y, xs[i]? = some y := ⟨xs[i], by simp [hn, hin]⟩
  rw [hy] at h1
  obtain ⟨ys, m2, rfl, rfl, hl2, hm, hj⟩ := DataW.trod_array he h1
  have h2 := hj j hjm
  obtain ⟨z, hz⟩ : ∃ z, ys[j]? = some z := ⟨ys[j], by simp [hm, hjm]⟩
  rw [hz] at h2
  have h3 := leaf _ _ _ h2
  refine ⟨ys.map (·.1), z.1, by simp [hy], by simp [hz], ?_⟩
  rw [hcf, hce] at h3
  have h4 := congrArg (fun l => l[0]?) h3
  simp at h4
  simpa [List.getElem?_take, List.getElem?_drop, hjm] using h4
theorem leaf_bool {P : Program} {w : World} {f : TypeId} (hf : P.underlying f = some .bool) {base : Nat} {spare : Nat → Bool} {held : Bool} :
    ∀ fuel cs (x : DataW Unit × List MemPlace), DataW.trod (fun _ => ()) P w base spare held fuel f cs = some x → cs = [valOf x.1] := by
  intro fuel cs x h
  obtain ⟨b, rfl, rfl⟩ := DataW.trod_bool hf h
  rfl
theorem leaf_int {P : Program} {w : World} {f : TypeId} {k : IntKind} (hf : P.underlying f = some (.int k)) {base : Nat} {spare : Nat → Bool} {held : Bool} :
    ∀ fuel cs (x : DataW Unit × List MemPlace), DataW.trod (fun _ => ()) P w base spare held fuel f cs = some x → cs = [valOf x.1] := by
  intro fuel cs x h
  obtain ⟨b, rfl, rfl, _⟩ := DataW.trod_int hf h
  rfl
theorem six {i : Nat} (h : i < 6) : i = 0 ∨ i = 1 ∨ i = 2 ∨ i = 3 ∨ i = 4 ∨ i = 5 := by omega
theorem gFits : Tryd.prog.globalNamed "padlock/lock.fits" = some 2 := by kernel_rfl
theorem gJoins : Tryd.prog.globalNamed "padlock/lock.joins" = some 1 := by kernel_rfl
theorem gFitsT : (Tryd.prog.globals[2]?).map (·.type) = some 117 := by kernel_rfl
theorem gJoinsT : (Tryd.prog.globals[1]?).map (·.type) = some 112 := by kernel_rfl
theorem fits_head {W : World} {rest : List (String × DataW Unit)} {ps : List MemPlace} (h : DataW.LaidVars Tryd.prog W (("padlock/lock.fits", Rows.laid_padlock_lock_fits) :: rest) ps) : TabFits W ∧ ∃ q, DataW.LaidVars Tryd.prog W rest q := by
  obtain ⟨g, t, cs, fuel, p, q, hg, ht, hvar, hd, hr, _⟩ := h
  obtain rfl := Option.some.inj (gFits.symm.trans hg)
  obtain rfl := Option.some.inj (gFitsT.symm.trans ht)
  refine ⟨fun i j hi hj => ?_, q, hr⟩
  obtain ⟨rows, e, H⟩ := arr2 Tryd.underlying117 Tryd.underlying116 (by kernel_rfl) (by kernel_rfl) (leaf_bool Tryd.underlying4) hd
  obtain ⟨row, d, h1, h2, h3⟩ := H i j hi hj
  rw [World.var?_cell gFits hvar]
  rw [Array.getElem?_toList] at h3
  rw [h3]
  simp only [Rows.laid_padlock_lock_fits, DataW.agg.injEq] at e
  subst e
  rcases six hi with rfl | rfl | rfl | rfl | rfl | rfl <;> simp at h1 <;> subst h1 <;> rcases six hj with rfl | rfl | rfl | rfl | rfl | rfl <;> simp at h2 <;> subst h2 <;> rfl
theorem joins_head {W : World} {rest : List (String × DataW Unit)} {ps : List MemPlace} (h : DataW.LaidVars Tryd.prog W (("padlock/lock.joins", Rows.laid_padlock_lock_joins) :: rest) ps) : TabJoins W ∧ ∃ q, DataW.LaidVars Tryd.prog W rest q := by
  obtain ⟨g, t, cs, fuel, p, q, hg, ht, hvar, hd, hr, _⟩ := h
  obtain rfl := Option.some.inj (gJoins.symm.trans hg)
  obtain rfl := Option.some.inj (gJoinsT.symm.trans ht)
  refine ⟨fun i j hi hj => ?_, q, hr⟩
  obtain ⟨rows, e, H⟩ := arr2 Tryd.underlying112 Tryd.underlying111 (by kernel_rfl) (by kernel_rfl) (leaf_int Tryd.underlying3) hd
  obtain ⟨row, d, h1, h2, h3⟩ := H i j hi hj
  rw [World.var?_cell gJoins hvar]
  rw [Array.getElem?_toList] at h3
  rw [h3]
  simp only [Rows.laid_padlock_lock_joins, DataW.agg.injEq] at e
  subst e
  rcases six hi with rfl | rfl | rfl | rfl | rfl | rfl <;> simp at h1 <;> subst h1 <;> rcases six hj with rfl | rfl | rfl | rfl | rfl | rfl <;> simp at h2 <;> subst h2 <;> rfl
theorem tabs_fits {W : World} (h : laidMetH Tryd.prog [("padlock/lock.fits", Rows.laid_padlock_lock_fits)] W) : TabFits W := by
  obtain ⟨ps, h, _⟩ := h
  exact (fits_head h).1
theorem tabs_joins {W : World} (h : laidMetH Tryd.prog [("padlock/lock.joins", Rows.laid_padlock_lock_joins)] W) : TabJoins W := by
  obtain ⟨ps, h, _⟩ := h
  exact (joins_head h).1
theorem tabs_both {W : World} (h : laidMetH Tryd.prog [("padlock/lock.fits", Rows.laid_padlock_lock_fits), ("padlock/lock.joins", Rows.laid_padlock_lock_joins)] W) : TabFits W ∧ TabJoins W := by
  obtain ⟨ps, h, _⟩ := h
  obtain ⟨h1, q, h2⟩ := fits_head h
  exact ⟨h1, (joins_head h2).1⟩
end Go.Proofs.YteebiklebedneaaDoor
/- How arguments that came in read: lemmas out of the kit's readings, in the walks' own terms. -/
namespace Go.Proofs.YteebiklebedneaaDoor
open Go.ChangeShapes Go.WideShapes Go.ChangeAt Go.RowKit
theorem cellsValue : Tryd.prog.cellsOf 57 = 3 := by kernel_rfl
set_option maxRecDepth 100000 in
/-- A struct api.Value that came in: its three fields. -/
theorem open_value {H : Type} {enc : TypeId × Value → H} {w : World} {base : Nat} {spare : Nat → Bool} {held : Bool} {b0 : Nat} {v : Value} {d : DataW H} {p : List MemPlace}
    (hv : Value.okWide Tryd.prog w .any b0 57 v) (h : DataW.Trod enc Tryd.prog w base spare held 57 v d p) :
    ∃ (k n : Int) (s : ByteArray), v = .agg #[.int .i64 k, .int .i64 n, .string s] ∧ (Lit.int .i64 k).wf = true ∧ (Lit.int .i64 n).wf = true ∧ s.size ≤ maxLen := by
  obtain ⟨c0, c1, c2, y0, y1, y2, m, rfl, _, _, h0, h1, h2⟩ := Joins.open_agg3 Tryd.underlying57 (by kernel_rfl) cellsValue hv h
  obtain ⟨k, e0, _, w0⟩ := DataW.trod_int Tryd.underlying3 h0
  obtain ⟨n, e1, _, w1⟩ := DataW.trod_int Tryd.underlying3 h1
  obtain ⟨s, e2, _, w2⟩ := DataW.trod_string Tryd.underlying9 h2
  simp at e0 e1 e2
  subst e0 e1 e2
  exact ⟨k, n, s, rfl, w0, w1, w2⟩
theorem i64_bd {n : Int} (h : (Lit.int .i64 n).wf = true) : -9223372036854775808 ≤ n ∧ n ≤ 9223372036854775807 := by
  simp [Lit.wf, IntKind.min, IntKind.max, IntKind.signed, IntKind.bits] at h
  omega
end Go.Proofs.YteebiklebedneaaDoor
/- How bytes that came in read; bulk. -/
namespace Go.Proofs.YteebiklebedneaaDoor
open Go.ChangeShapes Go.WideShapes Go.ChangeAt Go.RowKit Go.AM
theorem bulk_one {H : Type} (d : DataW H) : 1 ≤ Rows.uptoBulk d := by
  cases d with
  | lit l => cases l <;> simp [Rows.uptoBulk]
  | nil => simp [Rows.uptoBulk]
  | ptr d => simp [Rows.uptoBulk]
  | slice elems spare => simp [Rows.uptoBulk]
  | agg parts => simp [Rows.uptoBulk]
  | iface t d => simp [Rows.uptoBulk]
  | map entries => simp [Rows.uptoBulk]
  | held h => simp [Rows.uptoBulk]
theorem bulk_length {H : Type} : ∀ l : List (DataW H), l.length ≤ Rows.uptoBulkAll l
  | [] => by simp [Rows.uptoBulkAll]
  | x :: r => by have := bulk_one x; have := bulk_length r; simp only [Rows.uptoBulkAll, List.length_cons]; omega
theorem bulk_slice {H : Type} (ds rest : List (DataW H)) : ds.length + 1 ≤ Rows.uptoBulk (.slice ds rest) := by
  have := bulk_length ds
  simp only [Rows.uptoBulk]; omega
theorem bulk_bound {H : Type} {l : List (DataW H)} (hk : Rows.uptoSmall H l = true) : Rows.uptoBulkAll l ≤ 1048576 := of_decide_eq_true hk
theorem bulk_of {H α : Type} {l : List α} {R : α → DataW H → Prop} {d : DataW H} (h : (l = [] ∧ d = .nil) ∨ ∃ ds rest, d = .slice ds rest ∧ ds.length = l.length ∧ ∀ (i : Nat) y, l[i]? = some y → ∃ d, ds[i]? = some d ∧ R y d) : l.length ≤ Rows.uptoBulk d := by
  rcases h with ⟨rfl, _⟩ | ⟨ds, rest, rfl, h, _⟩
  · exact Nat.zero_le _
  · have := bulk_slice ds rest; omega
end Go.Proofs.YteebiklebedneaaDoor
/- How lock states that came in read; what the listed variables hold. -/
namespace Go.Proofs.YteebiklebedneaaDoor
open Go.ChangeShapes Go.WideShapes Go.ChangeAt Go.RowKit Go.AM
theorem cellsLockA : Tryd.prog.cellsOf 82 = 3 := by kernel_rfl
theorem cellsLocksA : Tryd.prog.cellsOf 41 = 2 := by kernel_rfl
set_option maxRecDepth 100000 in
theorem leaf_lockA {H : Type} {E : TypeId × Value → H} {w : World} {base : Nat} {spare : Nat → Bool} {held : Bool} (fuel : Nat) (cs : List Value) (x : DataW H × List MemPlace)
    (h : DataW.trod E Tryd.prog w base spare held fuel 82 cs = some x) : ∃ y : LK, Reps w (zAll w) [] (eK y) cs ∧ (∀ v ∈ cs, v.oneCell' = true) ∧ y.s.size ≤ maxLen := by
  obtain ⟨y0, y1, y2, n, _, hl, h0, h1, h2⟩ := Deep.trod_struct3 Tryd.underlying82 h
  rw [cellsLockA] at hl
  obtain ⟨c0, c1, c2, rfl⟩ : ∃ a b c, cs = [a, b, c] := by
    match cs, hl with
    | [a, b, c], _ => exact ⟨a, b, c, rfl⟩
  obtain ⟨t, e0, _, _⟩ := DataW.trod_int Tryd.underlying3 h0
  obtain ⟨s, e1, _, w1⟩ := DataW.trod_string Tryd.underlying9 h1
  obtain ⟨m, e2, _, _⟩ := DataW.trod_int Tryd.underlying3 h2
  rw [show Tryd.prog.cellsOf 3 = 1 by kernel_rfl] at e0 e2
  rw [show Tryd.prog.cellsOf 9 = 1 by kernel_rfl] at e1
  simp at e0 e1 e2
  subst e0 e1 e2
  exact ⟨⟨t, s, m⟩, .cons (.r _ _) (.cons (.r _ _) (.cons (.r _ _) .nil)), by simp [Value.oneCell'], w1⟩
theorem open_lksA {H : Type} {E : TypeId × Value → H} {w : World} {base : Nat} {spare : Nat → Bool} {held : Bool} {fuel : Nat} {cs : List Value} {x : DataW H × List MemPlace}
    (h : DataW.trod E Tryd.prog w base spare held fuel 39 cs = some x) :
    ∃ (v : Value) (l : List LK), cs = [v] ∧ Rep w (zAll w) [] (.ro true 3 (l.map eK)) v ∧ l.length ≤ Rows.uptoBulk x.1 ∧ ∀ c ∈ l, c.s.size ≤ maxLen := by
  obtain ⟨u, l, h1, h2, _, h3⟩ := open_ro eK (fun y _ => y.s.size ≤ maxLen) true Tryd.underlying39 cellsLockA (by omega) leaf_lockA h
  refine ⟨u, l, h1, h2, bulk_of h3, fun c hc => ?_⟩
  obtain ⟨i, hi⟩ := List.mem_iff_getElem?.1 hc
  rcases h3 with ⟨rfl, _⟩ | ⟨ds, rest, _, _, h6⟩
  · simp at hi
  · exact (h6 i c hi).choose_spec.2
set_option maxRecDepth 100000 in
/-- Lock states that came in. -/
theorem open_locksA {H : Type} {enc : TypeId × Value → H} {w : World} {base : Nat} {spare : Nat → Bool} {held : Bool} {b0 : Nat} {v : Value} {d : DataW H} {p : List MemPlace}
    (hv : Value.okWide Tryd.prog w .any b0 41 v) (h : DataW.Trod enc Tryd.prog w base spare held 41 v d p) :
    ∃ l1 l2 : List LK, Rep w (zAll w) [] (.agg [.ro true 3 (l1.map eK), .ro true 3 (l2.map eK)]) v ∧ (∀ y ∈ l1, y.s.size ≤ maxLen) ∧ (∀ y ∈ l2, y.s.size ≤ maxLen) ∧ l1.length + l2.length ≤ Rows.uptoBulk d := by
  obtain ⟨c0, c1, y0, y1, m, rfl, rfl, _, h0, h1⟩ := Joins.open_agg2 Tryd.underlying41 (by kernel_rfl) cellsLocksA hv h
  obtain ⟨v1, l1, e1, g1, b1, s1⟩ := open_lksA h0
  obtain ⟨v2, l2, e2, g2, b2, s2⟩ := open_lksA h1
  simp at e1 e2
  subst e1 e2
  have hr : Reps w (zAll w) [] [.ro true 3 (l1.map eK), .ro true 3 (l2.map eK)] [c0, c1] := .cons g1 (.cons g2 .nil)
  refine ⟨l1, l2, .agg _ _ _ hr.1 hr.2, s1, s2, ?_⟩
  simp only [Rows.uptoBulk, Rows.uptoBulkAll]
  omega
def GL : List (Nat × List Value) := [(2, fitsV), (1, joinsV)]
theorem tabsGL : TabsL GL := ⟨rfl, rfl⟩
theorem globsL {W : World} (h : laidMetH Tryd.prog [("padlock/lock.fits", Rows.laid_padlock_lock_fits), ("padlock/lock.joins", Rows.laid_padlock_lock_joins)] W) : Globs GL W := by
  obtain ⟨h1, h2⟩ := tabs_both h
  intro g cs hg
  simp only [GL, List.mem_cons, Prod.mk.injEq, List.not_mem_nil, or_false] at hg
  rcases hg with ⟨rfl, rfl⟩ | ⟨rfl, rfl⟩
  · refine ⟨World.block_lt_of_cell? _ _ (h1 0 0 (by omega) (by omega)), fun j u hu => ?_⟩
    have hj : j < 36 := (List.getElem?_eq_some_iff.1 hu).1
    have h3 := h1 (j / 6) (j % 6) (by omega) (by omega)
    have h4 := fitsV_at (i := j / 6) (j := j % 6) (by omega) (by omega)
    rw [show j / 6 * 6 + j % 6 = j by omega] at h3 h4
    rw [h4] at hu
    rw [h3, hu]
  · refine ⟨World.block_lt_of_cell? _ _ (h2 0 0 (by omega) (by omega)), fun j u hu => ?_⟩
    have hj : j < 36 := (List.getElem?_eq_some_iff.1 hu).1
    have h3 := h2 (j / 6) (j % 6) (by omega) (by omega)
    have h4 := joinsV_at (i := j / 6) (j := j % 6) (by omega) (by omega)
    rw [show j / 6 * 6 + j % 6 = j by omega] at h3 h4
    rw [h4] at hu
    rw [h3, hu]
end Go.Proofs.YteebiklebedneaaDoor
