/- The plain law of a lock state: what the program asks of it and what the reference asks are one. -/
import Derived.Test.YtkehmidldcggcaaDoorLj
set_option linter.unusedSimpArgs false
set_option linter.unusedVariables false
namespace Go.Proofs.YtkehmidldcggcaaDoor
theorem find_mode_at (t : Int) (s : ByteArray) : ∀ (l : List LK) (k0 : Nat),
    (idxF (isK t s) l k0 = -1 ∧ modeM t s l = 0 ∧ l.any (isK t s) = false) ∨ ∃ (j : Nat) (x : LK), idxF (isK t s) l k0 = ((k0 + j : Nat) : Int) ∧ l[j]? = some x ∧ isK t s x = true ∧ modeM t s l = x.m
  | [], k0 => .inl ⟨rfl, rfl, rfl⟩
  | y :: r, k0 => by
    by_cases e : isK t s y = true
    · exact .inr ⟨0, y, by rw [idxF, if_pos e]; rfl, rfl, e, by rw [modeM, if_pos e]⟩
    · have := find_mode_at t s r (k0 + 1)
      rcases this with ⟨h1, h2, h3⟩ | ⟨j, x, h1, h2, h3, h4⟩
      · refine .inl ⟨?_, ?_, ?_⟩
        · rw [idxF, if_neg e]; exact_mod_cast h1
        · rw [modeM, if_neg e, h2]
        · simp [h3]; simpa using e
      · refine .inr ⟨j + 1, x, ?_, by simpa using h2, h3, by rw [modeM, if_neg e, h4]⟩
        rw [idxF, if_neg e]
        have : ((k0 : Int) + 1) = ((k0 + 1 : Nat) : Int) := by omega
        rw [this, h1]
        omega
theorem find_mode (t : Int) (s : ByteArray) (l : List LK) :
    (findM t s l = -1 ∧ modeM t s l = 0 ∧ l.any (isK t s) = false) ∨ ∃ (j : Nat) (x : LK), findM t s l = (j : Int) ∧ l[j]? = some x ∧ isK t s x = true ∧ modeM t s l = x.m := by
  have := find_mode_at t s l 0
  simpa [findM] using this
theorem shape_mode {x : LK} (h : shapeM x = 0) : modeB x.m = true ∧ 1 ≤ x.t ∧ x.t ≤ 1048576 ∧ x.s.size ≤ 120 := by
  unfold shapeM at h
  split at h
  · omega
  · split at h
    · omega
    · split at h
      · rename_i h1 h2 h3
        exact ⟨h3, by omega, by omega, by omega⟩
      · omega
theorem modeB_iff {m : Int} : modeB m = true ↔ 1 ≤ m ∧ m ≤ 5 := by simp [modeB]
theorem agR_eq {x h : LK} (hx : modeB x.m = true) (hh : modeB h.m = true) : agR x h = agK x h := by
  rw [modeB_iff] at hx hh
  unfold agR agK
  rw [fitting_eq _ _ hh.1 hh.2 hx.1 hx.2]
theorem any_eq {p q : LK → Bool} : ∀ {l : List LK}, (∀ y ∈ l, p y = q y) → l.any p = l.any q
  | [], _ => rfl
  | y :: r, h => by
    rw [List.any_cons, List.any_cons, h y (by simp), any_eq fun z hz => h z (by simp [hz])]
theorem filterMap_nil {p : LK → Bool} {l : List LK} : (l.filter p).map (·.t) = [] ↔ l.any p = false := by
  rw [List.map_eq_nil_iff, List.filter_eq_nil_iff, List.any_eq_false]
theorem agM_nil {x : LK} {l : List LK} (hx : modeB x.m = true) (hl : ∀ y ∈ l, modeB y.m = true) : agM x l = [] ↔ l.any (agK x) = false := by
  unfold agM
  rw [filterMap_nil, any_eq fun y hy => agR_eq hx (hl y hy)]
theorem ahM_nil {q : LK} {l : List LK} : ahM q l = [] ↔ l.any (sameT q) = false := filterMap_nil
def sameX (q h : LK) : Bool := h.t == q.t
/-- Could it be had now? -/
def firstM (l1 l2 : List LK) (i : Nat) (q : LK) : Bool := !l1.any (agK q) && (decide (0 ≤ findM q.t q.s l1) || !(l2.take i).any (sameT q))
theorem modeM_mem {t : Int} {s : ByteArray} {l : List LK} (hl : ∀ y ∈ l, modeB y.m = true) : (findM t s l = -1 ∧ modeM t s l = 0) ∨ (0 ≤ findM t s l ∧ 1 ≤ modeM t s l ∧ modeM t s l ≤ 5) := by
  rcases find_mode t s l with ⟨h1, h2, _⟩ | ⟨j, x, h1, h2, h3, h4⟩
  · exact .inl ⟨h1, h2⟩
  · have := modeB_iff.1 (hl x (List.mem_of_getElem? h2))
    exact .inr ⟨by omega, by omega, by omega⟩
theorem wfM_nil {l1 l2 : List LK} {i : Nat} {q : LK} (hq : modeB q.m = true) (hl : ∀ y ∈ l1, modeB y.m = true) : wfM l1 l2 i q = [] ↔ firstM l1 l2 i q = true := by
  unfold wfM firstM
  rw [List.append_eq_nil_iff, agM_nil hq hl]
  rcases modeM_mem (t := q.t) (s := q.s) hl with ⟨h1, h2⟩ | ⟨h1, h2, h3⟩
  · rw [if_pos h2, ahM_nil, h1]
    simp
  · rw [if_neg (by omega)]
    simp [h1]
def queueGood (l1 l2 : List LK) (k : Nat) (q : LK) : Prop :=
  shapeM q = 0 ∧ (l2.take k).any (sameX q) = false ∧ (findM q.t q.s l1 < 0 ∨ (joinB (modeM q.t q.s l1) q.m = q.m ∧ modeM q.t q.s l1 ≠ q.m)) ∧ firstM l1 l2 k q = false
def heldGood (l1 : List LK) (k : Nat) (x : LK) : Prop := findM x.t x.s (l1.take k) < 0 ∧ l1.any (agK x) = false
/-- A state that may be, as the program asks. -/
def lockGood (l1 l2 : List LK) : Prop := l1.length + l2.length ≤ 200 ∧ (∀ x ∈ l1, shapeM x = 0) ∧ (∀ k x, l1[k]? = some x → heldGood l1 k x) ∧ (∀ k q, l2[k]? = some q → queueGood l1 l2 k q)
def heldRef (l1 : List LK) (k : Nat) (x : LK) : Prop := shapeM x = 0 ∧ modeM x.t x.s (l1.take k) ≤ 0 ∧ agM x l1 = []
def queueRef (l1 l2 : List LK) (k : Nat) (q : LK) : Prop :=
  shapeM q = 0 ∧ (l2.take k).any (sameX q) = false ∧ ¬(0 < modeM q.t q.s l1 ∧ (modeM q.t q.s l1 = q.m ∨ joinFrom (modeM q.t q.s l1) q.m 5 1 ≠ q.m)) ∧ wfM l1 l2 k q ≠ []
def refGood (l1 l2 : List LK) : Prop := l1.length + l2.length ≤ 200 ∧ (∀ k x, l1[k]? = some x → heldRef l1 k x) ∧ (∀ k q, l2[k]? = some q → queueRef l1 l2 k q)
theorem held_iff {l1 : List LK} (hs : ∀ x ∈ l1, shapeM x = 0) {k : Nat} {x : LK} (hx : l1[k]? = some x) : heldGood l1 k x ↔ heldRef l1 k x := by
  have hm : ∀ y ∈ l1, modeB y.m = true := fun y hy => (shape_mode (hs y hy)).1
  have hxm := List.mem_of_getElem? hx
  unfold heldGood heldRef
  rw [agM_nil (hm x hxm) hm]
  have := modeM_mem (t := x.t) (s := x.s) (l := l1.take k) fun y hy => hm y (List.mem_of_mem_take hy)
  constructor
  · rintro ⟨h1, h2⟩; exact ⟨hs x hxm, by omega, h2⟩
  · rintro ⟨_, h1, h2⟩; exact ⟨by omega, h2⟩
theorem queue_iff {l1 l2 : List LK} (hs : ∀ x ∈ l1, shapeM x = 0) {k : Nat} {q : LK} : queueGood l1 l2 k q ↔ queueRef l1 l2 k q := by
  have hm : ∀ y ∈ l1, modeB y.m = true := fun y hy => (shape_mode (hs y hy)).1
  unfold queueGood queueRef
  have key : shapeM q = 0 → ((findM q.t q.s l1 < 0 ∨ (joinB (modeM q.t q.s l1) q.m = q.m ∧ modeM q.t q.s l1 ≠ q.m)) ↔ ¬(0 < modeM q.t q.s l1 ∧ (modeM q.t q.s l1 = q.m ∨ joinFrom (modeM q.t q.s l1) q.m 5 1 ≠ q.m))) := by
    intro h0
    have hq := modeB_iff.1 (shape_mode h0).1
    rcases modeM_mem (t := q.t) (s := q.s) hm with ⟨h1, h2⟩ | ⟨h1, h2, h3⟩
    · rw [h1, h2]; simp
    · rw [joined_eq _ _ h2 h3 hq.1 hq.2]
      constructor
      · rintro (h | ⟨h4, h5⟩)
        · omega
        · rintro ⟨_, h | h⟩
          · exact h5 h
          · exact h h4
      · intro h
        refine .inr ⟨?_, ?_⟩
        · apply Classical.byContradiction; intro h6; exact h ⟨by omega, .inr h6⟩
        · intro h6; exact h ⟨by omega, .inl h6⟩
  constructor
  · rintro ⟨h1, h2, h3, h4⟩
    refine ⟨h1, h2, (key h1).1 h3, ?_⟩
    rw [Ne, wfM_nil (shape_mode h1).1 hm, h4]; simp
  · rintro ⟨h1, h2, h3, h4⟩
    refine ⟨h1, h2, (key h1).2 h3, ?_⟩
    rw [Ne, wfM_nil (shape_mode h1).1 hm] at h4; simpa using h4
theorem good_iff {l1 l2 : List LK} : lockGood l1 l2 ↔ refGood l1 l2 := by
  constructor
  · rintro ⟨h1, h2, h3, h4⟩
    exact ⟨h1, fun k x hx => (held_iff h2 hx).1 (h3 k x hx), fun k q hq => (queue_iff h2).1 (h4 k q hq)⟩
  · rintro ⟨h1, h3, h4⟩
    have h2 : ∀ x ∈ l1, shapeM x = 0 := fun x hx => by
      obtain ⟨k, hk⟩ := List.mem_iff_getElem?.1 hx
      exact (h3 k x hk).1
    exact ⟨h1, h2, fun k x hx => (held_iff h2 hx).2 (h3 k x hx), fun k q hq => (queue_iff h2).2 (h4 k q hq)⟩
open Classical in
/-- What both answer. -/
noncomputable def chkM (l1 l2 : List LK) : Int := if lockGood l1 l2 then 0 else 11
theorem chk_yes {l1 l2 : List LK} (h : lockGood l1 l2) : chkM l1 l2 = 0 := if_pos h
theorem chk_no {l1 l2 : List LK} (h : ¬lockGood l1 l2) : chkM l1 l2 = 11 := if_neg h
theorem chk_ref_held {l1 l2 : List LK} {k : Nat} {x : LK} (hx : l1[k]? = some x) (h : ¬heldRef l1 k x) : chkM l1 l2 = 11 := chk_no fun hg => h ((good_iff.1 hg).2.1 k x hx)
theorem chk_ref_queue {l1 l2 : List LK} {k : Nat} {q : LK} (hx : l2[k]? = some q) (h : ¬queueRef l1 l2 k q) : chkM l1 l2 = 11 := chk_no fun hg => h ((good_iff.1 hg).2.2 k q hx)
theorem chk_many {l1 l2 : List LK} (h : 200 < l1.length + l2.length) : chkM l1 l2 = 11 := chk_no fun hg => by have := hg.1; omega
theorem chk_ref_yes {l1 l2 : List LK} (h1 : l1.length + l2.length ≤ 200) (h2 : ∀ k x, k < l1.length → l1[k]? = some x → heldRef l1 k x) (h3 : ∀ k x, k < l2.length → l2[k]? = some x → queueRef l1 l2 k x) : chkM l1 l2 = 0 :=
  chk_yes (good_iff.2 ⟨h1, fun k x hx => h2 k x (List.getElem?_eq_some_iff.1 hx).1 hx, fun k x hx => h3 k x (List.getElem?_eq_some_iff.1 hx).1 hx⟩)
theorem chk_yes_of {l1 l2 : List LK} (h1 : l1.length + l2.length ≤ 200) (h0 : ∀ x ∈ l1, shapeM x = 0) (h2 : ∀ k x, k < l1.length → l1[k]? = some x → heldGood l1 k x) (h3 : ∀ k x, k < l2.length → l2[k]? = some x → queueGood l1 l2 k x) : chkM l1 l2 = 0 :=
  chk_yes ⟨h1, h0, fun k x hx => h2 k x (List.getElem?_eq_some_iff.1 hx).1 hx, fun k x hx => h3 k x (List.getElem?_eq_some_iff.1 hx).1 hx⟩
theorem chk_held {l1 l2 : List LK} {k : Nat} {x : LK} (hx : l1[k]? = some x) (h : ¬heldGood l1 k x) : chkM l1 l2 = 11 := chk_no fun hg => h (hg.2.2.1 k x hx)
theorem chk_queue {l1 l2 : List LK} {k : Nat} {q : LK} (hx : l2[k]? = some q) (h : ¬queueGood l1 l2 k q) : chkM l1 l2 = 11 := chk_no fun hg => h (hg.2.2.2 k q hx)
theorem chk_shape {l1 l2 : List LK} (h : l1.any (fun x => shapeM x != 0) = true) : chkM l1 l2 = 11 := chk_no fun hg => by
  obtain ⟨x, hx, he⟩ := List.any_eq_true.1 h
  have := hg.2.1 x hx
  simp [this] at he
theorem any_take_succ {p : LK → Bool} {l : List LK} {j : Nat} {y : LK} (h : l[j]? = some y) : (l.take (j + 1)).any p = ((l.take j).any p || p y) := by
  rw [List.take_add_one, h]; simp
theorem any_take_of {p : LK → Bool} {l : List LK} {j k : Nat} {y : LK} (h : l[j]? = some y) (hj : j < k) (hp : p y = true) : (l.take k).any p = true :=
  List.any_eq_true.2 ⟨y, List.mem_of_getElem? (i := j) (by rw [List.getElem?_take_of_lt hj, h]), hp⟩
end Go.Proofs.YtkehmidldcggcaaDoor
