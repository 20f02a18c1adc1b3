/- Plain laws: what stands behind what it works on: trees of ops, their rows, where a part begins. -/
import Derived.Test.YtoecmmpjndcolaaDoorQa
set_option linter.unusedSimpArgs false
set_option linter.unusedVariables false
namespace Go.AM
section
variable {α : Type}
/-- A tree of ops. -/
inductive RT (α : Type) where
  | l (o : α)
  | u (o : α) (t : RT α)
  | b (o : α) (s t : RT α)
def RT.flat : RT α → List α
  | .l o => [o]
  | .u o t => t.flat ++ [o]
  | .b o s t => s.flat ++ t.flat ++ [o]
def RT.wf (ar : α → Nat) : RT α → Prop
  | .l o => ar o = 0
  | .u o t => ar o = 1 ∧ t.wf ar
  | .b o s t => ar o = 2 ∧ s.wf ar ∧ t.wf ar
/-- How high the stack is behind a row of ops. -/
def hgt (ar : α → Nat) : List α → Nat → Option Nat
  | [], h => some h
  | o :: r, h => if h < ar o then none else hgt ar r (h + 1 - ar o)
theorem list_last {β : Type} {l : List β} {n : Nat} (h : l.length = n + 1) : ∃ p x, l = p ++ [x] ∧ p.length = n :=
  ⟨l.dropLast, l.getLast (by intro e; subst e; simp at h), (List.dropLast_concat_getLast _).symm, by simp [h]⟩
theorem hgt_forest (ar : α → Nat) (har : ∀ o, ar o ≤ 2) : ∀ (l : List α) (ts : List (RT α)) (n : Nat), (∀ t ∈ ts, t.wf ar) → hgt ar l ts.length = some n → ∃ us : List (RT α), us.length = n ∧ (∀ t ∈ us, t.wf ar) ∧ ts.flatMap RT.flat ++ l = us.flatMap RT.flat
  | [], ts, n, hw, h => by simp [hgt] at h; exact ⟨ts, h, hw, by simp⟩
  | o :: r, ts, n, hw, h => by
    unfold hgt at h
    split at h
    · cases h
    rename_i hlt
    have h2 := har o
    match ho : ar o, h2 with
    | 0, _ =>
      obtain ⟨us, h1, h3, h4⟩ := hgt_forest ar har r (ts ++ [.l o]) n (by
        intro t ht; simp at ht; rcases ht with ht | rfl
        · exact hw t ht
        · exact ho) (by rw [ho] at h; simpa using h)
      exact ⟨us, h1, h3, by rw [← h4]; simp [RT.flat]⟩
    | 1, _ =>
      obtain ⟨p, x, rfl, hp⟩ := list_last (n := ts.length - 1) (l := ts) (by omega)
      obtain ⟨us, h1, h3, h4⟩ := hgt_forest ar har r (p ++ [.u o x]) n (by
        intro t ht; simp at ht; rcases ht with ht | rfl
        · exact hw t (by simp [ht])
        · exact ⟨ho, hw x (by simp)⟩) (by rw [ho] at h; simpa using h)
      exact ⟨us, h1, h3, by rw [← h4]; simp [RT.flat]⟩
    | 2, _ =>
      obtain ⟨p, x, rfl, hp⟩ := list_last (n := ts.length - 1) (l := ts) (by omega)
      obtain ⟨q, y, rfl, hq⟩ := list_last (n := p.length - 1) (l := p) (by simp at hlt; omega)
      obtain ⟨us, h1, h3, h4⟩ := hgt_forest ar har r (q ++ [.b o y x]) n (by
        intro t ht; simp at ht; rcases ht with ht | rfl
        · exact hw t (by simp [ht])
        · exact ⟨ho, hw y (by simp), hw x (by simp)⟩) (by
          rw [ho] at h
          have e : (q ++ [y] ++ [x]).length + 1 - 2 = (q ++ [RT.b o y x]).length := by simp
          rw [e] at h; exact h)
      exact ⟨us, h1, h3, by rw [← h4]; simp [RT.flat]⟩
theorem tree_of {ar : α → Nat} (har : ∀ o, ar o ≤ 2) {l : List α} (h : hgt ar l 0 = some 1) : ∃ t : RT α, t.wf ar ∧ t.flat = l := by
  obtain ⟨us, h1, h2, h3⟩ := hgt_forest ar har l [] 1 (by simp) h
  match us, h1 with
  | [t], _ => exact ⟨t, h2 t (by simp), by simpa using h3.symm⟩
theorem RT.flat_pos : ∀ t : RT α, 0 < t.flat.length
  | .l o => by simp [flat]
  | .u o t => by simp [flat]
  | .b o s t => by simp [flat]; omega
/-- How many ops stand in the last of the parts, from behind. -/
def cnt (ar : α → Nat) : List α → Nat → Nat
  | _, 0 => 0
  | [], _ + 1 => 0
  | o :: r, n + 1 => 1 + cnt ar r (n + ar o)
theorem cnt_flat (ar : α → Nat) : ∀ (t : RT α) (rest : List α) (n : Nat), t.wf ar → cnt ar (t.flat.reverse ++ rest) (n + 1) = t.flat.length + cnt ar rest n
  | .l o, rest, n, h => by simp only [RT.wf] at h; simp [RT.flat, cnt, h]
  | .u o t, rest, n, h => by
    obtain ⟨h1, h2⟩ := h
    simp only [RT.flat, List.reverse_append, List.reverse_cons, List.reverse_nil, List.nil_append, List.cons_append, cnt, h1, List.length_append, List.length_cons, List.length_nil]
    rw [cnt_flat ar t rest n h2]; omega
  | .b o s t, rest, n, h => by
    obtain ⟨h1, h2, h3⟩ := h
    simp only [RT.flat, List.reverse_append, List.reverse_cons, List.reverse_nil, List.nil_append, List.cons_append, List.append_assoc, cnt, h1, List.length_append, List.length_cons, List.length_nil]
    rw [cnt_flat ar t _ (n + 1) h3, cnt_flat ar s rest n h2]; omega
/-- Where what ends ahead of a place begins. -/
def begM (ar : α → Nat) (l : List α) (e : Nat) : Nat := e - cnt ar (l.take e).reverse 1
theorem begM_tree {ar : α → Nat} (pre : List α) (t : RT α) (post : List α) (h : t.wf ar) : begM ar (pre ++ t.flat ++ post) (pre.length + t.flat.length) = pre.length := by
  have e : (pre ++ t.flat ++ post).take (pre.length + t.flat.length) = pre ++ t.flat := by
    rw [← List.length_append, List.take_left]
  rw [begM, e, List.reverse_append]
  have := cnt_flat ar t pre.reverse 0 h
  simp only [Nat.zero_add] at this
  rw [this]
  simp [cnt]
end
end Go.AM
