/- Plain data of the program, as cells. -/
import Derived.Test.YtoecmmpjndcolaaDoorUa
import Derived.Test.YtoecmmpjndcolaaDoorQt
set_option linter.unusedSimpArgs false
set_option linter.unusedVariables false
namespace Go.AM
open Go
structure V where
  k : Int
  n : Int
  s : ByteArray
def eV (x : V) : List AV := [.r (.int .i64 x.k), .r (.int .i64 x.n), .r (.string x.s)]
def sameV (x y : V) : Bool := x.k == y.k && (x.n == y.n && x.s.toList == y.s.toList)
def sameVs : List V → List V → Bool
  | [], [] => true
  | x :: r, y :: q => sameV x y && sameVs r q
  | _, _ => false
theorem drop_at {α : Type} {l : List α} {k : Nat} {x : α} (h : l[k]? = some x) : l.drop k = x :: l.drop (k + 1) := by
  obtain ⟨hk, rfl⟩ := List.getElem?_eq_some_iff.1 h
  exact List.drop_eq_getElem_cons hk
theorem sameVs_len : ∀ {a b : List V}, sameVs a b = true → a.length = b.length
  | [], [], _ => rfl
  | x :: r, y :: q, h => by simp [sameVs] at h; simp [sameVs_len h.2]
  | [], _ :: _, h => by simp [sameVs] at h
  | _ :: _, [], h => by simp [sameVs] at h
def eI (n : Int) : List AV := [.r (.int .i64 n)]
def eStr (s : ByteArray) : List AV := [.r (.string s)]
/-- A column. -/
structure CO where
  nm : ByteArray
  k : Int
def eC (c : CO) : List AV := [.r (.string c.nm), .r (.int .i64 c.k)]
/-- A token. -/
structure TK0 where
  k : Int
  s : ByteArray
  n : Int
def eT (t : TK0) : List AV := [.r (.int .i64 t.k), .r (.string t.s), .r (.int .i64 t.n)]
@[simp] theorem ptA_eV (a : V) : (∀ x, x ∈ eV a → PT x) = True := eq_true (by intro x hx; simp [eV] at hx; rcases hx with rfl | rfl | rfl <;> exact .r _)
@[simp] theorem ptA_eT (a : TK0) : (∀ x, x ∈ eT a → PT x) = True := eq_true (by intro x hx; simp [eT] at hx; rcases hx with rfl | rfl | rfl <;> exact .r _)
@[simp] theorem ptA_eI (a : Int) : (∀ x, x ∈ eI a → PT x) = True := eq_true (by intro x hx; simp [eI] at hx; subst hx; exact .r _)
@[simp] theorem ptA_eC (a : CO) : (∀ x, x ∈ eC a → PT x) = True := eq_true (by intro x hx; simp [eC] at hx; rcases hx with rfl | rfl <;> exact .r _)
@[simp] theorem ptA_eStr (a : ByteArray) : (∀ x, x ∈ eStr a → PT x) = True := eq_true (by intro x hx; simp [eStr] at hx; subst hx; exact .r _)
instance : PTf eV := ⟨fun a => of_eq_true (ptA_eV a)⟩
instance : PTf eT := ⟨fun a => of_eq_true (ptA_eT a)⟩
instance : PTf eI := ⟨fun a => of_eq_true (ptA_eI a)⟩
instance : PTf eC := ⟨fun a => of_eq_true (ptA_eC a)⟩
instance : PTf eStr := ⟨fun a => of_eq_true (ptA_eStr a)⟩
theorem pt_eV : ∀ {l : List V}, ∀ e ∈ l.map eV, ∀ x ∈ e, PT x := by
  intro l e he x hx
  obtain ⟨a, _, rfl⟩ := List.mem_map.1 he
  simp [eV] at hx; rcases hx with rfl | rfl | rfl <;> exact .r _
theorem pt_eT {l : List TK0} : ∀ e ∈ l.map eT, ∀ x ∈ e, PT x := by
  intro e he x hx
  obtain ⟨a, _, rfl⟩ := List.mem_map.1 he
  simp [eT] at hx; rcases hx with rfl | rfl | rfl <;> exact .r _
theorem pt_eByte {l : List UInt8} : ∀ e ∈ l.map eByte, ∀ x ∈ e, PT x := by
  intro e he x hx
  obtain ⟨a, _, rfl⟩ := List.mem_map.1 he
  simp [eByte] at hx; subst hx; exact .r _
theorem pt_eI {l : List Int} : ∀ e ∈ l.map eI, ∀ x ∈ e, PT x := by
  intro e he x hx
  obtain ⟨a, _, rfl⟩ := List.mem_map.1 he
  simp [eI] at hx; subst hx; exact .r _
end Go.AM
