/- Slices that came in, read as lists. -/
import Derived.Test.YtoecmmpjndcolaaDoorProg
import Derived.Below
import Derived.OpenShut
import Derived.WalkKit
import Derived.ProofKit
import Derived.ChangeOld
set_option linter.unusedSimpArgs false
set_option linter.unusedVariables false
namespace Go.Proofs.YtoecmmpjndcolaaDoor
open Go.ChangeShapes Go.WideShapes Go.ChangeAt Go.RowKit
/-- Cells of a slice, k an element: the list's own. -/
def SlAt {α : Type} (w : World) (k : Nat) (enc : α → List Value) (a : Option Addr) (l : List α) : Prop :=
  l = [] ∨ ∃ b o, a = some ⟨b, o, none⟩ ∧ b < w.heap.size ∧ ∀ j x, l[j]? = some x → ∀ i v, (enc x)[i]? = some v → w.cell? ⟨b, o + j * k + i, none⟩ = some v
theorem SlAt.nil {α : Type} {w : World} {k : Nat} {enc : α → List Value} {a : Option Addr} : SlAt w k enc a ([] : List α) := .inl rfl
theorem SlAt.below {α : Type} {w w' : World} {B k : Nat} {enc : α → List Value} {a : Option Addr} {l : List α} (h : SlAt w k enc a l) (hb : Below B w w') (hB : w.heap.size ≤ B) : SlAt w' k enc a l := by
  rcases h with h | ⟨b, o, ha, hlt, hc⟩
  · exact .inl h
  · exact .inr ⟨b, o, ha, Nat.lt_of_lt_of_le hlt hb.size, fun j x hj i v hi => (hb.cell (p := ⟨b, _, none⟩) (Nat.lt_of_lt_of_le hlt hB)).trans (hc j x hj i v hi)⟩
theorem SlAt.take {α : Type} {w : World} {k : Nat} {enc : α → List Value} {a : Option Addr} {l : List α} (h : SlAt w k enc a l) (n : Nat) : SlAt w k enc a (l.take n) := by
  rcases h with rfl | ⟨b, o, ha, hlt, hc⟩
  · exact .inl (by simp)
  · refine .inr ⟨b, o, ha, hlt, fun j x hj => hc j x ?_⟩
    by_cases h : j < n
    · simpa [List.getElem?_take, h] using hj
    · simp [List.getElem?_take, h] at hj
theorem add_none (a : Addr) (n : Nat) (h : a.spot = none) : a.add n = ⟨a.block, a.off + n, none⟩ := by
  unfold Addr.add
  split
  · rename_i h0; subst h0; cases a; simp_all
  · rfl
theorem open_list {H α : Type} {E : TypeId × Value → H} {P : Program} {w : World} {base : Nat} {spare : Nat → Bool} {held : Bool} {k fuel : Nat} {t e : TypeId} {cs : List Value} {x : DataW H × List MemPlace}
    (enc : α → List Value) (R : α → DataW H → Prop) (ht : P.underlying t = some (.slice e)) (hk : P.cellsOf e = k) (hk0 : 0 < k)
    (leaf : ∀ fuel cs x, DataW.trod E P w base spare held fuel e cs = some x → ∃ y, cs = enc y ∧ R y x.1)
    (h : DataW.trod E P w base spare held fuel t cs = some x) :
    ∃ (a : Option Addr) (l : List α) (cap : Nat), cs = [.slice a l.length cap] ∧ SlAt w k enc a l ∧ l.length ≤ cap ∧ cap ≤ maxLen ∧ (a = none → cap = 0) ∧
      ((a = none ∧ l = [] ∧ x.1 = .nil) ∨ ∃ ds rest, x.1 = .slice ds rest ∧ ds.length = l.length ∧ ∀ (i : Nat) y, l[i]? = some y → ∃ d, ds[i]? = some d ∧ R y d) := by
  rcases DataW.trod_slice ht h with ⟨rfl, rfl⟩ | ⟨a, len, cap, elems, rest, n, _, rfl, rfl, hb, hl, hm, hlen, hel, -, -⟩
  · exact ⟨none, [], 0, rfl, .inl rfl, Nat.le_refl _, Nat.zero_le _, fun _ => rfl, .inl ⟨rfl, rfl, rfl⟩⟩
  have hy : ∀ i : Fin len, ∃ y, w.cells? base (a.add (i.1 * k)) k = some (enc y) ∧ ∃ d, (elems.map (·.1))[i.1]? = some d ∧ R y d := fun ⟨i, hi⟩ => by
    have h1 := hel i hi
    rw [List.getElem?_eq_getElem (by omega), hk] at h1
    obtain ⟨cs', h2, h3⟩ := Option.bind_eq_some_iff.1 h1
    obtain ⟨y, rfl, hR⟩ := leaf _ _ _ h3
    exact ⟨y, h2, _, by simp [show i < elems.length by omega], hR⟩
  obtain ⟨f, hf⟩ := Classical.axiomOfChoice hy
  refine ⟨some a, List.ofFn f, cap, by simp, ?_, by simpa using hl, hm, (fun h => by cases h), .inr ⟨_, _, rfl, by simp [hlen], fun i y hi => ?_⟩⟩
  · by_cases h0 : len = 0
    · subst h0; exact .inl (by simp)
    have c0 := hf ⟨0, by omega⟩
    obtain ⟨_, l0, g0⟩ := World.cells?_some c0.1
    have g1 := g0 0 hk0
    rw [List.getElem?_eq_getElem (by omega)] at g1
    have hs : a.spot = none := by
      simp only [Nat.zero_mul] at g1
      have e0 : (a.add 0).add 0 = a := by simp [Addr.add]
      rw [e0] at g1
      unfold World.cell? at g1
      split at g1
      · split at g1
        · cases g1
        · rename_i h5; simpa using h5
      · cases g1
    have hlt : a.block < w.heap.size := by
      have := World.block_lt_of_cell? _ _ g1
      simpa [Addr.add] using this
    refine .inr ⟨a.block, a.off, by cases a; simp_all, hlt, fun j x hj i v hi => ?_⟩
    obtain ⟨hj', rfl⟩ : ∃ h : j < len, f ⟨j, h⟩ = x := by
      rw [List.getElem?_ofFn] at hj
      split at hj
      · rename_i h; exact ⟨h, by simpa using hj⟩
      · cases hj
    obtain ⟨_, l1, g2⟩ := World.cells?_some (hf ⟨j, hj'⟩).1
    have hi' := (List.getElem?_eq_some_iff.1 hi).1
    have g3 := g2 i (by omega)
    rw [add_none a _ hs, add_none _ _ rfl] at g3
    rw [← hi, ← g3]
  · obtain ⟨hi', rfl⟩ : ∃ h : i < len, f ⟨i, h⟩ = y := by
      rw [List.getElem?_ofFn] at hi
      split at hi
      · rename_i h; exact ⟨h, by simpa using hi⟩
      · cases hi
    exact (hf ⟨i, hi'⟩).2
end Go.Proofs.YtoecmmpjndcolaaDoor
