/- How values that came in read. -/
import Derived.Test.YtoecmmpjndcolaaDoorRb
import Derived.Test.YtoecmmpjndcolaaDoorUb
import Derived.Deep.Strs
set_option linter.unusedSimpArgs false
set_option linter.unusedVariables false
namespace Go.Proofs.YtoecmmpjndcolaaDoor
open Go.ChangeShapes Go.WideShapes Go.ChangeAt Go.RowKit Go.AM
theorem cellsVal : Tryd.prog.cellsOf 52 = 3 := by kernel_rfl
set_option maxRecDepth 100000 in
theorem leaf_val {H : Type} {E : TypeId × Value → H} {w : World} {base : Nat} {spare : Nat → Bool} {held : Bool} (fuel : Nat) (cs : List Value) (x : DataW H × List MemPlace)
    (h : DataW.trod E Tryd.prog w base spare held fuel 52 cs = some x) : ∃ y : V, Reps w (zAll w) [] (eV y) cs ∧ (∀ v ∈ cs, v.oneCell' = true) ∧ y.s.size ≤ maxLen := by
  obtain ⟨y0, y1, y2, n, _, hl, h0, h1, h2⟩ := Deep.trod_struct3 Tryd.underlying52 h
  rw [cellsVal] at hl
  obtain ⟨c0, c1, c2, rfl⟩ : ∃ a b c, cs = [a, b, c] := by
    match cs, hl with
    | [a, b, c], _ => exact ⟨a, b, c, rfl⟩
  obtain ⟨k, e0, _, _⟩ := DataW.trod_int Tryd.underlying3 h0
  obtain ⟨m, e1, _, _⟩ := DataW.trod_int Tryd.underlying3 h1
  obtain ⟨s, e2, _, w0⟩ := DataW.trod_string Tryd.underlying9 h2
  rw [show Tryd.prog.cellsOf 3 = 1 by kernel_rfl] at e0 e1
  rw [show Tryd.prog.cellsOf 9 = 1 by kernel_rfl] at e2
  simp at e0 e1 e2
  subst e0 e1 e2
  exact ⟨⟨k, m, s⟩, .cons (.r _ _) (.cons (.r _ _) (.cons (.r _ _) .nil)), by simp [Value.oneCell'], w0⟩
set_option maxRecDepth 100000 in
/-- Values that came in. -/
theorem open_values {H : Type} {E : TypeId × Value → H} {w : World} {base : Nat} {spare : Nat → Bool} {held : Bool} {b0 : Nat} {v : Value} {d : DataW H} {p : List MemPlace}
    (hv : Value.okWide Tryd.prog w .any b0 27 v) (h : DataW.Trod E Tryd.prog w base spare held 27 v d p) :
    ∃ l : List V, Rep w (zAll w) [] (.ro true 3 (l.map eV)) v ∧ l.length ≤ Rows.uptoBulk d ∧ ∀ c ∈ l, c.s.size ≤ maxLen := by
  obtain ⟨f, hf⟩ := h
  obtain ⟨u, l, h1, h2, _, h3⟩ := open_ro eV (fun y _ => y.s.size ≤ maxLen) true Tryd.underlying27 cellsVal (by omega) leaf_val hf
  obtain ⟨a', n', c', rfl⟩ := okWide_slice Tryd.underlying27 hv
  obtain rfl : Value.slice a' n' c' = u := List.head_eq_of_cons_eq (show [Value.slice a' n' c'] = [u] from h1)
  refine ⟨l, h2, bulk_of h3, fun c hc => ?_⟩
  obtain ⟨i, hi⟩ := List.mem_iff_getElem?.1 hc
  rcases h3 with ⟨rfl, _⟩ | ⟨ds, rest, _, _, h6⟩
  · simp at hi
  · exact (h6 i c hi).choose_spec.2
end Go.Proofs.YtoecmmpjndcolaaDoor
