/- What the listed variables hold; how columns that came in read. -/
import Derived.Test.YtoecmmpjndcolaaDoorXs
import Derived.Test.YtoecmmpjndcolaaDoorEb
import Derived.Test.YtoecmmpjndcolaaDoorRb
import Derived.Deep.Strs
set_option linter.unusedSimpArgs false
set_option linter.unusedVariables false
namespace Go.Proofs.YtoecmmpjndcolaaDoor
open Go.ChangeShapes Go.WideShapes Go.ChangeAt Go.RowKit Go.AM
def typesL : List (List UInt8) := [[], [66, 79, 79, 76], [73, 78, 84], [84, 69, 88, 84]]
theorem gTypes : Tryd.prog.globalNamed "padlock/parse.types" = some 0 := by kernel_rfl
theorem gTypesT : (Tryd.prog.globals[0]?).map (·.type) = some 88 := by kernel_rfl
set_option maxRecDepth 100000 in
theorem types_head {W : World} {rest : List (String × DataW Unit)} {ps : List MemPlace} (h : DataW.LaidVars Tryd.prog W (("padlock/parse.types", Rows.laid_padlock_parse_types) :: rest) ps) :
    (∀ j : Nat, j < 4 → W.cell? ⟨0, j, none⟩ = some (.string (str (typesL.getD j [])))) ∧ 0 < W.heap.size ∧ ∃ q, DataW.LaidVars Tryd.prog W rest q := by
  obtain ⟨g, t, cs, fuel, p, q, hg, ht, hvar, hd, hr, _⟩ := h
  obtain rfl := Option.some.inj (gTypes.symm.trans hg)
  obtain rfl := Option.some.inj (gTypesT.symm.trans ht)
  have e : (Rows.laid_padlock_parse_types : DataW Unit) = .agg (typesL.map fun l => .lit (.string l)) := rfl
  rw [e] at hd
  obtain ⟨h1, h2⟩ := arrS Tryd.underlying88 Tryd.underlying9 (by kernel_rfl) hd
  have hc : ∀ j : Nat, j < 4 → W.cell? ⟨0, j, none⟩ = some (.string (str (typesL.getD j []))) := fun j hj => by
    rw [World.var?_cell gTypes hvar]
    have := h2 j hj
    rwa [Array.getElem?_toList] at this
  refine ⟨hc, ?_, q, hr⟩
  have h0 := hc 0 (by decide)
  rcases Nat.lt_or_ge 0 W.heap.size with h | h
  · exact h
  · simp [World.cell?, Array.getElem?_eq_none h] at h0
/-- The package's tables. -/
def GT : List (Nat × List Value) := [(0, typesV.map .string), (1, marksS.map .string), (2, wordsS.map .string)]
theorem tabsGT : Tabs GT := ⟨by simp [GT], by simp [GT], rfl⟩
theorem tabs_all {W : World} (h : laidMetH Tryd.prog [("padlock/lex.marks", Rows.laid_padlock_lex_marks), ("padlock/parse.words", Rows.laid_padlock_parse_words), ("padlock/parse.types", Rows.laid_padlock_parse_types)] W) : Globs GT W := by
  obtain ⟨ps, h, _⟩ := h
  obtain ⟨h1, h2, q, h3⟩ := marks_head h
  obtain ⟨h4, h5, q2, h6⟩ := words_head h3
  obtain ⟨h7, h8, _⟩ := types_head h6
  intro g cs hg
  simp only [GT, List.mem_cons, Prod.mk.injEq, List.not_mem_nil, or_false] at hg
  rcases hg with ⟨rfl, rfl⟩ | ⟨rfl, rfl⟩ | ⟨rfl, rfl⟩
  · refine ⟨h8, fun j u hu => ?_⟩
    have hj : j < 4 := by have := (List.getElem?_eq_some_iff.1 hu).1; simpa [typesV] using this
    rw [h7 j hj, ← hu]
    match j, hj with
    | 0, _ => rfl
    | 1, _ => rfl
    | 2, _ => rfl
    | 3, _ => rfl
  · refine ⟨h2, fun j u hu => ?_⟩
    have hj := (List.getElem?_eq_some_iff.1 hu).1
    rw [List.length_map] at hj
    rw [h1 j hj, ← hu, List.getElem?_map, List.getD, List.getElem?_eq_getElem hj]; rfl
  · refine ⟨h5, fun j u hu => ?_⟩
    have hj := (List.getElem?_eq_some_iff.1 hu).1
    rw [List.length_map] at hj
    rw [h4 j hj, ← hu, List.getElem?_map, List.getD, List.getElem?_eq_getElem hj]; rfl
theorem cellsCol : Tryd.prog.cellsOf 55 = 2 := by kernel_rfl
set_option maxRecDepth 100000 in
theorem leaf_col {H : Type} {E : TypeId × Value → H} {w : World} {base : Nat} {spare : Nat → Bool} {held : Bool} (fuel : Nat) (cs : List Value) (x : DataW H × List MemPlace)
    (h : DataW.trod E Tryd.prog w base spare held fuel 55 cs = some x) : ∃ y : CO, Reps w (zAll w) [] (eC y) cs ∧ (∀ v ∈ cs, v.oneCell' = true) ∧ okS y.nm := by
  obtain ⟨y0, y1, n, _, hl, h0, h1⟩ := trod_struct2 Tryd.underlying55 h
  rw [cellsCol] at hl
  obtain ⟨c0, c1, rfl⟩ : ∃ a b, cs = [a, b] := by
    match cs, hl with
    | [a, b], _ => exact ⟨a, b, rfl⟩
  obtain ⟨s, e0, _, w0⟩ := DataW.trod_string Tryd.underlying9 h0
  obtain ⟨k, e1, _, _⟩ := DataW.trod_int Tryd.underlying3 h1
  rw [show Tryd.prog.cellsOf 9 = 1 by kernel_rfl] at e0
  rw [show Tryd.prog.cellsOf 3 = 1 by kernel_rfl] at e1
  simp at e0 e1
  subst e0 e1
  exact ⟨⟨s, k⟩, .cons (.r _ _) (.cons (.r _ _) .nil), by simp [Value.oneCell'], w0⟩
set_option maxRecDepth 100000 in
/-- Columns that came in. -/
theorem open_cols {H : Type} {E : TypeId × Value → H} {w : World} {base : Nat} {spare : Nat → Bool} {held : Bool} {b0 : Nat} {v : Value} {d : DataW H} {p : List MemPlace}
    (hv : Value.okWide Tryd.prog w .any b0 22 v) (h : DataW.Trod E Tryd.prog w base spare held 22 v d p) :
    ∃ l : List CO, Rep w (zAll w) [] (.ro true 2 (l.map eC)) v ∧ l.length ≤ Rows.uptoBulk d ∧ ∀ c ∈ l, okS c.nm := by
  obtain ⟨f, hf⟩ := h
  obtain ⟨u, l, h1, h2, _, h3⟩ := open_ro eC (fun y _ => okS y.nm) true Tryd.underlying22 cellsCol (by omega) leaf_col hf
  obtain ⟨a', n', c', rfl⟩ := okWide_slice Tryd.underlying22 hv
  obtain rfl : Value.slice a' n' c' = u := List.head_eq_of_cons_eq (show [Value.slice a' n' c'] = [u] from h1)
  refine ⟨l, h2, bulk_of h3, fun c hc => ?_⟩
  obtain ⟨i, hi⟩ := List.mem_iff_getElem?.1 hc
  rcases h3 with ⟨rfl, _⟩ | ⟨ds, rest, _, _, h6⟩
  · simp at hi
  · exact (h6 i c hi).choose_spec.2
end Go.Proofs.YtoecmmpjndcolaaDoor
