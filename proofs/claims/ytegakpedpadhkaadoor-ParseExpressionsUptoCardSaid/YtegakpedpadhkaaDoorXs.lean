/- What the listed variables of the row ParseNames hold. -/
import Derived.Test.YtegakpedpadhkaaDoorXr
import Derived.Test.YtegakpedpadhkaaDoorXe
set_option linter.unusedSimpArgs false
set_option linter.unusedVariables false
namespace Go.Proofs.YtegakpedpadhkaaDoor
open Go.ChangeShapes Go.WideShapes Go.ChangeAt Go.RowKit
theorem gWords : Tryd.prog.globalNamed "padlock/parse.words" = some 1 := by kernel_rfl
theorem gWordsT : (Tryd.prog.globals[1]?).map (·.type) = some 61 := by kernel_rfl
set_option maxRecDepth 100000 in
theorem words_head {W : World} {rest : List (String × DataW Unit)} {ps : List MemPlace} (h : DataW.LaidVars Tryd.prog W (("padlock/parse.words", Rows.laid_padlock_parse_words) :: rest) ps) :
    StrsAt W 1 wordsS ∧ 1 < W.heap.size ∧ ∃ q, DataW.LaidVars Tryd.prog W rest q := by
  obtain ⟨g, t, cs, fuel, p, q, hg, ht, hvar, hd, hr, _⟩ := h
  obtain rfl := Option.some.inj (gWords.symm.trans hg)
  obtain rfl := Option.some.inj (gWordsT.symm.trans ht)
  have e : (Rows.laid_padlock_parse_words : DataW Unit) = .agg (wordsL.map fun l => .lit (.string l)) := rfl
  rw [e] at hd
  obtain ⟨h1, h2⟩ := arrS Tryd.underlying61 Tryd.underlying9 (by kernel_rfl) hd
  have hc : ∀ j : Nat, j < 30 → W.cell? ⟨1, j, none⟩ = some (.string (str (wordsL.getD j []))) := fun j hj => by
    rw [World.var?_cell gWords hvar]
    have := h2 j hj
    rwa [Array.getElem?_toList] at this
  refine ⟨fun j hj => ?_, ?_, q, hr⟩
  · rw [hc j hj]
    have : wordsS = wordsL.map str := rfl
    rw [this, List.getD, List.getD, List.getElem?_map, List.getElem?_eq_getElem (show j < wordsL.length from hj)]
    rfl
  · have h0 := hc 0 (by decide)
    rcases Nat.lt_or_ge 1 W.heap.size with h | h
    · exact h
    · simp [World.cell?, Array.getElem?_eq_none h] at h0
theorem tabs_names {W : World} (h : laidMetH Tryd.prog Rows.parseNamesRow.laid W) : (StrsAt W 0 marksS ∧ 0 < W.heap.size) ∧ StrsAt W 1 wordsS ∧ 1 < W.heap.size := by
  obtain ⟨ps, h, _⟩ := h
  obtain ⟨h1, h2, q, h3⟩ := marks_head h
  obtain ⟨h4, h5, _⟩ := words_head h3
  exact ⟨⟨h1, h2⟩, h4, h5⟩
end Go.Proofs.YtegakpedpadhkaaDoor
