/- What the listed variables of the row ParseNames hold. -/
import Derived.Test.YtoecmmpjndcolaaDoorXr
import Derived.Test.YtoecmmpjndcolaaDoorXe
set_option linter.unusedSimpArgs false
set_option linter.unusedVariables false
namespace Go.Proofs.YtoecmmpjndcolaaDoor
open Go.ChangeShapes Go.WideShapes Go.ChangeAt Go.RowKit
theorem gWords : Tryd.prog.globalNamed "padlock/parse.words" = some 2 := by kernel_rfl
theorem gWordsT : (Tryd.prog.globals[2]?).map (·.type) = some 113 := by kernel_rfl
set_option maxRecDepth 100000 in
theorem words_head {W : World} {rest : List (String × DataW Unit)} {ps : List MemPlace} (h : DataW.LaidVars Tryd.prog W (("padlock/parse.words", Rows.laid_padlock_parse_words) :: rest) ps) :
    StrsAt W 2 wordsS ∧ 2 < W.heap.size ∧ ∃ q, DataW.LaidVars Tryd.prog W rest q := by
  obtain ⟨g, t, cs, fuel, p, q, hg, ht, hvar, hd, hr, _⟩ := h
  obtain rfl := Option.some.inj (gWords.symm.trans hg)
  obtain rfl := Option.some.inj (gWordsT.symm.trans ht)
  have e : (Rows.laid_padlock_parse_words : DataW Unit) = .agg (wordsL.map fun l => .lit (.string l)) := rfl
  rw [e] at hd
  obtain ⟨h1, h2⟩ := arrS Tryd.underlying113 Tryd.underlying9 (by kernel_rfl) hd
  have hc : ∀ j : Nat, j < 30 → W.cell? ⟨2, j, none⟩ = some (.string (str (wordsL.getD j []))) := fun j hj => by
    rw [World.var?_cell gWords hvar]
    have := h2 j hj
    rwa [Array.getElem?_toList] at this
  refine ⟨fun j hj => ?_, ?_, q, hr⟩
  · rw [hc j hj]
    have : wordsS = wordsL.map str := rfl
    rw [this, List.getD, List.getD, List.getElem?_map, List.getElem?_eq_getElem (show j < wordsL.length from hj)]
    rfl
  · have h0 := hc 0 (by decide)
    rcases Nat.lt_or_ge 2 W.heap.size with h | h
    · exact h
    · simp [World.cell?, Array.getElem?_eq_none h] at h0
end Go.Proofs.YtoecmmpjndcolaaDoor
