/- How arguments and the listed tables read: the seat of lex and parse. -/
import Derived.Test.YtoecmmpjndcolaaDoorCards
import Derived.Test.YtoecmmpjndcolaaDoorTie
import Derived.Test.YtoecmmpjndcolaaDoorXb
import Derived.WalkKit
import Derived.ProofKit
import Derived.OpenShut
import Derived.ShutString
import Derived.ChangeOld
import Derived.Below
import Derived.Lib.SmallJoins
import Derived.Deep.DeepHandedRow
import Derived.Lib.LaidTab
set_option linter.unusedSimpArgs false
set_option linter.unusedVariables false
namespace Go.Proofs.YtoecmmpjndcolaaDoor
open Go.ChangeShapes Go.WideShapes Go.ChangeAt Go.RowKit
theorem own : ownKnob Tryd.prog.godebug = none := by kernel_rfl
theorem laidOut : laidOutB Tryd.prog = true := by kernel_rfl
theorem cellsToken : Tryd.prog.cellsOf 61 = 3 := by kernel_rfl
set_option maxRecDepth 100000 in
theorem open_token {H : Type} {enc : TypeId × Value → H} {w : World} {base : Nat} {spare : Nat → Bool} {held : Bool} {b0 : Nat} {v : Value} {d : DataW H} {p : List MemPlace}
    (hv : Value.okWide Tryd.prog w .any b0 61 v) (h : DataW.Trod enc Tryd.prog w base spare held 61 v d p) :
    ∃ (k : Int) (s : ByteArray) (n : Int), v = .agg #[.int .i64 k, .string s, .int .i64 n] ∧ (Lit.int .i64 k).wf = true ∧ (Lit.int .i64 n).wf = true ∧ s.size ≤ maxLen := by
  obtain ⟨c0, c1, c2, y0, y1, y2, m, rfl, _, _, h0, h1, h2⟩ := Joins.open_agg3 Tryd.underlying61 (by kernel_rfl) cellsToken hv h
  obtain ⟨k, e0, _, w0⟩ := DataW.trod_int Tryd.underlying3 h0
  obtain ⟨s, e1, _, w1⟩ := DataW.trod_string Tryd.underlying9 h1
  obtain ⟨n, e2, _, w2⟩ := DataW.trod_int Tryd.underlying3 h2
  simp at e0 e1 e2
  subst e0 e1 e2
  exact ⟨k, s, n, rfl, w0, w2, w1⟩
set_option maxRecDepth 100000 in
theorem open_str {H : Type} {enc : TypeId × Value → H} {w : World} {base : Nat} {spare : Nat → Bool} {held : Bool} {b0 : Nat} {v : Value} {d : DataW H} {p : List MemPlace}
    (hv : Value.okWide Tryd.prog w .any b0 9 v) (h : DataW.Trod enc Tryd.prog w base spare held 9 v d p) : ∃ s : ByteArray, v = .string s ∧ s.size ≤ maxLen := by
  obtain ⟨s, rfl, _, _, w0⟩ := Go.ChangeMaps.open_string Tryd.underlying9 hv h
  exact ⟨s, rfl, w0⟩
/-- An array of strings, as laid: its cells. -/
theorem arrS {P : Program} {w : World} {t e : TypeId} {n fuel : Nat} {cs : List Value} {ls : List (List UInt8)} {p : List MemPlace} {base : Nat} {spare : Nat → Bool} {held : Bool}
    (ht : P.underlying t = some (.array n e)) (he : P.underlying e = some .string) (hce : P.cellsOf e = 1)
    (h : DataW.trod (fun _ => ()) P w base spare held fuel t cs = some (.agg (ls.map fun l => .lit (.string l)), p)) :
    ls.length = n ∧ ∀ j : Nat, j < n → cs[j]? = some (.string (str (ls.getD j []))) := by
  obtain ⟨xs, m', rfl, hx, hl, hn, hi⟩ := DataW.trod_array ht h
  simp only [Prod.mk.injEq, DataW.agg.injEq] at hx
  have hlen : ls.length = n := by
    have := congrArg List.length hx.1
    simpa [hn] using this
  refine ⟨hlen, fun j hj => ?_⟩
  have h1 := hi j hj
  obtain ⟨y, hy⟩ : ∃ y, xs[j]? = some y := ⟨xs[j], by simp [hn, hj]⟩
  rw [hy] at h1
  obtain ⟨s, e1, rfl, _⟩ := DataW.trod_string he h1
  have h2 := congrArg (fun l => l[j]?) hx.1
  simp only [List.getElem?_map, hy, Option.map_some] at h2
  have hj' : j < ls.length := by omega
  rw [List.getElem?_eq_getElem hj'] at h2
  simp only [Option.map_some, Option.some.injEq, DataW.lit.injEq, Lit.string.injEq] at h2
  rw [hce] at e1
  have h4 := congrArg (fun l => l[0]?) e1
  simp at h4
  rw [h4]
  have : s = str (ls.getD j []) := by
    rw [List.getD, List.getElem?_eq_getElem hj', Option.getD_some, h2]
    rfl
  rw [this]
def marksL : List (List UInt8) := [[60, 61], [62, 61], [60, 62], [40], [41], [44], [42], [43], [45], [61], [60], [62]]
theorem gMarks : Tryd.prog.globalNamed "padlock/lex.marks" = some 1 := by kernel_rfl
theorem gMarksT : (Tryd.prog.globals[1]?).map (·.type) = some 99 := by kernel_rfl
set_option maxRecDepth 100000 in
theorem marks_head {W : World} {rest : List (String × DataW Unit)} {ps : List MemPlace} (h : DataW.LaidVars Tryd.prog W (("padlock/lex.marks", Rows.laid_padlock_lex_marks) :: rest) ps) :
    StrsAt W 1 marksS ∧ 1 < W.heap.size ∧ ∃ q, DataW.LaidVars Tryd.prog W rest q := by
  obtain ⟨g, t, cs, fuel, p, q, hg, ht, hvar, hd, hr, _⟩ := h
  obtain rfl := Option.some.inj (gMarks.symm.trans hg)
  obtain rfl := Option.some.inj (gMarksT.symm.trans ht)
  have e : (Rows.laid_padlock_lex_marks : DataW Unit) = .agg (marksL.map fun l => .lit (.string l)) := rfl
  rw [e] at hd
  obtain ⟨h1, h2⟩ := arrS Tryd.underlying99 Tryd.underlying9 (by kernel_rfl) hd
  have hc : ∀ j : Nat, j < 12 → W.cell? ⟨1, j, none⟩ = some (.string (str (marksL.getD j []))) := fun j hj => by
    rw [World.var?_cell gMarks hvar]
    have := h2 j hj
    rwa [Array.getElem?_toList] at this
  refine ⟨fun j hj => ?_, ?_, q, hr⟩
  · rw [hc j hj]
    have : marksS = marksL.map str := rfl
    rw [this, List.getD, List.getD, List.getElem?_map, List.getElem?_eq_getElem (show j < marksL.length from hj)]
    rfl
  · have h0 := hc 0 (by decide)
    rcases Nat.lt_or_ge 1 W.heap.size with h | h
    · exact h
    · simp [World.cell?, Array.getElem?_eq_none h] at h0
end Go.Proofs.YtoecmmpjndcolaaDoor
