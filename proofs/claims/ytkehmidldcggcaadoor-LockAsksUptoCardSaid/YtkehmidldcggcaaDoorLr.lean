/- How arguments and the listed tables read: the lock seat. -/
import Derived.Test.YtkehmidldcggcaaDoorCards
import Derived.Test.YtkehmidldcggcaaDoorTie
import Derived.Test.YtkehmidldcggcaaDoorLa
import Derived.WalkKit
import Derived.ProofKit
import Derived.OpenShut
import Derived.ShutString
import Derived.ChangeOld
import Derived.Below
import Derived.Lib.SmallJoins
import Derived.Deep.DeepHandedRow
import Derived.Lib.LaidTab
set_option linter.unusedSimpArgs false
set_option linter.unusedVariables false
namespace Go.Proofs.YtkehmidldcggcaaDoor
open Go.ChangeShapes Go.WideShapes Go.ChangeAt Go.RowKit
theorem own : ownKnob Tryd.prog.godebug = none := by kernel_rfl
theorem laidOut : laidOutB Tryd.prog = true := by kernel_rfl
theorem open_i64 {H : Type} {enc : TypeId × Value → H} {w : World} {base : Nat} {spare : Nat → Bool} {held : Bool} {b0 : Nat} {v : Value} {d : DataW H} {p : List MemPlace}
    (hv : Value.okWide Tryd.prog w .any b0 3 v) (h : DataW.Trod enc Tryd.prog w base spare held 3 v d p) : ∃ n : Int, v = .int .i64 n ∧ (Lit.int .i64 n).wf = true := by
  obtain ⟨n, rfl, _, _, w0⟩ := open_int Tryd.underlying3 hv h
  exact ⟨n, rfl, w0⟩
/-- A plain datum as a value. -/
def valOf {H : Type} : DataW H → Value
  | .lit (.bool b) => .bool b
  | .lit (.int k n) => .int k n
  | _ => undef
/-- A table of rows, flat in its cells. -/
theorem arr2 {P : Program} {w : World} {t e f : TypeId} {n m fuel : Nat} {cs : List Value} {x : DataW Unit × List MemPlace} {base : Nat} {spare : Nat → Bool} {held : Bool}
    (ht : P.underlying t = some (.array n e)) (he : P.underlying e = some (.array m f)) (hce : P.cellsOf e = m) (hcf : P.cellsOf f = 1)
    (leaf : ∀ fuel cs x, DataW.trod (fun _ => ()) P w base spare held fuel f cs = some x → cs = [valOf x.1])
    (h : DataW.trod (fun _ => ()) P w base spare held fuel t cs = some x) :
    ∃ rows : List (DataW Unit), x.1 = .agg rows ∧ ∀ i j, i < n → j < m → ∃ row d, rows[i]? = some (.agg row) ∧ row[j]? = some d ∧ cs[i * m + j]? = some (valOf d) := by
  obtain ⟨xs, m', rfl, rfl, hl, hn, hi⟩ := DataW.trod_array ht h
  refine ⟨_, rfl, fun i j hin hjm => ?_⟩
  have h1 := hi i hin
  obtain ⟨y, hy⟩ : ∃ y, xs[i]? = some y := ⟨xs[i], by simp [hn, hin]⟩
  rw [hy] at h1
  obtain ⟨ys, m2, rfl, rfl, hl2, hm, hj⟩ := DataW.trod_array he h1
  have h2 := hj j hjm
  obtain ⟨z, hz⟩ : ∃ z, ys[j]? = some z := ⟨ys[j], by simp [hm, hjm]⟩
  rw [hz] at h2
  have h3 := leaf _ _ _ h2
  refine ⟨ys.map (·.1), z.1, by simp [hy], by simp [hz], ?_⟩
  rw [hcf, hce] at h3
  have h4 := congrArg (fun l => l[0]?) h3
  simp at h4
  simpa [List.getElem?_take, List.getElem?_drop, hjm] using h4
theorem leaf_bool {P : Program} {w : World} {f : TypeId} (hf : P.underlying f = some .bool) {base : Nat} {spare : Nat → Bool} {held : Bool} :
    ∀ fuel cs (x : DataW Unit × List MemPlace), DataW.trod (fun _ => ()) P w base spare held fuel f cs = some x → cs = [valOf x.1] := by
  intro fuel cs x h
  obtain ⟨b, rfl, rfl⟩ := DataW.trod_bool hf h
  rfl
theorem leaf_int {P : Program} {w : World} {f : TypeId} {k : IntKind} (hf : P.underlying f = some (.int k)) {base : Nat} {spare : Nat → Bool} {held : Bool} :
    ∀ fuel cs (x : DataW Unit × List MemPlace), DataW.trod (fun _ => ()) P w base spare held fuel f cs = some x → cs = [valOf x.1] := by
  intro fuel cs x h
  obtain ⟨b, rfl, rfl, _⟩ := DataW.trod_int hf h
  rfl
theorem six {i : Nat} (h : i < 6) : i = 0 ∨ i = 1 ∨ i = 2 ∨ i = 3 ∨ i = 4 ∨ i = 5 := by omega
theorem gFits : Tryd.prog.globalNamed "padlock/lock.fits" = some 0 := by kernel_rfl
theorem gJoins : Tryd.prog.globalNamed "padlock/lock.joins" = some 1 := by kernel_rfl
theorem gFitsT : (Tryd.prog.globals[0]?).map (·.type) = some 52 := by kernel_rfl
theorem gJoinsT : (Tryd.prog.globals[1]?).map (·.type) = some 55 := by kernel_rfl
theorem fits_head {W : World} {rest : List (String × DataW Unit)} {ps : List MemPlace} (h : DataW.LaidVars Tryd.prog W (("padlock/lock.fits", Rows.laid_padlock_lock_fits) :: rest) ps) : TabFits W ∧ ∃ q, DataW.LaidVars Tryd.prog W rest q := by
  obtain ⟨g, t, cs, fuel, p, q, hg, ht, hvar, hd, hr, _⟩ := h
  obtain rfl := Option.some.inj (gFits.symm.trans hg)
  obtain rfl := Option.some.inj (gFitsT.symm.trans ht)
  refine ⟨fun i j hi hj => ?_, q, hr⟩
  obtain ⟨rows, e, H⟩ := arr2 Tryd.underlying52 Tryd.underlying51 (by kernel_rfl) (by kernel_rfl) (leaf_bool Tryd.underlying4) hd
  obtain ⟨row, d, h1, h2, h3⟩ := H i j hi hj
  rw [World.var?_cell gFits hvar]
  rw [Array.getElem?_toList] at h3
  rw [h3]
  simp only [Rows.laid_padlock_lock_fits, DataW.agg.injEq] at e
  subst e
  rcases six hi with rfl | rfl | rfl | rfl | rfl | rfl <;> simp at h1 <;> subst h1 <;> rcases six hj with rfl | rfl | rfl | rfl | rfl | rfl <;> simp at h2 <;> subst h2 <;> rfl
theorem joins_head {W : World} {rest : List (String × DataW Unit)} {ps : List MemPlace} (h : DataW.LaidVars Tryd.prog W (("padlock/lock.joins", Rows.laid_padlock_lock_joins) :: rest) ps) : TabJoins W ∧ ∃ q, DataW.LaidVars Tryd.prog W rest q := by
  obtain ⟨g, t, cs, fuel, p, q, hg, ht, hvar, hd, hr, _⟩ := h
  obtain rfl := Option.some.inj (gJoins.symm.trans hg)
  obtain rfl := Option.some.inj (gJoinsT.symm.trans ht)
  refine ⟨fun i j hi hj => ?_, q, hr⟩
  obtain ⟨rows, e, H⟩ := arr2 Tryd.underlying55 Tryd.underlying54 (by kernel_rfl) (by kernel_rfl) (leaf_int Tryd.underlying3) hd
  obtain ⟨row, d, h1, h2, h3⟩ := H i j hi hj
  rw [World.var?_cell gJoins hvar]
  rw [Array.getElem?_toList] at h3
  rw [h3]
  simp only [Rows.laid_padlock_lock_joins, DataW.agg.injEq] at e
  subst e
  rcases six hi with rfl | rfl | rfl | rfl | rfl | rfl <;> simp at h1 <;> subst h1 <;> rcases six hj with rfl | rfl | rfl | rfl | rfl | rfl <;> simp at h2 <;> subst h2 <;> rfl
theorem tabs_fits {W : World} (h : laidMetH Tryd.prog Rows.lockFitsRow.laid W) : TabFits W := by
  obtain ⟨ps, h, _⟩ := h
  exact (fits_head h).1
theorem tabs_joins {W : World} (h : laidMetH Tryd.prog Rows.lockJoinsRow.laid W) : TabJoins W := by
  obtain ⟨ps, h, _⟩ := h
  exact (joins_head h).1
theorem tabs_both {W : World} (h : laidMetH Tryd.prog Rows.lockChecksRow.laid W) : TabFits W ∧ TabJoins W := by
  obtain ⟨ps, h, _⟩ := h
  obtain ⟨h1, q, h2⟩ := fits_head h
  exact ⟨h1, (joins_head h2).1⟩
end Go.Proofs.YtkehmidldcggcaaDoor
