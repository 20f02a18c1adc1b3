/- How bytes that came in read; bulk. -/
import Derived.Test.YtbedhaagngomgaaRd
import Derived.Test.YtbedhaagngomgaaQs
import Derived.Test.YtbedhaagngomgaaQb
import Derived.JoinedCond
import Derived.SizedLaws
set_option linter.unusedSimpArgs false
set_option linter.unusedVariables false
namespace Go.Proofs.Ytbedhaagngomgaa
open Go.ChangeShapes Go.WideShapes Go.ChangeAt Go.RowKit Go.AM
theorem bulk_one {H : Type} (d : DataW H) : 1 ≤ Rows.uptoBulk d := by
  cases d with
  | lit l => cases l <;> simp [Rows.uptoBulk]
  | nil => simp [Rows.uptoBulk]
  | ptr d => simp [Rows.uptoBulk]
  | slice elems spare => simp [Rows.uptoBulk]
  | agg parts => simp [Rows.uptoBulk]
  | iface t d => simp [Rows.uptoBulk]
  | map entries => simp [Rows.uptoBulk]
  | held h => simp [Rows.uptoBulk]
theorem bulk_length {H : Type} : ∀ l : List (DataW H), l.length ≤ Rows.uptoBulkAll l
  | [] => by simp [Rows.uptoBulkAll]
  | x :: r => by have := bulk_one x; have := bulk_length r; simp only [Rows.uptoBulkAll, List.length_cons]; omega
theorem bulk_slice {H : Type} (ds rest : List (DataW H)) : ds.length + 1 ≤ Rows.uptoBulk (.slice ds rest) := by
  have := bulk_length ds
  simp only [Rows.uptoBulk]; omega
theorem bulk_bound {H : Type} {l : List (DataW H)} (hk : Rows.uptoSmall H l = true) : Rows.uptoBulkAll l ≤ 1048576 := of_decide_eq_true hk
theorem bulk_of {H α : Type} {l : List α} {R : α → DataW H → Prop} {d : DataW H} (h : (l = [] ∧ d = .nil) ∨ ∃ ds rest, d = .slice ds rest ∧ ds.length = l.length ∧ ∀ (i : Nat) y, l[i]? = some y → ∃ d, ds[i]? = some d ∧ R y d) : l.length ≤ Rows.uptoBulk d := by
  rcases h with ⟨rfl, _⟩ | ⟨ds, rest, rfl, h, _⟩
  · exact Nat.zero_le _
  · have := bulk_slice ds rest; omega
theorem leaf_u8 {H : Type} {E : TypeId × Value → H} {w : World} {base : Nat} {spare : Nat → Bool} {held : Bool} (fuel : Nat) (cs : List Value) (x : DataW H × List MemPlace)
    (h : DataW.trod E Try.prog w base spare held fuel 5 cs = some x) : ∃ y : UInt8, Reps w (zAll w) [] (eByte y) cs ∧ (∀ v ∈ cs, v.oneCell' = true) ∧ True := by
  obtain ⟨n, rfl, _, wf⟩ := DataW.trod_int Try.underlying5 h
  have hb : 0 ≤ n ∧ n ≤ 255 := by simpa [Lit.wf, IntKind.min, IntKind.max, IntKind.signed, IntKind.bits] using wf
  refine ⟨UInt8.ofNat n.toNat, ?_, by simp [Value.oneCell'], trivial⟩
  have : ((UInt8.ofNat n.toNat).toNat : Int) = n := by
    rw [UInt8.toNat_ofNat_of_lt' (by simp [UInt8.size]; omega)]; omega
  rw [eByte, this]
  exact rep1 (.r _ _)
/-- Bytes that came in. -/
theorem open_bytes {H : Type} {E : TypeId × Value → H} {w : World} {base : Nat} {spare : Nat → Bool} {held : Bool} {b0 : Nat} {v : Value} {d : DataW H} {p : List MemPlace}
    (hv : Value.okWide Try.prog w .any b0 38 v) (h : DataW.Trod E Try.prog w base spare held 38 v d p) :
    ∃ l : List UInt8, Rep w (zAll w) [] (.ro true 1 (l.map eByte)) v ∧ l.length ≤ Rows.uptoBulk d ∧ (l = [] ∨ ∃ el sp, d = .slice el sp ∧ el.length = l.length) := by
  obtain ⟨f, hf⟩ := h
  obtain ⟨u, l, h1, h2, _, h3⟩ := open_ro eByte (fun _ _ => True) true Try.underlying38 (show Try.prog.cellsOf 5 = 1 by kernel_rfl) (by omega) leaf_u8 hf
  obtain ⟨a', n', c', rfl⟩ := okWide_slice Try.underlying38 hv
  obtain rfl : Value.slice a' n' c' = u := List.head_eq_of_cons_eq (show [Value.slice a' n' c'] = [u] from h1)
  exact ⟨l, h2, bulk_of h3, h3.imp (fun h => h.1) (fun ⟨ds, rest, h4, h5, _⟩ => ⟨ds, rest, h4, h5⟩)⟩
end Go.Proofs.Ytbedhaagngomgaa
