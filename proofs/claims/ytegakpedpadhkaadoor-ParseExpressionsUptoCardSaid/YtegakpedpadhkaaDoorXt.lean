/- How ops that came in read, and their bulk. -/
import Derived.Test.YtegakpedpadhkaaDoorXs
import Derived.Test.YtegakpedpadhkaaDoorXf
import Derived.Deep.Strs
set_option linter.unusedSimpArgs false
set_option linter.unusedVariables false
namespace Go.Proofs.YtegakpedpadhkaaDoor
open Go.ChangeShapes Go.WideShapes Go.ChangeAt Go.RowKit
theorem bulk_one {H : Type} (d : DataW H) : 1 ≤ Rows.uptoBulk d := by
  cases d with
  | lit l => cases l <;> simp [Rows.uptoBulk]
  | nil => simp [Rows.uptoBulk]
  | ptr d => simp [Rows.uptoBulk]
  | slice elems spare => simp [Rows.uptoBulk]
  | agg parts => simp [Rows.uptoBulk]
  | iface t d => simp [Rows.uptoBulk]
  | map entries => simp [Rows.uptoBulk]
  | held h => simp [Rows.uptoBulk]
theorem bulk_length {H : Type} : ∀ l : List (DataW H), l.length ≤ Rows.uptoBulkAll l
  | [] => by simp [Rows.uptoBulkAll]
  | x :: r => by have := bulk_one x; have := bulk_length r; simp only [Rows.uptoBulkAll, List.length_cons]; omega
theorem bulk_slice {H : Type} (ds rest : List (DataW H)) : ds.length + 1 ≤ Rows.uptoBulk (.slice ds rest) := by
  have := bulk_length ds
  simp only [Rows.uptoBulk]; omega
theorem bulk_bound {H : Type} {l : List (DataW H)} (hk : Rows.uptoSmall H l = true) : Rows.uptoBulkAll l ≤ 1048576 := of_decide_eq_true hk
theorem cellsOp : Tryd.prog.cellsOf 65 = 5 := by kernel_rfl
theorem cellsValue : Tryd.prog.cellsOf 63 = 3 := by kernel_rfl
theorem list3 {α : Type} {cs : List α} (h : cs.length = 3) : ∃ a b c, cs = [a, b, c] := by
  match cs, h with
  | [a, b, c], _ => exact ⟨a, b, c, rfl⟩
theorem list5 {α : Type} {cs : List α} (h : cs.length = 5) : ∃ a b c d e, cs = [a, b, c, d, e] := by
  match cs, h with
  | [a, b, c, d, e], _ => exact ⟨a, b, c, d, e, rfl⟩
set_option maxRecDepth 100000 in
theorem leaf_value {H : Type} {E : TypeId × Value → H} {w : World} {base : Nat} {spare : Nat → Bool} {held : Bool} (fuel : Nat) (cs : List Value) (x : DataW H × List MemPlace)
    (h : DataW.trod E Tryd.prog w base spare held fuel 63 cs = some x) : ∃ (k n : Int) (s : ByteArray), cs = [.int .i64 k, .int .i64 n, .string s] ∧ s.size ≤ maxLen := by
  obtain ⟨y0, y1, y2, n, _, hl, h0, h1, h2⟩ := Deep.trod_struct3 Tryd.underlying63 h
  rw [cellsValue] at hl
  obtain ⟨c0, c1, c2, rfl⟩ := list3 hl
  obtain ⟨t, e0, _, _⟩ := DataW.trod_int Tryd.underlying3 h0
  obtain ⟨m, e1, _, _⟩ := DataW.trod_int Tryd.underlying3 h1
  obtain ⟨s, e2, _, w2⟩ := DataW.trod_string Tryd.underlying9 h2
  rw [show Tryd.prog.cellsOf 3 = 1 by kernel_rfl] at e0 e1
  rw [show Tryd.prog.cellsOf 9 = 1 by kernel_rfl] at e2
  simp at e0 e1 e2
  subst e0 e1 e2
  exact ⟨t, m, s, rfl, w2⟩
set_option maxRecDepth 100000 in
theorem leaf_op {H : Type} {E : TypeId × Value → H} {w : World} {base : Nat} {spare : Nat → Bool} {held : Bool} (fuel : Nat) (cs : List Value) (x : DataW H × List MemPlace)
    (h : DataW.trod E Tryd.prog w base spare held fuel 65 cs = some x) : ∃ y : OP, cs = y.cells ∧ y.vs.size ≤ maxLen ∧ y.nm.size ≤ maxLen := by
  obtain ⟨y0, y1, y2, n, _, hl, h0, h1, h2⟩ := Deep.trod_struct3 Tryd.underlying65 h
  rw [cellsOp] at hl
  obtain ⟨c0, c1, c2, c3, c4, rfl⟩ := list5 hl
  obtain ⟨k, e0, _, _⟩ := DataW.trod_int Tryd.underlying3 h0
  obtain ⟨vk, vn, vs, e1, w1⟩ := leaf_value _ _ _ h1
  obtain ⟨s, e2, _, w2⟩ := DataW.trod_string Tryd.underlying9 h2
  rw [show Tryd.prog.cellsOf 3 = 1 by kernel_rfl] at e0
  rw [cellsValue] at e1
  rw [show Tryd.prog.cellsOf 9 = 1 by kernel_rfl] at e2
  simp at e0 e1 e2
  obtain ⟨e1, e3, e4⟩ := e1
  subst e0 e1 e2 e3 e4
  exact ⟨⟨k, vk, vn, vs, s⟩, rfl, w1, w2⟩
set_option maxRecDepth 100000 in
theorem open_ops {H : Type} {E : TypeId × Value → H} {w : World} {base : Nat} {spare : Nat → Bool} {held : Bool} {b0 : Nat} {v : Value} {d : DataW H} {p : List MemPlace}
    (hv : Value.okWide Tryd.prog w .any b0 29 v) (h : DataW.Trod E Tryd.prog w base spare held 29 v d p) :
    ∃ (a : Option Addr) (l : List OP) (cap : Nat), v = .slice a l.length cap ∧ OpsAt w a l ∧ (a = none → cap = 0) ∧ (∀ y ∈ l, y.vs.size ≤ maxLen ∧ y.nm.size ≤ maxLen) ∧ l.length ≤ Rows.uptoBulk d := by
  obtain ⟨f, hf⟩ := h
  obtain ⟨a, l, cap, h1, h2, _, _, h3, h5⟩ := open_list OP.cells (fun y _ => y.vs.size ≤ maxLen ∧ y.nm.size ≤ maxLen) Tryd.underlying29 cellsOp (by omega) (fun f cs x h => leaf_op f cs x h) hf
  have hv1 : v = .slice a l.length cap := by
    obtain ⟨a', n', c', rfl⟩ := okWide_slice Tryd.underlying29 hv
    exact List.head_eq_of_cons_eq (show [Value.slice a' n' c'] = [Value.slice a l.length cap] from h1)
  refine ⟨a, l, cap, hv1, h2, h3, ?_, ?_⟩
  · intro y hy
    obtain ⟨i, hi⟩ := List.mem_iff_getElem?.1 hy
    rcases h5 with ⟨_, rfl, _⟩ | ⟨ds, rest, _, _, h6⟩
    · simp at hi
    · exact (h6 i y hi).choose_spec.2
  · rcases h5 with ⟨_, rfl, _⟩ | ⟨ds, rest, h7, h8, _⟩
    · exact Nat.zero_le _
    · simp only at h7; rw [h7, ← h8]; have := bulk_slice ds rest; omega
end Go.Proofs.YtegakpedpadhkaaDoor
