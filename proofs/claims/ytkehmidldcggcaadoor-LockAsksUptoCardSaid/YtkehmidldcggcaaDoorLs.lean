/- How lock states that came in read, and their bulk. -/
import Derived.Test.YtkehmidldcggcaaDoorLr
import Derived.Test.YtkehmidldcggcaaDoorSl
import Derived.Test.YtkehmidldcggcaaDoorLc
import Derived.Deep.Strs
set_option linter.unusedSimpArgs false
set_option linter.unusedVariables false
namespace Go.Proofs.YtkehmidldcggcaaDoor
open Go.ChangeShapes Go.WideShapes Go.ChangeAt Go.RowKit
theorem bulk_one {H : Type} (d : DataW H) : 1 ≤ Rows.uptoBulk d := by
  cases d with
  | lit l => cases l <;> simp [Rows.uptoBulk]
  | nil => simp [Rows.uptoBulk]
  | ptr d => simp [Rows.uptoBulk]
  | slice elems spare => simp [Rows.uptoBulk]
  | agg parts => simp [Rows.uptoBulk]
  | iface t d => simp [Rows.uptoBulk]
  | map entries => simp [Rows.uptoBulk]
  | held h => simp [Rows.uptoBulk]
theorem bulk_length {H : Type} : ∀ l : List (DataW H), l.length ≤ Rows.uptoBulkAll l
  | [] => by simp [Rows.uptoBulkAll]
  | x :: r => by have := bulk_one x; have := bulk_length r; simp only [Rows.uptoBulkAll, List.length_cons]; omega
theorem bulk_slice {H : Type} (ds rest : List (DataW H)) : ds.length + 1 ≤ Rows.uptoBulk (.slice ds rest) := by
  have := bulk_length ds
  simp only [Rows.uptoBulk]; omega
theorem bulk_bound {H : Type} {l : List (DataW H)} (hk : Rows.uptoSmall H l = true) : Rows.uptoBulkAll l ≤ 1048576 := of_decide_eq_true hk
theorem cellsLock : Tryd.prog.cellsOf 36 = 3 := by kernel_rfl
theorem cellsLocks : Tryd.prog.cellsOf 30 = 2 := by kernel_rfl
set_option maxRecDepth 100000 in
theorem leaf_lock {H : Type} {E : TypeId × Value → H} {w : World} {base : Nat} {spare : Nat → Bool} {held : Bool} (fuel : Nat) (cs : List Value) (x : DataW H × List MemPlace)
    (h : DataW.trod E Tryd.prog w base spare held fuel 36 cs = some x) : ∃ y : LK, cs = y.cells ∧ y.s.size ≤ maxLen := by
  obtain ⟨y0, y1, y2, n, _, hl, h0, h1, h2⟩ := Deep.trod_struct3 Tryd.underlying36 h
  rw [cellsLock] at hl
  obtain ⟨c0, c1, c2, rfl⟩ : ∃ a b c, cs = [a, b, c] := by
    match cs, hl with
    | [a, b, c], _ => exact ⟨a, b, c, rfl⟩
  obtain ⟨t, e0, _, _⟩ := DataW.trod_int Tryd.underlying3 h0
  obtain ⟨s, e1, _, w1⟩ := DataW.trod_string Tryd.underlying9 h1
  obtain ⟨m, e2, _, _⟩ := DataW.trod_int Tryd.underlying3 h2
  rw [show Tryd.prog.cellsOf 3 = 1 by kernel_rfl] at e0 e2
  rw [show Tryd.prog.cellsOf 9 = 1 by kernel_rfl] at e1
  simp at e0 e1 e2
  subst e0 e1 e2
  exact ⟨⟨t, s, m⟩, rfl, w1⟩
theorem open_lks {H : Type} {E : TypeId × Value → H} {w : World} {base : Nat} {spare : Nat → Bool} {held : Bool} {fuel : Nat} {cs : List Value} {x : DataW H × List MemPlace}
    (h : DataW.trod E Tryd.prog w base spare held fuel 28 cs = some x) :
    ∃ (a : Option Addr) (l : List LK) (cap : Nat), cs = [.slice a l.length cap] ∧ LksAt w a l ∧ l.length ≤ cap ∧ (∀ y ∈ l, y.s.size ≤ maxLen) ∧ l.length ≤ Rows.uptoBulk x.1 := by
  obtain ⟨a, l, cap, h1, h2, h3, _, _, h5⟩ := open_list LK.cells (fun y _ => y.s.size ≤ maxLen) Tryd.underlying28 cellsLock (by omega) (fun f cs x h => leaf_lock f cs x h) h
  refine ⟨a, l, cap, h1, h2, h3, ?_, ?_⟩
  · intro y hy
    obtain ⟨i, hi⟩ := List.mem_iff_getElem?.1 hy
    rcases h5 with ⟨_, rfl, _⟩ | ⟨ds, rest, _, _, h6⟩
    · simp at hi
    · exact (h6 i y hi).choose_spec.2
  · rcases h5 with ⟨_, rfl, _⟩ | ⟨ds, rest, h7, h8, _⟩
    · exact Nat.zero_le _
    · rw [h7, ← h8]; have := bulk_slice ds rest; omega
set_option maxRecDepth 100000 in
theorem open_locks {H : Type} {enc : TypeId × Value → H} {w : World} {base : Nat} {spare : Nat → Bool} {held : Bool} {b0 : Nat} {v : Value} {d : DataW H} {p : List MemPlace}
    (hv : Value.okWide Tryd.prog w .any b0 30 v) (h : DataW.Trod enc Tryd.prog w base spare held 30 v d p) :
    ∃ (a1 a2 : Option Addr) (l1 l2 : List LK) (p1 p2 : Nat), v = .agg #[.slice a1 l1.length p1, .slice a2 l2.length p2] ∧ LksAt w a1 l1 ∧ LksAt w a2 l2 ∧ l1.length ≤ p1 ∧ l2.length ≤ p2 ∧
      (∀ y ∈ l1, y.s.size ≤ maxLen) ∧ (∀ y ∈ l2, y.s.size ≤ maxLen) ∧ l1.length + l2.length ≤ Rows.uptoBulk d := by
  obtain ⟨c0, c1, y0, y1, m, rfl, rfl, _, h0, h1⟩ := Joins.open_agg2 Tryd.underlying30 (by kernel_rfl) cellsLocks hv h
  obtain ⟨a1, l1, p1, e1, g1, k1, s1, b1⟩ := open_lks h0
  obtain ⟨a2, l2, p2, e2, g2, k2, s2, b2⟩ := open_lks h1
  simp at e1 e2
  subst e1 e2
  refine ⟨a1, a2, l1, l2, p1, p2, rfl, g1, g2, k1, k2, s1, s2, ?_⟩
  simp only [Rows.uptoBulk, Rows.uptoBulkAll]
  omega
set_option maxRecDepth 100000 in
theorem open_lock {H : Type} {enc : TypeId × Value → H} {w : World} {base : Nat} {spare : Nat → Bool} {held : Bool} {b0 : Nat} {v : Value} {d : DataW H} {p : List MemPlace}
    (hv : Value.okWide Tryd.prog w .any b0 36 v) (h : DataW.Trod enc Tryd.prog w base spare held 36 v d p) :
    ∃ x : LK, v = .agg #[.int .i64 x.t, .string x.s, .int .i64 x.m] ∧ x.s.size ≤ maxLen := by
  obtain ⟨c0, c1, c2, y0, y1, y2, m, rfl, _, _, h0, h1, h2⟩ := Joins.open_agg3 Tryd.underlying36 (by kernel_rfl) cellsLock hv h
  obtain ⟨k, e0, _, w0⟩ := DataW.trod_int Tryd.underlying3 h0
  obtain ⟨s, e1, _, w1⟩ := DataW.trod_string Tryd.underlying9 h1
  obtain ⟨n, e2, _, w2⟩ := DataW.trod_int Tryd.underlying3 h2
  simp at e0 e1 e2
  subst e0 e1 e2
  exact ⟨⟨k, s, n⟩, rfl, w1⟩
end Go.Proofs.YtkehmidldcggcaaDoor
