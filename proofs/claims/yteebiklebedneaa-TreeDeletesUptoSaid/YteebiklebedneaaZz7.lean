/- Texts of the law TreeDeletes, part 7: lemmas; what is proved stands in the last text. -/
import Derived.Test.YteebiklebedneaaZz6
import Derived.Test.YteebiklebedneaaZz5
import Derived.Deep.Strs
set_option linter.unusedSimpArgs false
set_option linter.unusedVariables false
/- How a tree that came in reads. -/
namespace Go.Proofs.Yteebiklebedneaa
open Go.ChangeShapes Go.WideShapes Go.ChangeAt Go.RowKit Go.AM
theorem bulk_mem {H : Type} : ∀ {l : List (DataW H)} {d : DataW H}, d ∈ l → Rows.uptoBulk d ≤ Rows.uptoBulkAll l
  | x :: r, d, h => by
    rcases List.mem_cons.1 h with rfl | h
    · simp only [Rows.uptoBulkAll]; omega
    · have := bulk_mem h; simp only [Rows.uptoBulkAll]; omega
/-- What holds of an element by its own bulk holds of all by the slice's. -/
theorem bulk_all {H α : Type} {l : List α} {f : α → Nat} {d : DataW H} (h : (l = [] ∧ d = .nil) ∨ ∃ ds rest, d = .slice ds rest ∧ ds.length = l.length ∧ ∀ (i : Nat) y, l[i]? = some y → ∃ d, ds[i]? = some d ∧ f y ≤ Rows.uptoBulk d) : ∀ y ∈ l, f y ≤ Rows.uptoBulk d := by
  intro c hc
  obtain ⟨i, hi⟩ := List.mem_iff_getElem?.1 hc
  rcases h with ⟨rfl, _⟩ | ⟨ds, rest, rfl, _, h6⟩
  · simp at hi
  · obtain ⟨d, h1, h2⟩ := h6 i c hi
    have := bulk_mem (List.mem_of_getElem? h1)
    simp only [Rows.uptoBulk]; omega
theorem cellsU8 : Try.prog.cellsOf 5 = 1 := by kernel_rfl
theorem cellsKy : Try.prog.cellsOf 30 = 1 := by kernel_rfl
theorem cellsIn : Try.prog.cellsOf 3 = 1 := by kernel_rfl
theorem leaf_int1 {H : Type} {E : TypeId × Value → H} {w : World} {base : Nat} {spare : Nat → Bool} {held : Bool} (fuel : Nat) (cs : List Value) (x : DataW H × List MemPlace)
    (h : DataW.trod E Try.prog w base spare held fuel 3 cs = some x) : ∃ y : Int, Reps w (zAll w) [] (eI y) cs ∧ (∀ v ∈ cs, v.oneCell' = true) ∧ True := by
  obtain ⟨n, rfl, _, _⟩ := DataW.trod_int Try.underlying3 h
  exact ⟨n, .cons (.r _ _) .nil, by simp [Value.oneCell'], trivial⟩
theorem leaf_ky {H : Type} {E : TypeId × Value → H} {w : World} {base : Nat} {spare : Nat → Bool} {held : Bool} (fuel : Nat) (cs : List Value) (x : DataW H × List MemPlace)
    (h : DataW.trod E Try.prog w base spare held fuel 30 cs = some x) : ∃ y : Ky, Reps w (zAll w) [] (eKy y) cs ∧ (∀ v ∈ cs, v.oneCell' = true) ∧ y.length ≤ Rows.uptoBulk x.1 := by
  obtain ⟨u, l, h1, h2, h4, h3⟩ := open_ro eByte (fun _ _ => True) true Try.underlying30 cellsU8 (by omega) leaf_u8 h
  subst h1
  exact ⟨l, .cons h2 .nil, by simpa using h4, bulk_of h3⟩
theorem list5 {α : Type} {l : List α} (h : l.length = 5) : ∃ a b c d e, l = [a, b, c, d, e] := by
  match l, h with
  | [a, b, c, d, e], _ => exact ⟨a, b, c, d, e, rfl⟩
def okP (p : PG) (n : Nat) : Prop := p.keys.length ≤ n ∧ p.kids.length ≤ n ∧ p.high.length ≤ n ∧ ∀ k ∈ p.keys, k.length ≤ n
theorem cellsPg : Try.prog.cellsOf 52 = 5 := by kernel_rfl
set_option maxRecDepth 100000 in
theorem leaf_pg {H : Type} {E : TypeId × Value → H} {w : World} {base : Nat} {spare : Nat → Bool} {held : Bool} (fuel : Nat) (cs : List Value) (x : DataW H × List MemPlace)
    (h : DataW.trod E Try.prog w base spare held fuel 52 cs = some x) : ∃ y : PG, Reps w (zAll w) [] (eP y) cs ∧ (∀ v ∈ cs, v.oneCell' = true) ∧ okP y (Rows.uptoBulk x.1) := by
  obtain ⟨xs, n, _, hx, hl, hxl, hff⟩ := DataW.trod_struct Try.underlying52 h
  rw [cellsPg] at hl
  obtain ⟨c0, c1, c2, c3, c4, rfl⟩ := list5 hl
  obtain ⟨x0, x1, x2, x3, x4, rfl⟩ := list5 (l := xs) hxl
  have cb : Try.prog.cellsOf 4 = 1 := by kernel_rfl
  have ck : Try.prog.cellsOf 49 = 1 := by kernel_rfl
  have ci : Try.prog.cellsOf 50 = 1 := by kernel_rfl
  have h0 : DataW.trod E Try.prog w base spare held n 4 (([c0, c1, c2, c3, c4].drop 0).take (Try.prog.cellsOf 4)) = some x0 := hff 0 _ rfl
  rw [cb] at h0
  have h1 : DataW.trod E Try.prog w base spare held n 49 (([c0, c1, c2, c3, c4].drop 1).take (Try.prog.cellsOf 49)) = some x1 := hff 1 _ rfl
  rw [ck] at h1
  have h2 : DataW.trod E Try.prog w base spare held n 50 (([c0, c1, c2, c3, c4].drop 2).take (Try.prog.cellsOf 50)) = some x2 := hff 2 _ rfl
  rw [ci] at h2
  have h3 : DataW.trod E Try.prog w base spare held n 30 (([c0, c1, c2, c3, c4].drop 3).take (Try.prog.cellsOf 30)) = some x3 := hff 3 _ rfl
  rw [cellsKy] at h3
  have h4 : DataW.trod E Try.prog w base spare held n 3 (([c0, c1, c2, c3, c4].drop 4).take (Try.prog.cellsOf 3)) = some x4 := hff 4 _ rfl
  rw [cellsIn] at h4
  obtain ⟨lf, e0, _⟩ := DataW.trod_bool Try.underlying4 h0
  obtain ⟨u1, lk, e1, r1, o1, g1⟩ := open_ro eKy (fun y d => y.length ≤ Rows.uptoBulk d) true Try.underlying49 cellsKy (by omega) leaf_ky h1
  obtain ⟨u2, li, e2, r2, o2, g2⟩ := open_ro eI (fun _ _ => True) true Try.underlying50 cellsIn (by omega) leaf_int1 h2
  obtain ⟨u3, lh, e3, r3, o3, g3⟩ := open_ro eByte (fun _ _ => True) true Try.underlying30 cellsU8 (by omega) leaf_u8 h3
  obtain ⟨nx, e4, _, _⟩ := DataW.trod_int Try.underlying3 h4
  simp at e0 e1 e2 e3 e4
  subst e0 e1 e2 e3 e4
  refine ⟨⟨lf, lk, li, lh, nx⟩, .cons (.r _ _) (.cons r1 (.cons r2 (.cons r3 (.cons (.r _ _) .nil)))), (by
    intro v hv
    simp only [List.mem_cons, List.not_mem_nil, or_false] at hv
    rcases hv with rfl | rfl | rfl | rfl | rfl <;> first | rfl | assumption), ?_⟩
  rw [hx]
  have b1 := bulk_of g1
  have b2 := bulk_of g2
  have b3 := bulk_of g3
  have b4 := bulk_all g1
  simp only [List.map_cons, List.map_nil, Rows.uptoBulk, Rows.uptoBulkAll]
  exact ⟨by simp only; omega, by simp only; omega, by simp only; omega, fun k hk => by have := b4 k hk; omega⟩
theorem cellsTr : Try.prog.cellsOf 24 = 2 := by kernel_rfl
set_option maxRecDepth 100000 in
/-- A tree that came in. -/
theorem open_tree {H : Type} {enc : TypeId × Value → H} {w : World} {base : Nat} {spare : Nat → Bool} {held : Bool} {b0 : Nat} {v : Value} {d : DataW H} {p : List MemPlace}
    (hv : Value.okWide Try.prog w .any b0 24 v) (h : DataW.Trod enc Try.prog w base spare held 24 v d p) :
    ∃ (ps : List PG) (root : Int), Rep w (zAll w) [] (.agg [.ro true 5 (ps.map eP), .r (.int .i64 root)]) v ∧ (Rows.uptoBulk d ≤ 1048576 → okPs2 ps) := by
  obtain ⟨c0, c1, y0, y1, m, rfl, rfl, _, h0, h1⟩ := Joins.open_agg2 Try.underlying24 (by kernel_rfl) cellsTr hv h
  obtain ⟨u0, l, e0, r0, o0, g0⟩ := open_ro eP (fun y d => okP y (Rows.uptoBulk d)) true Try.underlying22 cellsPg (by omega) leaf_pg h0
  obtain ⟨rt, e1, _, _⟩ := DataW.trod_int Try.underlying3 h1
  simp at e0 e1
  subst e0 e1
  have hr : Reps w (zAll w) [] [.ro true 5 (l.map eP), .r (.int .i64 rt)] [c0, .int .i64 rt] := .cons r0 (.cons (.r _ _) .nil)
  refine ⟨l, rt, .agg _ _ _ hr.1 hr.2, fun hb => ?_⟩
  simp only [Rows.uptoBulk, Rows.uptoBulkAll] at hb
  have b0 := bulk_of g0
  refine ⟨by omega, fun q hq => ?_⟩
  obtain ⟨i, hi⟩ := List.mem_iff_getElem?.1 hq
  rcases g0 with ⟨rfl, _⟩ | ⟨ds, rest, hd, _, h6⟩
  · simp at hi
  · obtain ⟨d, k1, k2, k3, k4, k5⟩ := h6 i q hi
    have k6 := bulk_mem (List.mem_of_getElem? k1)
    rw [hd] at hb
    simp only [Rows.uptoBulk] at hb
    exact ⟨by omega, by omega, by omega, fun k hk => by have := k5 k hk; omega⟩
end Go.Proofs.Yteebiklebedneaa
