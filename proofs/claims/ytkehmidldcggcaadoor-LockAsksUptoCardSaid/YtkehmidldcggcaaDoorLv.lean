/- What Ask answers, as lists. -/
import Derived.Test.YtkehmidldcggcaaDoorLo
set_option linter.unusedSimpArgs false
set_option linter.unusedVariables false
namespace Go.Proofs.YtkehmidldcggcaaDoor
/-- What is answered to a lock that may be asked for. -/
def askX (l1 : List LK) (x : LK) : LK := if 0 < modeM x.t x.s l1 then ⟨x.t, x.s, joinB (modeM x.t x.s l1) x.m⟩ else x
def askR (l1 l2 : List LK) (x : LK) : (List LK × List LK) × Bool × Int :=
  if 0 < modeM x.t x.s l1 ∧ (askX l1 x).m = modeM x.t x.s l1 then ((l1, l2), true, 0)
  else if firstM l1 (l2 ++ [askX l1 x]) l2.length (askX l1 x) = true then
    (if 200 < (haveM (askX l1 x) l1).length + l2.length then (([], []), false, 10) else ((haveM (askX l1 x) l1, l2), true, 0))
  else if 200 < l1.length + (l2.length + 1) then (([], []), false, 10) else ((l1, l2 ++ [askX l1 x]), false, 0)
open Classical in
noncomputable def askM (l1 l2 : List LK) (x : LK) : (List LK × List LK) × Bool × Int :=
  if ¬ lockGood l1 l2 then (([], []), false, 11) else if shapeM x ≠ 0 then (([], []), false, shapeM x) else if l2.any (sameX x) = true then (([], []), false, 9) else askR l1 l2 x
theorem ask_bad {l1 l2 : List LK} {x : LK} (h : ¬ lockGood l1 l2) : askM l1 l2 x = (([], []), false, 11) := by unfold askM; rw [if_pos h]
theorem ask_shape {l1 l2 : List LK} {x : LK} (h : lockGood l1 l2) (h2 : shapeM x ≠ 0) : askM l1 l2 x = (([], []), false, shapeM x) := by unfold askM; rw [if_neg (fun n => n h), if_pos h2]
theorem ask_twice {l1 l2 : List LK} {x : LK} (h : lockGood l1 l2) (h2 : shapeM x = 0) (h3 : l2.any (sameX x) = true) : askM l1 l2 x = (([], []), false, 9) := by unfold askM; rw [if_neg (fun n => n h), if_neg (fun n => n h2), if_pos h3]
theorem ask_rest {l1 l2 : List LK} {x : LK} (h : lockGood l1 l2) (h2 : shapeM x = 0) (h3 : l2.any (sameX x) = false) : askM l1 l2 x = askR l1 l2 x := by unfold askM; rw [if_neg (fun n => n h), if_neg (fun n => n h2), if_neg (by simp [h3])]
theorem ask_had {l1 l2 : List LK} {x : LK} (h : 0 < modeM x.t x.s l1) (h2 : joinB (modeM x.t x.s l1) x.m = modeM x.t x.s l1) : askR l1 l2 x = ((l1, l2), true, 0) := by
  unfold askR askX; rw [if_pos h, if_pos ⟨h, h2⟩]
theorem ask_else {l1 l2 : List LK} {x x' : LK} (hx : askX l1 x = x') (h : ¬(0 < modeM x.t x.s l1 ∧ x'.m = modeM x.t x.s l1)) : askR l1 l2 x =
    if firstM l1 (l2 ++ [x']) l2.length x' = true then (if 200 < (haveM x' l1).length + l2.length then (([], []), false, 10) else ((haveM x' l1, l2), true, 0))
    else if 200 < l1.length + (l2.length + 1) then (([], []), false, 10) else ((l1, l2 ++ [x']), false, 0) := by
  unfold askR; rw [hx, if_neg h]
def AskPost (w : World) (r : (List LK × List LK) × Bool × Int) (e : Ending) (w' : World) : Prop :=
  (∃ b1 b2 d1 d2, e = .returned (.tuple #[.agg #[.slice b1 r.1.1.length d1, .slice b2 r.1.2.length d2], .bool r.2.1, .int .i64 r.2.2]) ∧ LksAt w' b1 r.1.1 ∧ LksAt w' b2 r.1.2) ∧ Go.RowKit.Below w.heap.size w w'
end Go.Proofs.YtkehmidldcggcaaDoor
