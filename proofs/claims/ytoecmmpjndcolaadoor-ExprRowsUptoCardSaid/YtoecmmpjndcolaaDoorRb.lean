/- How bytes that came in read; bulk. -/
import Derived.Test.YtoecmmpjndcolaaDoorRd
import Derived.Test.YtoecmmpjndcolaaDoorQs
import Derived.Test.YtoecmmpjndcolaaDoorQb
import Derived.JoinedCond
import Derived.SizedLaws
set_option linter.unusedSimpArgs false
set_option linter.unusedVariables false
namespace Go.Proofs.YtoecmmpjndcolaaDoor
open Go.ChangeShapes Go.WideShapes Go.ChangeAt Go.RowKit Go.AM
theorem bulk_one {H : Type} (d : DataW H) : 1 ≤ Rows.uptoBulk d := by
  cases d with
  | lit l => cases l <;> simp [Rows.uptoBulk]
  | nil => simp [Rows.uptoBulk]
  | ptr d => simp [Rows.uptoBulk]
  | slice elems spare => simp [Rows.uptoBulk]
  | agg parts => simp [Rows.uptoBulk]
  | iface t d => simp [Rows.uptoBulk]
  | map entries => simp [Rows.uptoBulk]
  | held h => simp [Rows.uptoBulk]
theorem bulk_length {H : Type} : ∀ l : List (DataW H), l.length ≤ Rows.uptoBulkAll l
  | [] => by simp [Rows.uptoBulkAll]
  | x :: r => by have := bulk_one x; have := bulk_length r; simp only [Rows.uptoBulkAll, List.length_cons]; omega
theorem bulk_slice {H : Type} (ds rest : List (DataW H)) : ds.length + 1 ≤ Rows.uptoBulk (.slice ds rest) := by
  have := bulk_length ds
  simp only [Rows.uptoBulk]; omega
theorem bulk_bound {H : Type} {l : List (DataW H)} (hk : Rows.uptoSmall H l = true) : Rows.uptoBulkAll l ≤ 1048576 := of_decide_eq_true hk
theorem bulk_of {H α : Type} {l : List α} {R : α → DataW H → Prop} {d : DataW H} (h : (l = [] ∧ d = .nil) ∨ ∃ ds rest, d = .slice ds rest ∧ ds.length = l.length ∧ ∀ (i : Nat) y, l[i]? = some y → ∃ d, ds[i]? = some d ∧ R y d) : l.length ≤ Rows.uptoBulk d := by
  rcases h with ⟨rfl, _⟩ | ⟨ds, rest, rfl, h, _⟩
  · exact Nat.zero_le _
  · have := bulk_slice ds rest; omega
end Go.Proofs.YtoecmmpjndcolaaDoor
