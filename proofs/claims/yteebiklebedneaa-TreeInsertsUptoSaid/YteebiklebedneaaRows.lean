/-
  No cell of these rows narrows 'for every input' (looked for: loops, veiled, ifaces, maps, wideKeys, modest, calm, conditions, laid).
  DERIVED. THE GIVEN ROWS OF THIS SEAT. 6 by the template 'for every input the law returns true; each argument reads behind the call as it read before'; 0 by the template 'total and deterministic' (their statements: YteebiklebedneaaTotals.lean).
  GIVEN WITH THE SEED: the statements are not yours to turn. If you find one false, say at which input.
  Laid BY PROGRAM, IN A SANDBOX (cutbox-rows.mjs): the forced cells as the released guide's own fill.sh prints them over the translation 6d7c3f3ac191d65d… (all of the seat's roots in one cut). By AI agents, Wed Nov 11 2026. No macro, syntax, notation, axiom, sorry.
-/
import Derived.Test.YteebiklebedneaaChecked
import GoSem.Claim
import GoSem.ClaimJoined
import GoSem.ClaimMapViews
import Derived.JoinedTies
import Derived.KernelRfl
namespace Go.Proofs.Yteebiklebedneaa
/- THE CELL 'sum', in the pinned program and in every row, IS THE sha256 OF THE DUMP (.gsa) THAT YteebiklebedneaaProg.lean LOADS. Nothing in Lean hashes anything: it is a label: what it is worth is what the hold of that sum in a sandbox is worth. -/
noncomputable def Try.pinned : Pinned := { name := "yteebiklebedneaa", sum := "6d7c3f3ac191d65d2e0a5e272359dda3963b180268e961fdbbf1d2ed7c11a57c", checked := Try.checked }
namespace Rows
def none {H : Type} : Left H := { results := [], args := [] }

/-- 'padlocklaw.TreeChecks': WHATEVER THE INPUT: true; the input reads as it did. -/
def treeChecksSpec : ChangeSpec := { name := "treeChecks", fn := fun _ => fun
  | [d] => { results := [.lit (.bool true)], args := [d] }
  | _ => none }
def treeChecksRow : OpenClaim := { program := "yteebiklebedneaa", sum := "6d7c3f3ac191d65d2e0a5e272359dda3963b180268e961fdbbf1d2ed7c11a57c", func := "padlock/padlocklaw.TreeChecks", spec := "treeChecks", inPlace := ["internal/bytealg.Compare"], recurses := true, apart := false }
def TreeChecksSaid : Prop := treeChecksRow.holds Try.pinned (OpenSpec.ofChange treeChecksSpec)

/-- ITS FALSE NEIGHBOUR: 'it returns false'. Refute it at one input. -/
def treeChecksWrong : ChangeSpec := { name := "treeChecks", fn := fun _ => fun
  | [d] => { results := [.lit (.bool false)], args := [d] }
  | _ => none }
def TreeChecksWrongFalsely : Prop := treeChecksRow.holds Try.pinned (OpenSpec.ofChange treeChecksWrong)

/-- 'padlocklaw.TreeFinds': WHATEVER THE INPUT: true; the input reads as it did. -/
def treeFindsSpec : ChangeSpec := { name := "treeFinds", fn := fun _ => fun
  | [d1, d2] => { results := [.lit (.bool true)], args := [d1, d2] }
  | _ => none }
def treeFindsRow : OpenClaim := { program := "yteebiklebedneaa", sum := "6d7c3f3ac191d65d2e0a5e272359dda3963b180268e961fdbbf1d2ed7c11a57c", func := "padlock/padlocklaw.TreeFinds", spec := "treeFinds", inPlace := ["internal/bytealg.Compare"], unfollowed := true, recurses := true, apart := false }
def TreeFindsSaid : Prop := treeFindsRow.holds Try.pinned (OpenSpec.ofChange treeFindsSpec)

/-- ITS FALSE NEIGHBOUR: 'it returns false'. Refute it at one input. -/
def treeFindsWrong : ChangeSpec := { name := "treeFinds", fn := fun _ => fun
  | [d1, d2] => { results := [.lit (.bool false)], args := [d1, d2] }
  | _ => none }
def TreeFindsWrongFalsely : Prop := treeFindsRow.holds Try.pinned (OpenSpec.ofChange treeFindsWrong)

/-- 'padlocklaw.TreeAboves': WHATEVER THE INPUT: true; the input reads as it did. -/
def treeAbovesSpec : ChangeSpec := { name := "treeAboves", fn := fun _ => fun
  | [d1, d2] => { results := [.lit (.bool true)], args := [d1, d2] }
  | _ => none }
def treeAbovesRow : OpenClaim := { program := "yteebiklebedneaa", sum := "6d7c3f3ac191d65d2e0a5e272359dda3963b180268e961fdbbf1d2ed7c11a57c", func := "padlock/padlocklaw.TreeAboves", spec := "treeAboves", inPlace := ["internal/bytealg.Compare"], unfollowed := true, recurses := true, apart := false }
def TreeAbovesSaid : Prop := treeAbovesRow.holds Try.pinned (OpenSpec.ofChange treeAbovesSpec)

/-- ITS FALSE NEIGHBOUR: 'it returns false'. Refute it at one input. -/
def treeAbovesWrong : ChangeSpec := { name := "treeAboves", fn := fun _ => fun
  | [d1, d2] => { results := [.lit (.bool false)], args := [d1, d2] }
  | _ => none }
def TreeAbovesWrongFalsely : Prop := treeAbovesRow.holds Try.pinned (OpenSpec.ofChange treeAbovesWrong)

/-- 'padlocklaw.TreeScans': WHATEVER THE INPUT: true; the input reads as it did. -/
def treeScansSpec : ChangeSpec := { name := "treeScans", fn := fun _ => fun
  | [d1, d2, d3] => { results := [.lit (.bool true)], args := [d1, d2, d3] }
  | _ => none }
def treeScansRow : OpenClaim := { program := "yteebiklebedneaa", sum := "6d7c3f3ac191d65d2e0a5e272359dda3963b180268e961fdbbf1d2ed7c11a57c", func := "padlock/padlocklaw.TreeScans", spec := "treeScans", inPlace := ["internal/bytealg.Compare"], unfollowed := true, recurses := true, apart := false }
def TreeScansSaid : Prop := treeScansRow.holds Try.pinned (OpenSpec.ofChange treeScansSpec)

/-- ITS FALSE NEIGHBOUR: 'it returns false'. Refute it at one input. -/
def treeScansWrong : ChangeSpec := { name := "treeScans", fn := fun _ => fun
  | [d1, d2, d3] => { results := [.lit (.bool false)], args := [d1, d2, d3] }
  | _ => none }
def TreeScansWrongFalsely : Prop := treeScansRow.holds Try.pinned (OpenSpec.ofChange treeScansWrong)

/-- 'padlocklaw.TreeDeletes': WHATEVER THE INPUT: true; the input reads as it did. -/
def treeDeletesSpec : ChangeSpec := { name := "treeDeletes", fn := fun _ => fun
  | [d1, d2] => { results := [.lit (.bool true)], args := [d1, d2] }
  | _ => none }
def treeDeletesRow : OpenClaim := { program := "yteebiklebedneaa", sum := "6d7c3f3ac191d65d2e0a5e272359dda3963b180268e961fdbbf1d2ed7c11a57c", func := "padlock/padlocklaw.TreeDeletes", spec := "treeDeletes", inPlace := ["internal/bytealg.Compare"], unfollowed := true, recurses := true, apart := false }
def TreeDeletesSaid : Prop := treeDeletesRow.holds Try.pinned (OpenSpec.ofChange treeDeletesSpec)

/-- ITS FALSE NEIGHBOUR: 'it returns false'. Refute it at one input. -/
def treeDeletesWrong : ChangeSpec := { name := "treeDeletes", fn := fun _ => fun
  | [d1, d2] => { results := [.lit (.bool false)], args := [d1, d2] }
  | _ => none }
def TreeDeletesWrongFalsely : Prop := treeDeletesRow.holds Try.pinned (OpenSpec.ofChange treeDeletesWrong)

/-- 'padlocklaw.TreeInserts': WHATEVER THE INPUT: true; the input reads as it did. -/
def treeInsertsSpec : ChangeSpec := { name := "treeInserts", fn := fun _ => fun
  | [d1, d2, d3] => { results := [.lit (.bool true)], args := [d1, d2, d3] }
  | _ => none }
def treeInsertsRow : OpenClaim := { program := "yteebiklebedneaa", sum := "6d7c3f3ac191d65d2e0a5e272359dda3963b180268e961fdbbf1d2ed7c11a57c", func := "padlock/padlocklaw.TreeInserts", spec := "treeInserts", inPlace := ["internal/bytealg.Compare", "slices.overlaps[[]byte]", "slices.overlaps[int]"], unfollowed := true, recurses := true, apart := false }
def TreeInsertsSaid : Prop := treeInsertsRow.holds Try.pinned (OpenSpec.ofChange treeInsertsSpec)

/-- ITS FALSE NEIGHBOUR: 'it returns false'. Refute it at one input. -/
def treeInsertsWrong : ChangeSpec := { name := "treeInserts", fn := fun _ => fun
  | [d1, d2, d3] => { results := [.lit (.bool false)], args := [d1, d2, d3] }
  | _ => none }
def TreeInsertsWrongFalsely : Prop := treeInsertsRow.holds Try.pinned (OpenSpec.ofChange treeInsertsWrong)

/- THE SECOND FORM. 'bulk': how many values and letters a reading holds, each counted each time it is reached (what is shared counts as often as it is met; a slice's spare places count too). A statement '..UptoSaid' is the law's where the arguments, and the package variables that the reading takes, are together of bulk at most 1048576: NARROWER than '..Said'. Prove '..Said' where nothing that the law and all that it calls make is longer than what came in: it says more and counts as full. Else prove '..UptoSaid'. A law counts once. -/
mutual
def uptoBulk {H : Type} : DataW H → Nat
  | .lit (.string bytes) => bytes.length + 1
  | .lit _ => 1
  | .nil => 1
  | .ptr d => uptoBulk d + 1
  | .slice elems spare => uptoBulkAll elems + uptoBulkAll spare + 1
  | .agg parts => uptoBulkAll parts + 1
  | .iface _ d => uptoBulk d + 1
  | .map entries => uptoBulkEntries entries + 1
  | .held _ => 1
def uptoBulkAll {H : Type} : List (DataW H) → Nat
  | [] => 0
  | d :: r => uptoBulk d + uptoBulkAll r
def uptoBulkEntries {H : Type} : List (Lit × DataW H) → Nat
  | [] => 0
  | x :: r => uptoBulkEntry x + uptoBulkEntries r
def uptoBulkEntry {H : Type} : Lit × DataW H → Nat
  | (.string bytes, d) => bytes.length + uptoBulk d + 1
  | (_, d) => uptoBulk d + 1
 end
def uptoSmall : (H : Type) → List (DataW H) → Bool := fun _ ds => decide (uptoBulkAll ds ≤ 1048576)
def OpenSpec.upto (s : _root_.Go.ChangeSpec) : _root_.Go.OpenSpec := { _root_.Go.OpenSpec.ofChange s with cond := some uptoSmall }

/-- 'padlocklaw.TreeChecks', WHERE WHAT IT READS IS OF BULK AT MOST 1048576: true; the input reads as it did. -/
def treeChecksUptoRow : OpenClaim := { program := "yteebiklebedneaa", sum := "6d7c3f3ac191d65d2e0a5e272359dda3963b180268e961fdbbf1d2ed7c11a57c", func := "padlock/padlocklaw.TreeChecks", spec := "treeChecks", inPlace := ["internal/bytealg.Compare"], recurses := true, apart := false, narrowed := true }
def TreeChecksUptoSaid : Prop := treeChecksUptoRow.holds Try.pinned (OpenSpec.upto treeChecksSpec)

/-- 'padlocklaw.TreeFinds', WHERE WHAT IT READS IS OF BULK AT MOST 1048576: true; the input reads as it did. -/
def treeFindsUptoRow : OpenClaim := { program := "yteebiklebedneaa", sum := "6d7c3f3ac191d65d2e0a5e272359dda3963b180268e961fdbbf1d2ed7c11a57c", func := "padlock/padlocklaw.TreeFinds", spec := "treeFinds", inPlace := ["internal/bytealg.Compare"], unfollowed := true, recurses := true, apart := false, narrowed := true }
def TreeFindsUptoSaid : Prop := treeFindsUptoRow.holds Try.pinned (OpenSpec.upto treeFindsSpec)

/-- 'padlocklaw.TreeAboves', WHERE WHAT IT READS IS OF BULK AT MOST 1048576: true; the input reads as it did. -/
def treeAbovesUptoRow : OpenClaim := { program := "yteebiklebedneaa", sum := "6d7c3f3ac191d65d2e0a5e272359dda3963b180268e961fdbbf1d2ed7c11a57c", func := "padlock/padlocklaw.TreeAboves", spec := "treeAboves", inPlace := ["internal/bytealg.Compare"], unfollowed := true, recurses := true, apart := false, narrowed := true }
def TreeAbovesUptoSaid : Prop := treeAbovesUptoRow.holds Try.pinned (OpenSpec.upto treeAbovesSpec)

/-- 'padlocklaw.TreeScans', WHERE WHAT IT READS IS OF BULK AT MOST 1048576: true; the input reads as it did. -/
def treeScansUptoRow : OpenClaim := { program := "yteebiklebedneaa", sum := "6d7c3f3ac191d65d2e0a5e272359dda3963b180268e961fdbbf1d2ed7c11a57c", func := "padlock/padlocklaw.TreeScans", spec := "treeScans", inPlace := ["internal/bytealg.Compare"], unfollowed := true, recurses := true, apart := false, narrowed := true }
def TreeScansUptoSaid : Prop := treeScansUptoRow.holds Try.pinned (OpenSpec.upto treeScansSpec)

/-- 'padlocklaw.TreeDeletes', WHERE WHAT IT READS IS OF BULK AT MOST 1048576: true; the input reads as it did. -/
def treeDeletesUptoRow : OpenClaim := { program := "yteebiklebedneaa", sum := "6d7c3f3ac191d65d2e0a5e272359dda3963b180268e961fdbbf1d2ed7c11a57c", func := "padlock/padlocklaw.TreeDeletes", spec := "treeDeletes", inPlace := ["internal/bytealg.Compare"], unfollowed := true, recurses := true, apart := false, narrowed := true }
def TreeDeletesUptoSaid : Prop := treeDeletesUptoRow.holds Try.pinned (OpenSpec.upto treeDeletesSpec)

/-- 'padlocklaw.TreeInserts', WHERE WHAT IT READS IS OF BULK AT MOST 1048576: true; the input reads as it did. -/
def treeInsertsUptoRow : OpenClaim := { program := "yteebiklebedneaa", sum := "6d7c3f3ac191d65d2e0a5e272359dda3963b180268e961fdbbf1d2ed7c11a57c", func := "padlock/padlocklaw.TreeInserts", spec := "treeInserts", inPlace := ["internal/bytealg.Compare", "slices.overlaps[[]byte]", "slices.overlaps[int]"], unfollowed := true, recurses := true, apart := false, narrowed := true }
def TreeInsertsUptoSaid : Prop := treeInsertsUptoRow.holds Try.pinned (OpenSpec.upto treeInsertsSpec)

end Rows
end Go.Proofs.Yteebiklebedneaa
