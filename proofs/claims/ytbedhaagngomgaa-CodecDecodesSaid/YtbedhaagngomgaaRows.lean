/-
  No cell of these rows narrows 'for every input' (looked for: loops, veiled, ifaces, maps, wideKeys, modest, calm, conditions, laid).
  DERIVED. THE GIVEN ROWS OF THIS SEAT. 6 by the template 'for every input the law returns true; each argument reads behind the call as it read before'; 0 by the template 'total and deterministic' (their statements: YtbedhaagngomgaaTotals.lean).
  GIVEN WITH THE SEED: the statements are not yours to turn. If you find one false, say at which input.
  Laid BY PROGRAM, IN A SANDBOX (cutbox-rows.mjs): the forced cells as the released guide's own fill.sh prints them over the translation 0a0c4223ec709873… (all of the seat's roots in one cut). By AI agents, Wed Nov 11 2026. No macro, syntax, notation, axiom, sorry.
-/
import Derived.Test.YtbedhaagngomgaaChecked
import GoSem.Claim
import GoSem.ClaimJoined
import GoSem.ClaimMapViews
import Derived.JoinedTies
import Derived.KernelRfl
namespace Go.Proofs.Ytbedhaagngomgaa
/- THE CELL 'sum', in the pinned program and in every row, IS THE sha256 OF THE DUMP (.gsa) THAT YtbedhaagngomgaaProg.lean LOADS. Nothing in Lean hashes anything: it is a label: what it is worth is what the hold of that sum in a sandbox is worth. -/
noncomputable def Try.pinned : Pinned := { name := "ytbedhaagngomgaa", sum := "0a0c4223ec709873ccd011c59f2ab000d5fbd77d92673d3ded03f08151596752", checked := Try.checked }
namespace Rows
def none {H : Type} : Left H := { results := [], args := [] }

/-- 'padlocklaw.Names': WHATEVER THE INPUT: true; the input reads as it did. -/
def namesSpec : ChangeSpec := { name := "names", fn := fun _ => fun
  | [] => { results := [.lit (.bool true)], args := [] }
  | _ => none }
def namesRow : OpenClaim := { program := "ytbedhaagngomgaa", sum := "0a0c4223ec709873ccd011c59f2ab000d5fbd77d92673d3ded03f08151596752", func := "padlock/padlocklaw.Names", spec := "names", apart := false }
def NamesSaid : Prop := namesRow.holds Try.pinned (OpenSpec.ofChange namesSpec)

/-- ITS FALSE NEIGHBOUR: 'it returns false'. Refute it at one input. -/
def namesWrong : ChangeSpec := { name := "names", fn := fun _ => fun
  | [] => { results := [.lit (.bool false)], args := [] }
  | _ => none }
def NamesWrongFalsely : Prop := namesRow.holds Try.pinned (OpenSpec.ofChange namesWrong)

/-- 'padlocklaw.ValueChecks': WHATEVER THE INPUT: true; the input reads as it did. -/
def valueChecksSpec : ChangeSpec := { name := "valueChecks", fn := fun _ => fun
  | [d] => { results := [.lit (.bool true)], args := [d] }
  | _ => none }
def valueChecksRow : OpenClaim := { program := "ytbedhaagngomgaa", sum := "0a0c4223ec709873ccd011c59f2ab000d5fbd77d92673d3ded03f08151596752", func := "padlock/padlocklaw.ValueChecks", spec := "valueChecks", apart := false }
def ValueChecksSaid : Prop := valueChecksRow.holds Try.pinned (OpenSpec.ofChange valueChecksSpec)

/-- ITS FALSE NEIGHBOUR: 'it returns false'. Refute it at one input. -/
def valueChecksWrong : ChangeSpec := { name := "valueChecks", fn := fun _ => fun
  | [d] => { results := [.lit (.bool false)], args := [d] }
  | _ => none }
def ValueChecksWrongFalsely : Prop := valueChecksRow.holds Try.pinned (OpenSpec.ofChange valueChecksWrong)

/-- 'padlocklaw.ValueOnes': WHATEVER THE INPUT: true; the input reads as it did. -/
def valueOnesSpec : ChangeSpec := { name := "valueOnes", fn := fun _ => fun
  | [d1, d2] => { results := [.lit (.bool true)], args := [d1, d2] }
  | _ => none }
def valueOnesRow : OpenClaim := { program := "ytbedhaagngomgaa", sum := "0a0c4223ec709873ccd011c59f2ab000d5fbd77d92673d3ded03f08151596752", func := "padlock/padlocklaw.ValueOnes", spec := "valueOnes", apart := false }
def ValueOnesSaid : Prop := valueOnesRow.holds Try.pinned (OpenSpec.ofChange valueOnesSpec)

/-- ITS FALSE NEIGHBOUR: 'it returns false'. Refute it at one input. -/
def valueOnesWrong : ChangeSpec := { name := "valueOnes", fn := fun _ => fun
  | [d1, d2] => { results := [.lit (.bool false)], args := [d1, d2] }
  | _ => none }
def ValueOnesWrongFalsely : Prop := valueOnesRow.holds Try.pinned (OpenSpec.ofChange valueOnesWrong)

/-- 'padlocklaw.ValueCompares': WHATEVER THE INPUT: true; the input reads as it did. -/
def valueComparesSpec : ChangeSpec := { name := "valueCompares", fn := fun _ => fun
  | [d1, d2] => { results := [.lit (.bool true)], args := [d1, d2] }
  | _ => none }
def valueComparesRow : OpenClaim := { program := "ytbedhaagngomgaa", sum := "0a0c4223ec709873ccd011c59f2ab000d5fbd77d92673d3ded03f08151596752", func := "padlock/padlocklaw.ValueCompares", spec := "valueCompares", inPlace := ["internal/bytealg.abigen_runtime_cmpstring"], apart := false }
def ValueComparesSaid : Prop := valueComparesRow.holds Try.pinned (OpenSpec.ofChange valueComparesSpec)

/-- ITS FALSE NEIGHBOUR: 'it returns false'. Refute it at one input. -/
def valueComparesWrong : ChangeSpec := { name := "valueCompares", fn := fun _ => fun
  | [d1, d2] => { results := [.lit (.bool false)], args := [d1, d2] }
  | _ => none }
def ValueComparesWrongFalsely : Prop := valueComparesRow.holds Try.pinned (OpenSpec.ofChange valueComparesWrong)

/-- 'padlocklaw.ValueTwos': WHATEVER THE INPUT: true; the input reads as it did. -/
def valueTwosSpec : ChangeSpec := { name := "valueTwos", fn := fun _ => fun
  | [d1, d2, d3] => { results := [.lit (.bool true)], args := [d1, d2, d3] }
  | _ => none }
def valueTwosRow : OpenClaim := { program := "ytbedhaagngomgaa", sum := "0a0c4223ec709873ccd011c59f2ab000d5fbd77d92673d3ded03f08151596752", func := "padlock/padlocklaw.ValueTwos", spec := "valueTwos", inPlace := ["internal/bytealg.abigen_runtime_cmpstring"], apart := false }
def ValueTwosSaid : Prop := valueTwosRow.holds Try.pinned (OpenSpec.ofChange valueTwosSpec)

/-- ITS FALSE NEIGHBOUR: 'it returns false'. Refute it at one input. -/
def valueTwosWrong : ChangeSpec := { name := "valueTwos", fn := fun _ => fun
  | [d1, d2, d3] => { results := [.lit (.bool false)], args := [d1, d2, d3] }
  | _ => none }
def ValueTwosWrongFalsely : Prop := valueTwosRow.holds Try.pinned (OpenSpec.ofChange valueTwosWrong)

/-- 'padlocklaw.CodecDecodes': WHATEVER THE INPUT: true; the input reads as it did. -/
def codecDecodesSpec : ChangeSpec := { name := "codecDecodes", fn := fun _ => fun
  | [d] => { results := [.lit (.bool true)], args := [d] }
  | _ => none }
def codecDecodesRow : OpenClaim := { program := "ytbedhaagngomgaa", sum := "0a0c4223ec709873ccd011c59f2ab000d5fbd77d92673d3ded03f08151596752", func := "padlock/padlocklaw.CodecDecodes", spec := "codecDecodes", apart := false }
def CodecDecodesSaid : Prop := codecDecodesRow.holds Try.pinned (OpenSpec.ofChange codecDecodesSpec)

/-- ITS FALSE NEIGHBOUR: 'it returns false'. Refute it at one input. -/
def codecDecodesWrong : ChangeSpec := { name := "codecDecodes", fn := fun _ => fun
  | [d] => { results := [.lit (.bool false)], args := [d] }
  | _ => none }
def CodecDecodesWrongFalsely : Prop := codecDecodesRow.holds Try.pinned (OpenSpec.ofChange codecDecodesWrong)

/- THE SECOND FORM. 'bulk': how many values and letters a reading holds, each counted each time it is reached (what is shared counts as often as it is met; a slice's spare places count too). A statement '..UptoSaid' is the law's where the arguments, and the package variables that the reading takes, are together of bulk at most 1048576: NARROWER than '..Said'. Prove '..Said' where nothing that the law and all that it calls make is longer than what came in: it says more and counts as full. Else prove '..UptoSaid'. A law counts once. -/
mutual
def uptoBulk {H : Type} : DataW H → Nat
  | .lit (.string bytes) => bytes.length + 1
  | .lit _ => 1
  | .nil => 1
  | .ptr d => uptoBulk d + 1
  | .slice elems spare => uptoBulkAll elems + uptoBulkAll spare + 1
  | .agg parts => uptoBulkAll parts + 1
  | .iface _ d => uptoBulk d + 1
  | .map entries => uptoBulkEntries entries + 1
  | .held _ => 1
def uptoBulkAll {H : Type} : List (DataW H) → Nat
  | [] => 0
  | d :: r => uptoBulk d + uptoBulkAll r
def uptoBulkEntries {H : Type} : List (Lit × DataW H) → Nat
  | [] => 0
  | x :: r => uptoBulkEntry x + uptoBulkEntries r
def uptoBulkEntry {H : Type} : Lit × DataW H → Nat
  | (.string bytes, d) => bytes.length + uptoBulk d + 1
  | (_, d) => uptoBulk d + 1
 end
def uptoSmall : (H : Type) → List (DataW H) → Bool := fun _ ds => decide (uptoBulkAll ds ≤ 1048576)
def OpenSpec.upto (s : _root_.Go.ChangeSpec) : _root_.Go.OpenSpec := { _root_.Go.OpenSpec.ofChange s with cond := some uptoSmall }

/-- 'padlocklaw.Names', WHERE WHAT IT READS IS OF BULK AT MOST 1048576: true; the input reads as it did. -/
def namesUptoRow : OpenClaim := { program := "ytbedhaagngomgaa", sum := "0a0c4223ec709873ccd011c59f2ab000d5fbd77d92673d3ded03f08151596752", func := "padlock/padlocklaw.Names", spec := "names", apart := false, narrowed := true }
def NamesUptoSaid : Prop := namesUptoRow.holds Try.pinned (OpenSpec.upto namesSpec)

/-- 'padlocklaw.ValueChecks', WHERE WHAT IT READS IS OF BULK AT MOST 1048576: true; the input reads as it did. -/
def valueChecksUptoRow : OpenClaim := { program := "ytbedhaagngomgaa", sum := "0a0c4223ec709873ccd011c59f2ab000d5fbd77d92673d3ded03f08151596752", func := "padlock/padlocklaw.ValueChecks", spec := "valueChecks", apart := false, narrowed := true }
def ValueChecksUptoSaid : Prop := valueChecksUptoRow.holds Try.pinned (OpenSpec.upto valueChecksSpec)

/-- 'padlocklaw.ValueOnes', WHERE WHAT IT READS IS OF BULK AT MOST 1048576: true; the input reads as it did. -/
def valueOnesUptoRow : OpenClaim := { program := "ytbedhaagngomgaa", sum := "0a0c4223ec709873ccd011c59f2ab000d5fbd77d92673d3ded03f08151596752", func := "padlock/padlocklaw.ValueOnes", spec := "valueOnes", apart := false, narrowed := true }
def ValueOnesUptoSaid : Prop := valueOnesUptoRow.holds Try.pinned (OpenSpec.upto valueOnesSpec)

/-- 'padlocklaw.ValueCompares', WHERE WHAT IT READS IS OF BULK AT MOST 1048576: true; the input reads as it did. -/
def valueComparesUptoRow : OpenClaim := { program := "ytbedhaagngomgaa", sum := "0a0c4223ec709873ccd011c59f2ab000d5fbd77d92673d3ded03f08151596752", func := "padlock/padlocklaw.ValueCompares", spec := "valueCompares", inPlace := ["internal/bytealg.abigen_runtime_cmpstring"], apart := false, narrowed := true }
def ValueComparesUptoSaid : Prop := valueComparesUptoRow.holds Try.pinned (OpenSpec.upto valueComparesSpec)

/-- 'padlocklaw.ValueTwos', WHERE WHAT IT READS IS OF BULK AT MOST 1048576: true; the input reads as it did. -/
def valueTwosUptoRow : OpenClaim := { program := "ytbedhaagngomgaa", sum := "0a0c4223ec709873ccd011c59f2ab000d5fbd77d92673d3ded03f08151596752", func := "padlock/padlocklaw.ValueTwos", spec := "valueTwos", inPlace := ["internal/bytealg.abigen_runtime_cmpstring"], apart := false, narrowed := true }
def ValueTwosUptoSaid : Prop := valueTwosUptoRow.holds Try.pinned (OpenSpec.upto valueTwosSpec)

/-- 'padlocklaw.CodecDecodes', WHERE WHAT IT READS IS OF BULK AT MOST 1048576: true; the input reads as it did. -/
def codecDecodesUptoRow : OpenClaim := { program := "ytbedhaagngomgaa", sum := "0a0c4223ec709873ccd011c59f2ab000d5fbd77d92673d3ded03f08151596752", func := "padlock/padlocklaw.CodecDecodes", spec := "codecDecodes", apart := false, narrowed := true }
def CodecDecodesUptoSaid : Prop := codecDecodesUptoRow.holds Try.pinned (OpenSpec.upto codecDecodesSpec)

end Rows
end Go.Proofs.Ytbedhaagngomgaa
