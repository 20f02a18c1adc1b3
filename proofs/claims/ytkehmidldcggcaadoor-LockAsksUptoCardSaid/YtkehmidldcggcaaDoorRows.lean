/-
  NARROWER THAN 'FOR EVERY INPUT', by the rows' own cells (each row's printed sentence says how): LockFits: laid · LockJoins: laid · LockChecks: laid · LockAsks: laid · LockLeaves: laid · LockWaits: laid · LockVictims: laid.
  DERIVED. THE GIVEN ROWS OF THIS SEAT. 7 by the template 'for every input the law returns true; each argument reads behind the call as it read before'; 0 by the template 'total and deterministic' (their statements: YtkehmidldcggcaaDoorTotals.lean).
  GIVEN WITH THE SEED: the statements are not yours to turn. If you find one false, say at which input.
  Laid BY PROGRAM, IN A SANDBOX (cutbox-rows.mjs): the forced cells as the released guide's own fill.sh prints them over the translation 3990bf689d939e7d… (all of the seat's roots in one cut). By AI agents, Wed Nov 11 2026. No macro, syntax, notation, axiom, sorry.
-/
import Derived.Test.YtkehmidldcggcaaDoorChecked
import GoSem.Claim
import GoSem.ClaimJoined
import GoSem.ClaimMapViews
import Derived.JoinedTies
import Derived.KernelRfl
namespace Go.Proofs.YtkehmidldcggcaaDoor
/- THE CELL 'sum', in the pinned program and in every row, IS THE sha256 OF THE DUMP (.gsa) THAT YtkehmidldcggcaaDoorProg.lean LOADS. Nothing in Lean hashes anything: it is a label: what it is worth is what the hold of that sum in a sandbox is worth. -/
noncomputable def Tryd.pinned : Pinned := { name := "ytkehmidldcggcaadoor", sum := "3990bf689d939e7d7796d8924e8ea06eda56d797ad1c2447cc514df8a68df46a", checked := Tryd.checked }
namespace Rows
def none {H : Type} : Left H := { results := [], args := [] }

/- WHAT THE LISTED PACKAGE-LEVEL VARIABLES READ AS WHEN THE CALL BEGINS. Each datum BY PROGRAM (the guide's laid-datum.mjs) off the statement by which the dump's own 'gosem.cut.vars' lays the variable. In a bare row this is a premise. The card (YtkehmidldcggcaaDoorCards.lean) ties it to the program's text. -/
def laid_padlock_lock_fits {H : Type} : DataW H := .agg [.agg [.lit (.bool false), .lit (.bool false), .lit (.bool false), .lit (.bool false), .lit (.bool false), .lit (.bool false)], .agg [.lit (.bool false), .lit (.bool true), .lit (.bool true), .lit (.bool true), .lit (.bool true), .lit (.bool false)], .agg [.lit (.bool false), .lit (.bool true), .lit (.bool true), .lit (.bool false), .lit (.bool false), .lit (.bool false)], .agg [.lit (.bool false), .lit (.bool true), .lit (.bool false), .lit (.bool true), .lit (.bool false), .lit (.bool false)], .agg [.lit (.bool false), .lit (.bool true), .lit (.bool false), .lit (.bool false), .lit (.bool false), .lit (.bool false)], .agg [.lit (.bool false), .lit (.bool false), .lit (.bool false), .lit (.bool false), .lit (.bool false), .lit (.bool false)]]
def laid_padlock_lock_joins {H : Type} : DataW H := .agg [.agg [.lit (.int .i64 0), .lit (.int .i64 0), .lit (.int .i64 0), .lit (.int .i64 0), .lit (.int .i64 0), .lit (.int .i64 0)], .agg [.lit (.int .i64 0), .lit (.int .i64 1), .lit (.int .i64 2), .lit (.int .i64 3), .lit (.int .i64 4), .lit (.int .i64 5)], .agg [.lit (.int .i64 0), .lit (.int .i64 2), .lit (.int .i64 2), .lit (.int .i64 4), .lit (.int .i64 4), .lit (.int .i64 5)], .agg [.lit (.int .i64 0), .lit (.int .i64 3), .lit (.int .i64 4), .lit (.int .i64 3), .lit (.int .i64 4), .lit (.int .i64 5)], .agg [.lit (.int .i64 0), .lit (.int .i64 4), .lit (.int .i64 4), .lit (.int .i64 4), .lit (.int .i64 4), .lit (.int .i64 5)], .agg [.lit (.int .i64 0), .lit (.int .i64 5), .lit (.int .i64 5), .lit (.int .i64 5), .lit (.int .i64 5), .lit (.int .i64 5)]]

/-- 'padlocklaw.LockFits': WHATEVER THE INPUT: true; the input reads as it did. -/
def lockFitsSpec : ChangeSpec := { name := "lockFits", fn := fun _ => fun
  | [d1, d2] => { results := [.lit (.bool true)], args := [d1, d2] }
  | _ => none }
def lockFitsRow : OpenClaim := { program := "ytkehmidldcggcaadoor", sum := "3990bf689d939e7d7796d8924e8ea06eda56d797ad1c2447cc514df8a68df46a", func := "padlock/padlocklaw.LockFits", spec := "lockFits", named := ["padlock/lock.fits"], apart := false, laid := [("padlock/lock.fits", laid_padlock_lock_fits)] }
def LockFitsSaid : Prop := lockFitsRow.holds Tryd.pinned (OpenSpec.ofChange lockFitsSpec)

/-- ITS FALSE NEIGHBOUR: 'it returns false'. Refute it at one input. -/
def lockFitsWrong : ChangeSpec := { name := "lockFits", fn := fun _ => fun
  | [d1, d2] => { results := [.lit (.bool false)], args := [d1, d2] }
  | _ => none }
def LockFitsWrongFalsely : Prop := lockFitsRow.holds Tryd.pinned (OpenSpec.ofChange lockFitsWrong)

/-- 'padlocklaw.LockJoins': WHATEVER THE INPUT: true; the input reads as it did. -/
def lockJoinsSpec : ChangeSpec := { name := "lockJoins", fn := fun _ => fun
  | [d1, d2] => { results := [.lit (.bool true)], args := [d1, d2] }
  | _ => none }
def lockJoinsRow : OpenClaim := { program := "ytkehmidldcggcaadoor", sum := "3990bf689d939e7d7796d8924e8ea06eda56d797ad1c2447cc514df8a68df46a", func := "padlock/padlocklaw.LockJoins", spec := "lockJoins", named := ["padlock/lock.joins"], apart := false, laid := [("padlock/lock.joins", laid_padlock_lock_joins)] }
def LockJoinsSaid : Prop := lockJoinsRow.holds Tryd.pinned (OpenSpec.ofChange lockJoinsSpec)

/-- ITS FALSE NEIGHBOUR: 'it returns false'. Refute it at one input. -/
def lockJoinsWrong : ChangeSpec := { name := "lockJoins", fn := fun _ => fun
  | [d1, d2] => { results := [.lit (.bool false)], args := [d1, d2] }
  | _ => none }
def LockJoinsWrongFalsely : Prop := lockJoinsRow.holds Tryd.pinned (OpenSpec.ofChange lockJoinsWrong)

/-- 'padlocklaw.LockChecks': WHATEVER THE INPUT: true; the input reads as it did. -/
def lockChecksSpec : ChangeSpec := { name := "lockChecks", fn := fun _ => fun
  | [d] => { results := [.lit (.bool true)], args := [d] }
  | _ => none }
def lockChecksRow : OpenClaim := { program := "ytkehmidldcggcaadoor", sum := "3990bf689d939e7d7796d8924e8ea06eda56d797ad1c2447cc514df8a68df46a", func := "padlock/padlocklaw.LockChecks", spec := "lockChecks", unfollowed := true, recurses := true, named := ["padlock/lock.joins", "padlock/lock.fits"], apart := false, laid := [("padlock/lock.fits", laid_padlock_lock_fits), ("padlock/lock.joins", laid_padlock_lock_joins)] }
def LockChecksSaid : Prop := lockChecksRow.holds Tryd.pinned (OpenSpec.ofChange lockChecksSpec)

/-- ITS FALSE NEIGHBOUR: 'it returns false'. Refute it at one input. -/
def lockChecksWrong : ChangeSpec := { name := "lockChecks", fn := fun _ => fun
  | [d] => { results := [.lit (.bool false)], args := [d] }
  | _ => none }
def LockChecksWrongFalsely : Prop := lockChecksRow.holds Tryd.pinned (OpenSpec.ofChange lockChecksWrong)

/-- 'padlocklaw.LockAsks': WHATEVER THE INPUT: true; the input reads as it did. -/
def lockAsksSpec : ChangeSpec := { name := "lockAsks", fn := fun _ => fun
  | [d1, d2] => { results := [.lit (.bool true)], args := [d1, d2] }
  | _ => none }
def lockAsksRow : OpenClaim := { program := "ytkehmidldcggcaadoor", sum := "3990bf689d939e7d7796d8924e8ea06eda56d797ad1c2447cc514df8a68df46a", func := "padlock/padlocklaw.LockAsks", spec := "lockAsks", unfollowed := true, recurses := true, named := ["padlock/lock.joins", "padlock/lock.fits"], apart := false, laid := [("padlock/lock.fits", laid_padlock_lock_fits), ("padlock/lock.joins", laid_padlock_lock_joins)] }
def LockAsksSaid : Prop := lockAsksRow.holds Tryd.pinned (OpenSpec.ofChange lockAsksSpec)

/-- ITS FALSE NEIGHBOUR: 'it returns false'. Refute it at one input. -/
def lockAsksWrong : ChangeSpec := { name := "lockAsks", fn := fun _ => fun
  | [d1, d2] => { results := [.lit (.bool false)], args := [d1, d2] }
  | _ => none }
def LockAsksWrongFalsely : Prop := lockAsksRow.holds Tryd.pinned (OpenSpec.ofChange lockAsksWrong)

/-- 'padlocklaw.LockLeaves': WHATEVER THE INPUT: true; the input reads as it did. -/
def lockLeavesSpec : ChangeSpec := { name := "lockLeaves", fn := fun _ => fun
  | [d1, d2] => { results := [.lit (.bool true)], args := [d1, d2] }
  | _ => none }
def lockLeavesRow : OpenClaim := { program := "ytkehmidldcggcaadoor", sum := "3990bf689d939e7d7796d8924e8ea06eda56d797ad1c2447cc514df8a68df46a", func := "padlock/padlocklaw.LockLeaves", spec := "lockLeaves", unfollowed := true, recurses := true, named := ["padlock/lock.joins", "padlock/lock.fits"], apart := false, laid := [("padlock/lock.fits", laid_padlock_lock_fits), ("padlock/lock.joins", laid_padlock_lock_joins)] }
def LockLeavesSaid : Prop := lockLeavesRow.holds Tryd.pinned (OpenSpec.ofChange lockLeavesSpec)

/-- ITS FALSE NEIGHBOUR: 'it returns false'. Refute it at one input. -/
def lockLeavesWrong : ChangeSpec := { name := "lockLeaves", fn := fun _ => fun
  | [d1, d2] => { results := [.lit (.bool false)], args := [d1, d2] }
  | _ => none }
def LockLeavesWrongFalsely : Prop := lockLeavesRow.holds Tryd.pinned (OpenSpec.ofChange lockLeavesWrong)

/-- 'padlocklaw.LockWaits': WHATEVER THE INPUT: true; the input reads as it did. -/
def lockWaitsSpec : ChangeSpec := { name := "lockWaits", fn := fun _ => fun
  | [d] => { results := [.lit (.bool true)], args := [d] }
  | _ => none }
def lockWaitsRow : OpenClaim := { program := "ytkehmidldcggcaadoor", sum := "3990bf689d939e7d7796d8924e8ea06eda56d797ad1c2447cc514df8a68df46a", func := "padlock/padlocklaw.LockWaits", spec := "lockWaits", unfollowed := true, recurses := true, named := ["padlock/lock.joins", "padlock/lock.fits"], apart := false, laid := [("padlock/lock.fits", laid_padlock_lock_fits), ("padlock/lock.joins", laid_padlock_lock_joins)] }
def LockWaitsSaid : Prop := lockWaitsRow.holds Tryd.pinned (OpenSpec.ofChange lockWaitsSpec)

/-- ITS FALSE NEIGHBOUR: 'it returns false'. Refute it at one input. -/
def lockWaitsWrong : ChangeSpec := { name := "lockWaits", fn := fun _ => fun
  | [d] => { results := [.lit (.bool false)], args := [d] }
  | _ => none }
def LockWaitsWrongFalsely : Prop := lockWaitsRow.holds Tryd.pinned (OpenSpec.ofChange lockWaitsWrong)

/-- 'padlocklaw.LockVictims': WHATEVER THE INPUT: true; the input reads as it did. -/
def lockVictimsSpec : ChangeSpec := { name := "lockVictims", fn := fun _ => fun
  | [d] => { results := [.lit (.bool true)], args := [d] }
  | _ => none }
def lockVictimsRow : OpenClaim := { program := "ytkehmidldcggcaadoor", sum := "3990bf689d939e7d7796d8924e8ea06eda56d797ad1c2447cc514df8a68df46a", func := "padlock/padlocklaw.LockVictims", spec := "lockVictims", unfollowed := true, recurses := true, named := ["padlock/lock.joins", "padlock/lock.fits"], apart := false, laid := [("padlock/lock.fits", laid_padlock_lock_fits), ("padlock/lock.joins", laid_padlock_lock_joins)] }
def LockVictimsSaid : Prop := lockVictimsRow.holds Tryd.pinned (OpenSpec.ofChange lockVictimsSpec)

/-- ITS FALSE NEIGHBOUR: 'it returns false'. Refute it at one input. -/
def lockVictimsWrong : ChangeSpec := { name := "lockVictims", fn := fun _ => fun
  | [d] => { results := [.lit (.bool false)], args := [d] }
  | _ => none }
def LockVictimsWrongFalsely : Prop := lockVictimsRow.holds Tryd.pinned (OpenSpec.ofChange lockVictimsWrong)

/- THE SECOND FORM. 'bulk': how many values and letters a reading holds, each counted each time it is reached (what is shared counts as often as it is met; a slice's spare places count too). A statement '..UptoSaid' is the law's where the arguments, and the package variables that the reading takes, are together of bulk at most 1048576: NARROWER than '..Said'. Prove '..Said' where nothing that the law and all that it calls make is longer than what came in: it says more and counts as full. Else prove '..UptoSaid'. A law counts once. -/
mutual
def uptoBulk {H : Type} : DataW H → Nat
  | .lit (.string bytes) => bytes.length + 1
  | .lit _ => 1
  | .nil => 1
  | .ptr d => uptoBulk d + 1
  | .slice elems spare => uptoBulkAll elems + uptoBulkAll spare + 1
  | .agg parts => uptoBulkAll parts + 1
  | .iface _ d => uptoBulk d + 1
  | .map entries => uptoBulkEntries entries + 1
  | .held _ => 1
def uptoBulkAll {H : Type} : List (DataW H) → Nat
  | [] => 0
  | d :: r => uptoBulk d + uptoBulkAll r
def uptoBulkEntries {H : Type} : List (Lit × DataW H) → Nat
  | [] => 0
  | x :: r => uptoBulkEntry x + uptoBulkEntries r
def uptoBulkEntry {H : Type} : Lit × DataW H → Nat
  | (.string bytes, d) => bytes.length + uptoBulk d + 1
  | (_, d) => uptoBulk d + 1
 end
def uptoSmall : (H : Type) → List (DataW H) → Bool := fun _ ds => decide (uptoBulkAll ds ≤ 1048576)
def OpenSpec.upto (s : _root_.Go.ChangeSpec) : _root_.Go.OpenSpec := { _root_.Go.OpenSpec.ofChange s with cond := some uptoSmall }

/-- 'padlocklaw.LockFits', WHERE WHAT IT READS IS OF BULK AT MOST 1048576: true; the input reads as it did. -/
def lockFitsUptoRow : OpenClaim := { program := "ytkehmidldcggcaadoor", sum := "3990bf689d939e7d7796d8924e8ea06eda56d797ad1c2447cc514df8a68df46a", func := "padlock/padlocklaw.LockFits", spec := "lockFits", named := ["padlock/lock.fits"], apart := false, laid := [("padlock/lock.fits", laid_padlock_lock_fits)], narrowed := true }
def LockFitsUptoSaid : Prop := lockFitsUptoRow.holds Tryd.pinned (OpenSpec.upto lockFitsSpec)

/-- 'padlocklaw.LockJoins', WHERE WHAT IT READS IS OF BULK AT MOST 1048576: true; the input reads as it did. -/
def lockJoinsUptoRow : OpenClaim := { program := "ytkehmidldcggcaadoor", sum := "3990bf689d939e7d7796d8924e8ea06eda56d797ad1c2447cc514df8a68df46a", func := "padlock/padlocklaw.LockJoins", spec := "lockJoins", named := ["padlock/lock.joins"], apart := false, laid := [("padlock/lock.joins", laid_padlock_lock_joins)], narrowed := true }
def LockJoinsUptoSaid : Prop := lockJoinsUptoRow.holds Tryd.pinned (OpenSpec.upto lockJoinsSpec)

/-- 'padlocklaw.LockChecks', WHERE WHAT IT READS IS OF BULK AT MOST 1048576: true; the input reads as it did. -/
def lockChecksUptoRow : OpenClaim := { program := "ytkehmidldcggcaadoor", sum := "3990bf689d939e7d7796d8924e8ea06eda56d797ad1c2447cc514df8a68df46a", func := "padlock/padlocklaw.LockChecks", spec := "lockChecks", unfollowed := true, recurses := true, named := ["padlock/lock.joins", "padlock/lock.fits"], apart := false, laid := [("padlock/lock.fits", laid_padlock_lock_fits), ("padlock/lock.joins", laid_padlock_lock_joins)], narrowed := true }
def LockChecksUptoSaid : Prop := lockChecksUptoRow.holds Tryd.pinned (OpenSpec.upto lockChecksSpec)

/-- 'padlocklaw.LockAsks', WHERE WHAT IT READS IS OF BULK AT MOST 1048576: true; the input reads as it did. -/
def lockAsksUptoRow : OpenClaim := { program := "ytkehmidldcggcaadoor", sum := "3990bf689d939e7d7796d8924e8ea06eda56d797ad1c2447cc514df8a68df46a", func := "padlock/padlocklaw.LockAsks", spec := "lockAsks", unfollowed := true, recurses := true, named := ["padlock/lock.joins", "padlock/lock.fits"], apart := false, laid := [("padlock/lock.fits", laid_padlock_lock_fits), ("padlock/lock.joins", laid_padlock_lock_joins)], narrowed := true }
def LockAsksUptoSaid : Prop := lockAsksUptoRow.holds Tryd.pinned (OpenSpec.upto lockAsksSpec)

/-- 'padlocklaw.LockLeaves', WHERE WHAT IT READS IS OF BULK AT MOST 1048576: true; the input reads as it did. -/
def lockLeavesUptoRow : OpenClaim := { program := "ytkehmidldcggcaadoor", sum := "3990bf689d939e7d7796d8924e8ea06eda56d797ad1c2447cc514df8a68df46a", func := "padlock/padlocklaw.LockLeaves", spec := "lockLeaves", unfollowed := true, recurses := true, named := ["padlock/lock.joins", "padlock/lock.fits"], apart := false, laid := [("padlock/lock.fits", laid_padlock_lock_fits), ("padlock/lock.joins", laid_padlock_lock_joins)], narrowed := true }
def LockLeavesUptoSaid : Prop := lockLeavesUptoRow.holds Tryd.pinned (OpenSpec.upto lockLeavesSpec)

/-- 'padlocklaw.LockWaits', WHERE WHAT IT READS IS OF BULK AT MOST 1048576: true; the input reads as it did. -/
def lockWaitsUptoRow : OpenClaim := { program := "ytkehmidldcggcaadoor", sum := "3990bf689d939e7d7796d8924e8ea06eda56d797ad1c2447cc514df8a68df46a", func := "padlock/padlocklaw.LockWaits", spec := "lockWaits", unfollowed := true, recurses := true, named := ["padlock/lock.joins", "padlock/lock.fits"], apart := false, laid := [("padlock/lock.fits", laid_padlock_lock_fits), ("padlock/lock.joins", laid_padlock_lock_joins)], narrowed := true }
def LockWaitsUptoSaid : Prop := lockWaitsUptoRow.holds Tryd.pinned (OpenSpec.upto lockWaitsSpec)

/-- 'padlocklaw.LockVictims', WHERE WHAT IT READS IS OF BULK AT MOST 1048576: true; the input reads as it did. -/
def lockVictimsUptoRow : OpenClaim := { program := "ytkehmidldcggcaadoor", sum := "3990bf689d939e7d7796d8924e8ea06eda56d797ad1c2447cc514df8a68df46a", func := "padlock/padlocklaw.LockVictims", spec := "lockVictims", unfollowed := true, recurses := true, named := ["padlock/lock.joins", "padlock/lock.fits"], apart := false, laid := [("padlock/lock.fits", laid_padlock_lock_fits), ("padlock/lock.joins", laid_padlock_lock_joins)], narrowed := true }
def LockVictimsUptoSaid : Prop := lockVictimsUptoRow.holds Tryd.pinned (OpenSpec.upto lockVictimsSpec)

end Rows
end Go.Proofs.YtkehmidldcggcaaDoor
