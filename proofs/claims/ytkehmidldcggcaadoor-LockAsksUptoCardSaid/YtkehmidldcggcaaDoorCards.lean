/-
  DERIVED. GIVEN WITH THE SEED: THE CARDS: each row of YtkehmidldcggcaaDoorRows.lean that lists a variable, with what it lists TIED to the program's text (the seventh form; the later family's looks); each row that meets fmt, with fmt's text TOLD by the authors' own Lean function (tested against real Go, not proved from fmt's source: count such statements apart). THE CARD IS WHAT COUNTS. Prove the row's statement (the work); the ties are given (YtkehmidldcggcaaDoorTie.lean); close each card by the builder's one call (the guide's Derived/Test/ToyasCard.lean, 'card_holds'). Laid BY PROGRAM, IN A SANDBOX (cutbox-door.mjs). By AI agents, Wed Nov 11 2026. No macro, syntax, notation, axiom, sorry.
-/
import Derived.Test.YtkehmidldcggcaaDoorRows
import GoSem.ClaimSeven
namespace Go.Proofs.YtkehmidldcggcaaDoor
namespace Rows

/-- THE TIED CARD OF 'padlocklaw.LockFits'. -/
def lockFitsCard : Claim7 := { stood := { row := lockFitsRow, standIns := [], harness := (true, "36bdd042b8a28cce23a43340d5140fa5b32041b8c2264e9627977eb70cd6f748"), looks := false }, kinds := [], alts := [], laidByText := true, laidKinds := [.data], laidTests := true, laidLooks := .later }
def LockFitsCardSaid : Prop := Claim7.holds Tryd.pinned (.plain (OpenSpec.ofChange lockFitsSpec)) lockFitsCard

/-- THE TIED CARD OF 'padlocklaw.LockJoins'. -/
def lockJoinsCard : Claim7 := { stood := { row := lockJoinsRow, standIns := [], harness := (true, "36bdd042b8a28cce23a43340d5140fa5b32041b8c2264e9627977eb70cd6f748"), looks := false }, kinds := [], alts := [], laidByText := true, laidKinds := [.data], laidTests := true, laidLooks := .later }
def LockJoinsCardSaid : Prop := Claim7.holds Tryd.pinned (.plain (OpenSpec.ofChange lockJoinsSpec)) lockJoinsCard

/-- THE TIED CARD OF 'padlocklaw.LockChecks'. -/
def lockChecksCard : Claim7 := { stood := { row := lockChecksRow, standIns := [], harness := (true, "36bdd042b8a28cce23a43340d5140fa5b32041b8c2264e9627977eb70cd6f748"), looks := false }, kinds := [], alts := [], laidByText := true, laidKinds := [.data, .data], laidTests := true, laidLooks := .later }
def LockChecksCardSaid : Prop := Claim7.holds Tryd.pinned (.plain (OpenSpec.ofChange lockChecksSpec)) lockChecksCard

/-- THE TIED CARD OF 'padlocklaw.LockAsks'. -/
def lockAsksCard : Claim7 := { stood := { row := lockAsksRow, standIns := [], harness := (true, "36bdd042b8a28cce23a43340d5140fa5b32041b8c2264e9627977eb70cd6f748"), looks := false }, kinds := [], alts := [], laidByText := true, laidKinds := [.data, .data], laidTests := true, laidLooks := .later }
def LockAsksCardSaid : Prop := Claim7.holds Tryd.pinned (.plain (OpenSpec.ofChange lockAsksSpec)) lockAsksCard

/-- THE TIED CARD OF 'padlocklaw.LockLeaves'. -/
def lockLeavesCard : Claim7 := { stood := { row := lockLeavesRow, standIns := [], harness := (true, "36bdd042b8a28cce23a43340d5140fa5b32041b8c2264e9627977eb70cd6f748"), looks := false }, kinds := [], alts := [], laidByText := true, laidKinds := [.data, .data], laidTests := true, laidLooks := .later }
def LockLeavesCardSaid : Prop := Claim7.holds Tryd.pinned (.plain (OpenSpec.ofChange lockLeavesSpec)) lockLeavesCard

/-- THE TIED CARD OF 'padlocklaw.LockWaits'. -/
def lockWaitsCard : Claim7 := { stood := { row := lockWaitsRow, standIns := [], harness := (true, "36bdd042b8a28cce23a43340d5140fa5b32041b8c2264e9627977eb70cd6f748"), looks := false }, kinds := [], alts := [], laidByText := true, laidKinds := [.data, .data], laidTests := true, laidLooks := .later }
def LockWaitsCardSaid : Prop := Claim7.holds Tryd.pinned (.plain (OpenSpec.ofChange lockWaitsSpec)) lockWaitsCard

/-- THE TIED CARD OF 'padlocklaw.LockVictims'. -/
def lockVictimsCard : Claim7 := { stood := { row := lockVictimsRow, standIns := [], harness := (true, "36bdd042b8a28cce23a43340d5140fa5b32041b8c2264e9627977eb70cd6f748"), looks := false }, kinds := [], alts := [], laidByText := true, laidKinds := [.data, .data], laidTests := true, laidLooks := .later }
def LockVictimsCardSaid : Prop := Claim7.holds Tryd.pinned (.plain (OpenSpec.ofChange lockVictimsSpec)) lockVictimsCard

/-- THE SECOND FORM's CARD OF 'padlocklaw.LockFits'. -/
def lockFitsUptoCard : Claim7 := { stood := { row := lockFitsUptoRow, standIns := [], harness := (true, "36bdd042b8a28cce23a43340d5140fa5b32041b8c2264e9627977eb70cd6f748"), looks := false }, kinds := [], alts := [], laidByText := true, laidKinds := [.data], laidTests := true, laidLooks := .later }
def LockFitsUptoCardSaid : Prop := Claim7.holds Tryd.pinned (.plain (OpenSpec.upto lockFitsSpec)) lockFitsUptoCard

/-- THE SECOND FORM's CARD OF 'padlocklaw.LockJoins'. -/
def lockJoinsUptoCard : Claim7 := { stood := { row := lockJoinsUptoRow, standIns := [], harness := (true, "36bdd042b8a28cce23a43340d5140fa5b32041b8c2264e9627977eb70cd6f748"), looks := false }, kinds := [], alts := [], laidByText := true, laidKinds := [.data], laidTests := true, laidLooks := .later }
def LockJoinsUptoCardSaid : Prop := Claim7.holds Tryd.pinned (.plain (OpenSpec.upto lockJoinsSpec)) lockJoinsUptoCard

/-- THE SECOND FORM's CARD OF 'padlocklaw.LockChecks'. -/
def lockChecksUptoCard : Claim7 := { stood := { row := lockChecksUptoRow, standIns := [], harness := (true, "36bdd042b8a28cce23a43340d5140fa5b32041b8c2264e9627977eb70cd6f748"), looks := false }, kinds := [], alts := [], laidByText := true, laidKinds := [.data, .data], laidTests := true, laidLooks := .later }
def LockChecksUptoCardSaid : Prop := Claim7.holds Tryd.pinned (.plain (OpenSpec.upto lockChecksSpec)) lockChecksUptoCard

/-- THE SECOND FORM's CARD OF 'padlocklaw.LockAsks'. -/
def lockAsksUptoCard : Claim7 := { stood := { row := lockAsksUptoRow, standIns := [], harness := (true, "36bdd042b8a28cce23a43340d5140fa5b32041b8c2264e9627977eb70cd6f748"), looks := false }, kinds := [], alts := [], laidByText := true, laidKinds := [.data, .data], laidTests := true, laidLooks := .later }
def LockAsksUptoCardSaid : Prop := Claim7.holds Tryd.pinned (.plain (OpenSpec.upto lockAsksSpec)) lockAsksUptoCard

/-- THE SECOND FORM's CARD OF 'padlocklaw.LockLeaves'. -/
def lockLeavesUptoCard : Claim7 := { stood := { row := lockLeavesUptoRow, standIns := [], harness := (true, "36bdd042b8a28cce23a43340d5140fa5b32041b8c2264e9627977eb70cd6f748"), looks := false }, kinds := [], alts := [], laidByText := true, laidKinds := [.data, .data], laidTests := true, laidLooks := .later }
def LockLeavesUptoCardSaid : Prop := Claim7.holds Tryd.pinned (.plain (OpenSpec.upto lockLeavesSpec)) lockLeavesUptoCard

/-- THE SECOND FORM's CARD OF 'padlocklaw.LockWaits'. -/
def lockWaitsUptoCard : Claim7 := { stood := { row := lockWaitsUptoRow, standIns := [], harness := (true, "36bdd042b8a28cce23a43340d5140fa5b32041b8c2264e9627977eb70cd6f748"), looks := false }, kinds := [], alts := [], laidByText := true, laidKinds := [.data, .data], laidTests := true, laidLooks := .later }
def LockWaitsUptoCardSaid : Prop := Claim7.holds Tryd.pinned (.plain (OpenSpec.upto lockWaitsSpec)) lockWaitsUptoCard

/-- THE SECOND FORM's CARD OF 'padlocklaw.LockVictims'. -/
def lockVictimsUptoCard : Claim7 := { stood := { row := lockVictimsUptoRow, standIns := [], harness := (true, "36bdd042b8a28cce23a43340d5140fa5b32041b8c2264e9627977eb70cd6f748"), looks := false }, kinds := [], alts := [], laidByText := true, laidKinds := [.data, .data], laidTests := true, laidLooks := .later }
def LockVictimsUptoCardSaid : Prop := Claim7.holds Tryd.pinned (.plain (OpenSpec.upto lockVictimsSpec)) lockVictimsUptoCard
end Rows
end Go.Proofs.YtkehmidldcggcaaDoor
