/-
  DERIVED. GIVEN WITH THE SEED: THE CARDS: each row of YteebiklebedneaaDoorRows.lean that lists a variable, with what it lists TIED to the program's text (the seventh form; the later family's looks); each row that meets fmt, with fmt's text TOLD by the authors' own Lean function (tested against real Go, not proved from fmt's source: count such statements apart). THE CARD IS WHAT COUNTS. Prove the row's statement (the work); the ties are given (YteebiklebedneaaDoorTie.lean); close each card by the builder's one call (the guide's Derived/Test/ToyasCard.lean, 'card_holds'). Laid BY PROGRAM, IN A SANDBOX (cutbox-door.mjs). By AI agents, Wed Nov 11 2026. No macro, syntax, notation, axiom, sorry.
-/
import Derived.Test.YteebiklebedneaaDoorRows
import GoSem.ClaimSeven
namespace Go.Proofs.YteebiklebedneaaDoor
namespace Rows

/-- THE TIED CARD OF 'padlocklaw.CodecEncodes'. -/
def codecEncodesCard : Claim7 := { stood := { row := codecEncodesRow, standIns := [], harness := (true, "93d4535b64df804c4ae7a917d584c321faaa67fd98e5d43d5003bf50dcb9e233"), looks := true }, kinds := [], alts := [], laidByText := true, laidKinds := [.data, .pinned], laidTests := true, laidLooks := .later }
def CodecEncodesCardSaid : Prop := Claim7.holds Tryd.pinned (.plain (OpenSpec.ofChange codecEncodesSpec)) codecEncodesCard

/-- THE TIED CARD OF 'padlocklaw.LexJoins'. -/
def lexJoinsCard : Claim7 := { stood := { row := lexJoinsRow, standIns := [], harness := (true, "93d4535b64df804c4ae7a917d584c321faaa67fd98e5d43d5003bf50dcb9e233"), looks := true }, kinds := [], alts := [], laidByText := true, laidKinds := [.data, .data, .data, .data, .widerDeep, .pinned], laidTests := true, laidLooks := .later }
def LexJoinsCardSaid : Prop := Claim7.holds Tryd.pinned (.plain (OpenSpec.ofChange lexJoinsSpec)) lexJoinsCard

/-- THE TIED CARD OF 'padlocklaw.LexCuts'. -/
def lexCutsCard : Claim7 := { stood := { row := lexCutsRow, standIns := [], harness := (true, "93d4535b64df804c4ae7a917d584c321faaa67fd98e5d43d5003bf50dcb9e233"), looks := true }, kinds := [], alts := [], laidByText := true, laidKinds := [.data, .data, .data, .sentinel, .sentinel, .widerDeep], laidTests := true, laidLooks := .later }
def LexCutsCardSaid : Prop := Claim7.holds Tryd.pinned (.plain (OpenSpec.ofChange lexCutsSpec)) lexCutsCard

/-- THE TIED CARD OF 'padlocklaw.LockLeaves'. -/
def lockLeavesCard : Claim7 := { stood := { row := lockLeavesRow, standIns := [], harness := (true, "93d4535b64df804c4ae7a917d584c321faaa67fd98e5d43d5003bf50dcb9e233"), looks := true }, kinds := [], alts := [], laidByText := true, laidKinds := [.data, .data], laidTests := true, laidLooks := .later }
def LockLeavesCardSaid : Prop := Claim7.holds Tryd.pinned (.plain (OpenSpec.ofChange lockLeavesSpec)) lockLeavesCard

/-- THE TIED CARD OF 'padlocklaw.LockWaits'. -/
def lockWaitsCard : Claim7 := { stood := { row := lockWaitsRow, standIns := [], harness := (true, "93d4535b64df804c4ae7a917d584c321faaa67fd98e5d43d5003bf50dcb9e233"), looks := true }, kinds := [], alts := [], laidByText := true, laidKinds := [.data, .data], laidTests := true, laidLooks := .later }
def LockWaitsCardSaid : Prop := Claim7.holds Tryd.pinned (.plain (OpenSpec.ofChange lockWaitsSpec)) lockWaitsCard

/-- THE TIED CARD OF 'padlocklaw.LockVictims'. -/
def lockVictimsCard : Claim7 := { stood := { row := lockVictimsRow, standIns := [], harness := (true, "93d4535b64df804c4ae7a917d584c321faaa67fd98e5d43d5003bf50dcb9e233"), looks := true }, kinds := [], alts := [], laidByText := true, laidKinds := [.data, .data], laidTests := true, laidLooks := .later }
def LockVictimsCardSaid : Prop := Claim7.holds Tryd.pinned (.plain (OpenSpec.ofChange lockVictimsSpec)) lockVictimsCard

/-- THE SECOND FORM's CARD OF 'padlocklaw.CodecEncodes'. -/
def codecEncodesUptoCard : Claim7 := { stood := { row := codecEncodesUptoRow, standIns := [], harness := (true, "93d4535b64df804c4ae7a917d584c321faaa67fd98e5d43d5003bf50dcb9e233"), looks := true }, kinds := [], alts := [], laidByText := true, laidKinds := [.data, .pinned], laidTests := true, laidLooks := .later }
def CodecEncodesUptoCardSaid : Prop := Claim7.holds Tryd.pinned (.plain (OpenSpec.upto codecEncodesSpec)) codecEncodesUptoCard

/-- THE SECOND FORM's CARD OF 'padlocklaw.LexJoins'. -/
def lexJoinsUptoCard : Claim7 := { stood := { row := lexJoinsUptoRow, standIns := [], harness := (true, "93d4535b64df804c4ae7a917d584c321faaa67fd98e5d43d5003bf50dcb9e233"), looks := true }, kinds := [], alts := [], laidByText := true, laidKinds := [.data, .data, .data, .data, .widerDeep, .pinned], laidTests := true, laidLooks := .later }
def LexJoinsUptoCardSaid : Prop := Claim7.holds Tryd.pinned (.plain (OpenSpec.upto lexJoinsSpec)) lexJoinsUptoCard

/-- THE SECOND FORM's CARD OF 'padlocklaw.LexCuts'. -/
def lexCutsUptoCard : Claim7 := { stood := { row := lexCutsUptoRow, standIns := [], harness := (true, "93d4535b64df804c4ae7a917d584c321faaa67fd98e5d43d5003bf50dcb9e233"), looks := true }, kinds := [], alts := [], laidByText := true, laidKinds := [.data, .data, .data, .sentinel, .sentinel, .widerDeep], laidTests := true, laidLooks := .later }
def LexCutsUptoCardSaid : Prop := Claim7.holds Tryd.pinned (.plain (OpenSpec.upto lexCutsSpec)) lexCutsUptoCard

/-- THE SECOND FORM's CARD OF 'padlocklaw.LockLeaves'. -/
def lockLeavesUptoCard : Claim7 := { stood := { row := lockLeavesUptoRow, standIns := [], harness := (true, "93d4535b64df804c4ae7a917d584c321faaa67fd98e5d43d5003bf50dcb9e233"), looks := true }, kinds := [], alts := [], laidByText := true, laidKinds := [.data, .data], laidTests := true, laidLooks := .later }
def LockLeavesUptoCardSaid : Prop := Claim7.holds Tryd.pinned (.plain (OpenSpec.upto lockLeavesSpec)) lockLeavesUptoCard

/-- THE SECOND FORM's CARD OF 'padlocklaw.LockWaits'. -/
def lockWaitsUptoCard : Claim7 := { stood := { row := lockWaitsUptoRow, standIns := [], harness := (true, "93d4535b64df804c4ae7a917d584c321faaa67fd98e5d43d5003bf50dcb9e233"), looks := true }, kinds := [], alts := [], laidByText := true, laidKinds := [.data, .data], laidTests := true, laidLooks := .later }
def LockWaitsUptoCardSaid : Prop := Claim7.holds Tryd.pinned (.plain (OpenSpec.upto lockWaitsSpec)) lockWaitsUptoCard

/-- THE SECOND FORM's CARD OF 'padlocklaw.LockVictims'. -/
def lockVictimsUptoCard : Claim7 := { stood := { row := lockVictimsUptoRow, standIns := [], harness := (true, "93d4535b64df804c4ae7a917d584c321faaa67fd98e5d43d5003bf50dcb9e233"), looks := true }, kinds := [], alts := [], laidByText := true, laidKinds := [.data, .data], laidTests := true, laidLooks := .later }
def LockVictimsUptoCardSaid : Prop := Claim7.holds Tryd.pinned (.plain (OpenSpec.upto lockVictimsSpec)) lockVictimsUptoCard
end Rows
end Go.Proofs.YteebiklebedneaaDoor
