/-
  DERIVED. GIVEN WITH THE SEED: THE CARDS: each row of YtoecmmpjndcolaaDoorRows.lean that lists a variable, with what it lists TIED to the program's text (the seventh form; the later family's looks); each row that meets fmt, with fmt's text TOLD by the authors' own Lean function (tested against real Go, not proved from fmt's source: count such statements apart). THE CARD IS WHAT COUNTS. Prove the row's statement (the work); the ties are given (YtoecmmpjndcolaaDoorTie.lean); close each card by the builder's one call (the guide's Derived/Test/ToyasCard.lean, 'card_holds'). Laid BY PROGRAM, IN A SANDBOX (cutbox-door.mjs). By AI agents, Wed Nov 11 2026. No macro, syntax, notation, axiom, sorry.
-/
import Derived.Test.YtoecmmpjndcolaaDoorRows
import GoSem.ClaimSeven
namespace Go.Proofs.YtoecmmpjndcolaaDoor
namespace Rows

/-- THE TIED CARD OF 'padlocklaw.ExprCols'. -/
def exprColsCard : Claim7 := { stood := { row := exprColsRow, standIns := [], harness := (true, "054b409739d4c8563087c9bfe7695b86141c8451f697ddc36bfef403a28318fc"), looks := true }, kinds := [], alts := [], laidByText := true, laidKinds := [.widerDeep, .widerDeep, .data], laidTests := true, laidLooks := .later }
def ExprColsCardSaid : Prop := Claim7.holds Tryd.pinned (.plain (OpenSpec.ofChange exprColsSpec)) exprColsCard

/-- THE TIED CARD OF 'padlocklaw.ExprRows'. -/
def exprRowsCard : Claim7 := { stood := { row := exprRowsRow, standIns := [], harness := (true, "054b409739d4c8563087c9bfe7695b86141c8451f697ddc36bfef403a28318fc"), looks := true }, kinds := [], alts := [], laidByText := true, laidKinds := [.widerDeep, .widerDeep, .data], laidTests := true, laidLooks := .later }
def ExprRowsCardSaid : Prop := Claim7.holds Tryd.pinned (.plain (OpenSpec.ofChange exprRowsSpec)) exprRowsCard

/-- THE TIED CARD OF 'padlocklaw.ExprKinds'. -/
def exprKindsCard : Claim7 := { stood := { row := exprKindsRow, standIns := [], harness := (true, "054b409739d4c8563087c9bfe7695b86141c8451f697ddc36bfef403a28318fc"), looks := true }, kinds := [], alts := [], laidByText := true, laidKinds := [.widerDeep, .widerDeep, .data], laidTests := true, laidLooks := .later }
def ExprKindsCardSaid : Prop := Claim7.holds Tryd.pinned (.plain (OpenSpec.ofChange exprKindsSpec)) exprKindsCard

/-- THE TIED CARD OF 'padlocklaw.ParseChecks'. -/
def parseChecksCard : Claim7 := { stood := { row := parseChecksRow, standIns := [], harness := (true, "054b409739d4c8563087c9bfe7695b86141c8451f697ddc36bfef403a28318fc"), looks := true }, kinds := [], alts := [], laidByText := true, laidKinds := [.widerDeep, .widerDeep, .data], laidTests := true, laidLooks := .later }
def ParseChecksCardSaid : Prop := Claim7.holds Tryd.pinned (.plain (OpenSpec.ofChange parseChecksSpec)) parseChecksCard

/-- THE TIED CARD OF 'padlocklaw.ParseShows'. -/
def parseShowsCard : Claim7 := { stood := { row := parseShowsRow, standIns := [], harness := (true, "054b409739d4c8563087c9bfe7695b86141c8451f697ddc36bfef403a28318fc"), looks := true }, kinds := [], alts := [], laidByText := true, laidKinds := [.widerDeep, .widerDeep, .data], laidTests := true, laidLooks := .later }
def ParseShowsCardSaid : Prop := Claim7.holds Tryd.pinned (.plain (OpenSpec.ofChange parseShowsSpec)) parseShowsCard

/-- THE TIED CARD OF 'padlocklaw.ParseParses'. -/
def parseParsesCard : Claim7 := { stood := { row := parseParsesRow, standIns := [], harness := (true, "054b409739d4c8563087c9bfe7695b86141c8451f697ddc36bfef403a28318fc"), looks := true }, kinds := [], alts := [], laidByText := true, laidKinds := [.widerDeep, .widerDeep, .data, .data], laidTests := true, laidLooks := .later }
def ParseParsesCardSaid : Prop := Claim7.holds Tryd.pinned (.plain (OpenSpec.ofChange parseParsesSpec)) parseParsesCard

/-- THE SECOND FORM's CARD OF 'padlocklaw.ExprCols'. -/
def exprColsUptoCard : Claim7 := { stood := { row := exprColsUptoRow, standIns := [], harness := (true, "054b409739d4c8563087c9bfe7695b86141c8451f697ddc36bfef403a28318fc"), looks := true }, kinds := [], alts := [], laidByText := true, laidKinds := [.widerDeep, .widerDeep, .data], laidTests := true, laidLooks := .later }
def ExprColsUptoCardSaid : Prop := Claim7.holds Tryd.pinned (.plain (OpenSpec.upto exprColsSpec)) exprColsUptoCard

/-- THE SECOND FORM's CARD OF 'padlocklaw.ExprRows'. -/
def exprRowsUptoCard : Claim7 := { stood := { row := exprRowsUptoRow, standIns := [], harness := (true, "054b409739d4c8563087c9bfe7695b86141c8451f697ddc36bfef403a28318fc"), looks := true }, kinds := [], alts := [], laidByText := true, laidKinds := [.widerDeep, .widerDeep, .data], laidTests := true, laidLooks := .later }
def ExprRowsUptoCardSaid : Prop := Claim7.holds Tryd.pinned (.plain (OpenSpec.upto exprRowsSpec)) exprRowsUptoCard

/-- THE SECOND FORM's CARD OF 'padlocklaw.ExprKinds'. -/
def exprKindsUptoCard : Claim7 := { stood := { row := exprKindsUptoRow, standIns := [], harness := (true, "054b409739d4c8563087c9bfe7695b86141c8451f697ddc36bfef403a28318fc"), looks := true }, kinds := [], alts := [], laidByText := true, laidKinds := [.widerDeep, .widerDeep, .data], laidTests := true, laidLooks := .later }
def ExprKindsUptoCardSaid : Prop := Claim7.holds Tryd.pinned (.plain (OpenSpec.upto exprKindsSpec)) exprKindsUptoCard

/-- THE SECOND FORM's CARD OF 'padlocklaw.ParseChecks'. -/
def parseChecksUptoCard : Claim7 := { stood := { row := parseChecksUptoRow, standIns := [], harness := (true, "054b409739d4c8563087c9bfe7695b86141c8451f697ddc36bfef403a28318fc"), looks := true }, kinds := [], alts := [], laidByText := true, laidKinds := [.widerDeep, .widerDeep, .data], laidTests := true, laidLooks := .later }
def ParseChecksUptoCardSaid : Prop := Claim7.holds Tryd.pinned (.plain (OpenSpec.upto parseChecksSpec)) parseChecksUptoCard

/-- THE SECOND FORM's CARD OF 'padlocklaw.ParseShows'. -/
def parseShowsUptoCard : Claim7 := { stood := { row := parseShowsUptoRow, standIns := [], harness := (true, "054b409739d4c8563087c9bfe7695b86141c8451f697ddc36bfef403a28318fc"), looks := true }, kinds := [], alts := [], laidByText := true, laidKinds := [.widerDeep, .widerDeep, .data], laidTests := true, laidLooks := .later }
def ParseShowsUptoCardSaid : Prop := Claim7.holds Tryd.pinned (.plain (OpenSpec.upto parseShowsSpec)) parseShowsUptoCard

/-- THE SECOND FORM's CARD OF 'padlocklaw.ParseParses'. -/
def parseParsesUptoCard : Claim7 := { stood := { row := parseParsesUptoRow, standIns := [], harness := (true, "054b409739d4c8563087c9bfe7695b86141c8451f697ddc36bfef403a28318fc"), looks := true }, kinds := [], alts := [], laidByText := true, laidKinds := [.widerDeep, .widerDeep, .data, .data], laidTests := true, laidLooks := .later }
def ParseParsesUptoCardSaid : Prop := Claim7.holds Tryd.pinned (.plain (OpenSpec.upto parseParsesSpec)) parseParsesUptoCard
end Rows
end Go.Proofs.YtoecmmpjndcolaaDoor
