/-
  DERIVED. GIVEN WITH THE SEED: THE CARDS: each row of YtoecmmpjndcolaaGreatDoorRows.lean that lists a variable, with what it lists TIED to the program's text (the seventh form; the later family's looks); each row that meets fmt, with fmt's text TOLD by the authors' own Lean function (tested against real Go, not proved from fmt's source: count such statements apart). THE CARD IS WHAT COUNTS. Prove the row's statement (the work); the ties are given (YtoecmmpjndcolaaGreatDoorTie.lean); close each card by the builder's one call (the guide's Derived/Test/ToyasCard.lean, 'card_holds'). Laid BY PROGRAM, IN A SANDBOX (cutbox-door.mjs). By AI agents, Wed Nov 11 2026. No macro, syntax, notation, axiom, sorry.
-/
import Derived.Test.YtoecmmpjndcolaaGreatDoorRows
import GoSem.ClaimSeven
namespace Go.Proofs.YtoecmmpjndcolaaGreatDoor
namespace Rows

/-- THE TIED CARD OF 'padlocklaw.ExprEvals'. -/
def exprEvalsCard : Claim7 := { stood := { row := exprEvalsRow, standIns := [], harness := (true, "a8a0d8d6e887cdaa91be9799718704c14b2c1b713d9be2a5bda7a77252a7f2f0"), looks := false }, kinds := [], alts := [], laidByText := true, laidKinds := [.widerDeep, .widerDeep, .data], laidTests := true, laidLooks := .later }
def ExprEvalsCardSaid : Prop := Claim7.holds Tryz.pinned (.plain (OpenSpec.ofChange exprEvalsSpec)) exprEvalsCard

/-- THE TIED CARD OF 'padlocklaw.ExprBounds'. -/
def exprBoundsCard : Claim7 := { stood := { row := exprBoundsRow, standIns := [], harness := (true, "a8a0d8d6e887cdaa91be9799718704c14b2c1b713d9be2a5bda7a77252a7f2f0"), looks := false }, kinds := [], alts := [], laidByText := true, laidKinds := [.data, .widerDeep, .widerDeep, .data, .pinned], laidTests := true, laidLooks := .later }
def ExprBoundsCardSaid : Prop := Claim7.holds Tryz.pinned (.plain (OpenSpec.ofChange exprBoundsSpec)) exprBoundsCard

/-- THE SECOND FORM's CARD OF 'padlocklaw.ExprEvals'. -/
def exprEvalsUptoCard : Claim7 := { stood := { row := exprEvalsUptoRow, standIns := [], harness := (true, "a8a0d8d6e887cdaa91be9799718704c14b2c1b713d9be2a5bda7a77252a7f2f0"), looks := false }, kinds := [], alts := [], laidByText := true, laidKinds := [.widerDeep, .widerDeep, .data], laidTests := true, laidLooks := .later }
def ExprEvalsUptoCardSaid : Prop := Claim7.holds Tryz.pinned (.plain (OpenSpec.upto exprEvalsSpec)) exprEvalsUptoCard

/-- THE SECOND FORM's CARD OF 'padlocklaw.ExprBounds'. -/
def exprBoundsUptoCard : Claim7 := { stood := { row := exprBoundsUptoRow, standIns := [], harness := (true, "a8a0d8d6e887cdaa91be9799718704c14b2c1b713d9be2a5bda7a77252a7f2f0"), looks := false }, kinds := [], alts := [], laidByText := true, laidKinds := [.data, .widerDeep, .widerDeep, .data, .pinned], laidTests := true, laidLooks := .later }
def ExprBoundsUptoCardSaid : Prop := Claim7.holds Tryz.pinned (.plain (OpenSpec.upto exprBoundsSpec)) exprBoundsUptoCard
end Rows
end Go.Proofs.YtoecmmpjndcolaaGreatDoor
