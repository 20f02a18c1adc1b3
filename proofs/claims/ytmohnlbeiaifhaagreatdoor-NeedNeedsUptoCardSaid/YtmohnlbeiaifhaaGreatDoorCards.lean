/-
  DERIVED. GIVEN WITH THE SEED: THE CARDS: each row of YtmohnlbeiaifhaaGreatDoorRows.lean that lists a variable, with what it lists TIED to the program's text (the seventh form; the later family's looks); each row that meets fmt, with fmt's text TOLD by the authors' own Lean function (tested against real Go, not proved from fmt's source: count such statements apart). THE CARD IS WHAT COUNTS. Prove the row's statement (the work); the ties are given (YtmohnlbeiaifhaaGreatDoorTie.lean); close each card by the builder's one call (the guide's Derived/Test/ToyasCard.lean, 'card_holds'). Laid BY PROGRAM, IN A SANDBOX (cutbox-door.mjs). By AI agents, Wed Nov 11 2026. No macro, syntax, notation, axiom, sorry.
-/
import Derived.Test.YtmohnlbeiaifhaaGreatDoorRows
import GoSem.ClaimSeven
namespace Go.Proofs.YtmohnlbeiaifhaaGreatDoor
namespace Rows

/-- THE TIED CARD OF 'padlocklaw.NeedNeeds'. -/
def needNeedsCard : Claim7 := { stood := { row := needNeedsRow, standIns := [], harness := (true, "10dbd69bca67e126121adcdab7d34b08fd339515dd5f58d49aa2d884965030e6"), looks := false }, kinds := [], alts := [], laidByText := true, laidKinds := [.data, .widerDeep, .widerDeep, .data, .pinned], laidTests := true, laidLooks := .later }
def NeedNeedsCardSaid : Prop := Claim7.holds Tryz.pinned (.plain (OpenSpec.ofChange needNeedsSpec)) needNeedsCard

/-- THE SECOND FORM's CARD OF 'padlocklaw.NeedNeeds'. -/
def needNeedsUptoCard : Claim7 := { stood := { row := needNeedsUptoRow, standIns := [], harness := (true, "10dbd69bca67e126121adcdab7d34b08fd339515dd5f58d49aa2d884965030e6"), looks := false }, kinds := [], alts := [], laidByText := true, laidKinds := [.data, .widerDeep, .widerDeep, .data, .pinned], laidTests := true, laidLooks := .later }
def NeedNeedsUptoCardSaid : Prop := Claim7.holds Tryz.pinned (.plain (OpenSpec.upto needNeedsSpec)) needNeedsUptoCard
end Rows
end Go.Proofs.YtmohnlbeiaifhaaGreatDoor
