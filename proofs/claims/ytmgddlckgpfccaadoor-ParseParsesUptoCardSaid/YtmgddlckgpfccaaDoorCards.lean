/-
  DERIVED. GIVEN WITH THE SEED: THE CARDS: each row of YtmgddlckgpfccaaDoorRows.lean that lists a variable, with what it lists TIED to the program's text (the seventh form; the later family's looks); each row that meets fmt, with fmt's text TOLD by the authors' own Lean function (tested against real Go, not proved from fmt's source: count such statements apart). THE CARD IS WHAT COUNTS. Prove the row's statement (the work); the ties are given (YtmgddlckgpfccaaDoorTie.lean); close each card by the builder's one call (the guide's Derived/Test/ToyasCard.lean, 'card_holds'). Laid BY PROGRAM, IN A SANDBOX (cutbox-door.mjs). By AI agents, Wed Nov 11 2026. No macro, syntax, notation, axiom, sorry.
-/
import Derived.Test.YtmgddlckgpfccaaDoorRows
import GoSem.ClaimSeven
namespace Go.Proofs.YtmgddlckgpfccaaDoor
namespace Rows

/-- THE TIED CARD OF 'padlocklaw.ParseParses'. -/
def parseParsesCard : Claim7 := { stood := { row := parseParsesRow, standIns := [], harness := (true, "291946b777963ba484d760250cd60ef3d29bbf3aa52ea234cb8ff717d49e666e"), looks := true }, kinds := [], alts := [], laidByText := true, laidKinds := [.widerDeep, .widerDeep, .data, .data], laidTests := true, laidLooks := .later }
def ParseParsesCardSaid : Prop := Claim7.holds Tryd.pinned (.plain (OpenSpec.ofChange parseParsesSpec)) parseParsesCard

/-- THE SECOND FORM's CARD OF 'padlocklaw.ParseParses'. -/
def parseParsesUptoCard : Claim7 := { stood := { row := parseParsesUptoRow, standIns := [], harness := (true, "291946b777963ba484d760250cd60ef3d29bbf3aa52ea234cb8ff717d49e666e"), looks := true }, kinds := [], alts := [], laidByText := true, laidKinds := [.widerDeep, .widerDeep, .data, .data], laidTests := true, laidLooks := .later }
def ParseParsesUptoCardSaid : Prop := Claim7.holds Tryd.pinned (.plain (OpenSpec.upto parseParsesSpec)) parseParsesUptoCard
end Rows
end Go.Proofs.YtmgddlckgpfccaaDoor
