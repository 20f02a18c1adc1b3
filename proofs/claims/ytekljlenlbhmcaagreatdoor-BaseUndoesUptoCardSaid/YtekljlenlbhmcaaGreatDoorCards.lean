/-
  DERIVED. GIVEN WITH THE SEED: THE CARDS: each row of YtekljlenlbhmcaaGreatDoorRows.lean that lists a variable, with what it lists TIED to the program's text (the seventh form; the later family's looks); each row that meets fmt, with fmt's text TOLD by the authors' own Lean function (tested against real Go, not proved from fmt's source: count such statements apart). THE CARD IS WHAT COUNTS. Prove the row's statement (the work); the ties are given (YtekljlenlbhmcaaGreatDoorTie.lean); close each card by the builder's one call (the guide's Derived/Test/ToyasCard.lean, 'card_holds'). Laid BY PROGRAM, IN A SANDBOX (cutbox-door.mjs). By AI agents, Wed Nov 11 2026. No macro, syntax, notation, axiom, sorry.
-/
import Derived.Test.YtekljlenlbhmcaaGreatDoorRows
import GoSem.ClaimSeven
namespace Go.Proofs.YtekljlenlbhmcaaGreatDoor
namespace Rows

/-- THE TIED CARD OF 'padlocklaw.BaseChecks'. -/
def baseChecksCard : Claim7 := { stood := { row := baseChecksRow, standIns := [], harness := (true, "4357cc3d538593eb8da8b65a79668660c2ca098f7f615d8bdc2d2ec4c33d15a8"), looks := false }, kinds := [], alts := [], laidByText := true, laidKinds := [.data, .widerDeep, .widerDeep, .data, .pinned], laidTests := true, laidLooks := .later }
def BaseChecksCardSaid : Prop := Claim7.holds Tryz.pinned (.plain (OpenSpec.ofChange baseChecksSpec)) baseChecksCard

/-- THE TIED CARD OF 'padlocklaw.BaseChanges'. -/
def baseChangesCard : Claim7 := { stood := { row := baseChangesRow, standIns := [], harness := (true, "4357cc3d538593eb8da8b65a79668660c2ca098f7f615d8bdc2d2ec4c33d15a8"), looks := false }, kinds := [], alts := [], laidByText := true, laidKinds := [.data, .widerDeep, .widerDeep, .data, .pinned], laidTests := true, laidLooks := .later }
def BaseChangesCardSaid : Prop := Claim7.holds Tryz.pinned (.plain (OpenSpec.ofChange baseChangesSpec)) baseChangesCard

/-- THE TIED CARD OF 'padlocklaw.BaseRows'. -/
def baseRowsCard : Claim7 := { stood := { row := baseRowsRow, standIns := [], harness := (true, "4357cc3d538593eb8da8b65a79668660c2ca098f7f615d8bdc2d2ec4c33d15a8"), looks := false }, kinds := [], alts := [], laidByText := true, laidKinds := [.data, .widerDeep, .widerDeep, .data, .pinned], laidTests := true, laidLooks := .later }
def BaseRowsCardSaid : Prop := Claim7.holds Tryz.pinned (.plain (OpenSpec.ofChange baseRowsSpec)) baseRowsCard

/-- THE TIED CARD OF 'padlocklaw.BaseUndoes'. -/
def baseUndoesCard : Claim7 := { stood := { row := baseUndoesRow, standIns := [], harness := (true, "4357cc3d538593eb8da8b65a79668660c2ca098f7f615d8bdc2d2ec4c33d15a8"), looks := false }, kinds := [], alts := [], laidByText := true, laidKinds := [.data, .widerDeep, .widerDeep, .data, .pinned], laidTests := true, laidLooks := .later }
def BaseUndoesCardSaid : Prop := Claim7.holds Tryz.pinned (.plain (OpenSpec.ofChange baseUndoesSpec)) baseUndoesCard

/-- THE TIED CARD OF 'padlocklaw.NeedNeeds'. -/
def needNeedsCard : Claim7 := { stood := { row := needNeedsRow, standIns := [], harness := (true, "4357cc3d538593eb8da8b65a79668660c2ca098f7f615d8bdc2d2ec4c33d15a8"), looks := false }, kinds := [], alts := [], laidByText := true, laidKinds := [.data, .widerDeep, .widerDeep, .data, .pinned], laidTests := true, laidLooks := .later }
def NeedNeedsCardSaid : Prop := Claim7.holds Tryz.pinned (.plain (OpenSpec.ofChange needNeedsSpec)) needNeedsCard

/-- THE TIED CARD OF 'padlocklaw.BaseRuns'. -/
def baseRunsCard : Claim7 := { stood := { row := baseRunsRow, standIns := [], harness := (true, "4357cc3d538593eb8da8b65a79668660c2ca098f7f615d8bdc2d2ec4c33d15a8"), looks := false }, kinds := [], alts := [], laidByText := true, laidKinds := [.data, .widerDeep, .widerDeep, .data, .pinned], laidTests := true, laidLooks := .later }
def BaseRunsCardSaid : Prop := Claim7.holds Tryz.pinned (.plain (OpenSpec.ofChange baseRunsSpec)) baseRunsCard

/-- THE SECOND FORM's CARD OF 'padlocklaw.BaseChecks'. -/
def baseChecksUptoCard : Claim7 := { stood := { row := baseChecksUptoRow, standIns := [], harness := (true, "4357cc3d538593eb8da8b65a79668660c2ca098f7f615d8bdc2d2ec4c33d15a8"), looks := false }, kinds := [], alts := [], laidByText := true, laidKinds := [.data, .widerDeep, .widerDeep, .data, .pinned], laidTests := true, laidLooks := .later }
def BaseChecksUptoCardSaid : Prop := Claim7.holds Tryz.pinned (.plain (OpenSpec.upto baseChecksSpec)) baseChecksUptoCard

/-- THE SECOND FORM's CARD OF 'padlocklaw.BaseChanges'. -/
def baseChangesUptoCard : Claim7 := { stood := { row := baseChangesUptoRow, standIns := [], harness := (true, "4357cc3d538593eb8da8b65a79668660c2ca098f7f615d8bdc2d2ec4c33d15a8"), looks := false }, kinds := [], alts := [], laidByText := true, laidKinds := [.data, .widerDeep, .widerDeep, .data, .pinned], laidTests := true, laidLooks := .later }
def BaseChangesUptoCardSaid : Prop := Claim7.holds Tryz.pinned (.plain (OpenSpec.upto baseChangesSpec)) baseChangesUptoCard

/-- THE SECOND FORM's CARD OF 'padlocklaw.BaseRows'. -/
def baseRowsUptoCard : Claim7 := { stood := { row := baseRowsUptoRow, standIns := [], harness := (true, "4357cc3d538593eb8da8b65a79668660c2ca098f7f615d8bdc2d2ec4c33d15a8"), looks := false }, kinds := [], alts := [], laidByText := true, laidKinds := [.data, .widerDeep, .widerDeep, .data, .pinned], laidTests := true, laidLooks := .later }
def BaseRowsUptoCardSaid : Prop := Claim7.holds Tryz.pinned (.plain (OpenSpec.upto baseRowsSpec)) baseRowsUptoCard

/-- THE SECOND FORM's CARD OF 'padlocklaw.BaseUndoes'. -/
def baseUndoesUptoCard : Claim7 := { stood := { row := baseUndoesUptoRow, standIns := [], harness := (true, "4357cc3d538593eb8da8b65a79668660c2ca098f7f615d8bdc2d2ec4c33d15a8"), looks := false }, kinds := [], alts := [], laidByText := true, laidKinds := [.data, .widerDeep, .widerDeep, .data, .pinned], laidTests := true, laidLooks := .later }
def BaseUndoesUptoCardSaid : Prop := Claim7.holds Tryz.pinned (.plain (OpenSpec.upto baseUndoesSpec)) baseUndoesUptoCard

/-- THE SECOND FORM's CARD OF 'padlocklaw.NeedNeeds'. -/
def needNeedsUptoCard : Claim7 := { stood := { row := needNeedsUptoRow, standIns := [], harness := (true, "4357cc3d538593eb8da8b65a79668660c2ca098f7f615d8bdc2d2ec4c33d15a8"), looks := false }, kinds := [], alts := [], laidByText := true, laidKinds := [.data, .widerDeep, .widerDeep, .data, .pinned], laidTests := true, laidLooks := .later }
def NeedNeedsUptoCardSaid : Prop := Claim7.holds Tryz.pinned (.plain (OpenSpec.upto needNeedsSpec)) needNeedsUptoCard

/-- THE SECOND FORM's CARD OF 'padlocklaw.BaseRuns'. -/
def baseRunsUptoCard : Claim7 := { stood := { row := baseRunsUptoRow, standIns := [], harness := (true, "4357cc3d538593eb8da8b65a79668660c2ca098f7f615d8bdc2d2ec4c33d15a8"), looks := false }, kinds := [], alts := [], laidByText := true, laidKinds := [.data, .widerDeep, .widerDeep, .data, .pinned], laidTests := true, laidLooks := .later }
def BaseRunsUptoCardSaid : Prop := Claim7.holds Tryz.pinned (.plain (OpenSpec.upto baseRunsSpec)) baseRunsUptoCard
end Rows
end Go.Proofs.YtekljlenlbhmcaaGreatDoor
