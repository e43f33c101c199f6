/-
  DERIVED. GIVEN WITH THE SEED: THE CARDS: each row of YtkjgnnhpjcofiaaGreatDoorRows.lean that lists a variable, with what it lists TIED to the program's text (the seventh form; the later family's looks); each row that meets fmt, with fmt's text TOLD by the authors' own Lean function (tested against real Go, not proved from fmt's source: count such statements apart). THE CARD IS WHAT COUNTS. Prove the row's statement (the work); the ties are given (YtkjgnnhpjcofiaaGreatDoorTie.lean); close each card by the builder's one call (the guide's Derived/Test/ToyasCard.lean, 'card_holds'). Laid BY PROGRAM, IN A SANDBOX (cutbox-door.mjs). By AI agents, Wed Nov 11 2026. No macro, syntax, notation, axiom, sorry.
-/
import Derived.Test.YtkjgnnhpjcofiaaGreatDoorRows
import GoSem.ClaimSeven
namespace Go.Proofs.YtkjgnnhpjcofiaaGreatDoor
namespace Rows

/-- THE TIED CARD OF 'laws.FnExactReadFiles'. -/
def fnExactReadFilesCard : Claim7 := { stood := { row := fnExactReadFilesRow, standIns := [], harness := (true, "bd1f6797d0c3dcbd465a462b25188b5e7b5562051f19fe5b5d8adf3edbec2993"), looks := true }, kinds := [], alts := [], laidByText := true, laidKinds := [.data, .data, .data, .data, .pinned], laidTests := true, laidLooks := .later }
def FnExactReadFilesCardSaid : Prop := Claim7.holds Tryz.pinned (.plain (OpenSpec.ofChange fnExactReadFilesSpec)) fnExactReadFilesCard

/-- THE TIED CARD OF 'laws.FnExactWriteFiles'. -/
def fnExactWriteFilesCard : Claim7 := { stood := { row := fnExactWriteFilesRow, standIns := [], harness := (true, "bd1f6797d0c3dcbd465a462b25188b5e7b5562051f19fe5b5d8adf3edbec2993"), looks := true }, kinds := [], alts := [], laidByText := true, laidKinds := [.data, .data, .data, .data, .pinned], laidTests := true, laidLooks := .later }
def FnExactWriteFilesCardSaid : Prop := Claim7.holds Tryz.pinned (.plain (OpenSpec.ofChange fnExactWriteFilesSpec)) fnExactWriteFilesCard

/-- THE TIED CARD OF 'laws.FnExactAddCommit'. -/
def fnExactAddCommitCard : Claim7 := { stood := { row := fnExactAddCommitRow, standIns := [], harness := (true, "bd1f6797d0c3dcbd465a462b25188b5e7b5562051f19fe5b5d8adf3edbec2993"), looks := true }, kinds := [], alts := [], laidByText := true, laidKinds := [.data, .data, .data, .data, .pinned], laidTests := true, laidLooks := .later }
def FnExactAddCommitCardSaid : Prop := Claim7.holds Tryz.pinned (.plain (OpenSpec.ofChange fnExactAddCommitSpec)) fnExactAddCommitCard

/-- THE TIED CARD OF 'laws.FnExactCommitFiles'. -/
def fnExactCommitFilesCard : Claim7 := { stood := { row := fnExactCommitFilesRow, standIns := [], harness := (true, "bd1f6797d0c3dcbd465a462b25188b5e7b5562051f19fe5b5d8adf3edbec2993"), looks := true }, kinds := [], alts := [], laidByText := true, laidKinds := [.data, .data, .data, .data, .sentinel, .sentinel, .pinned], laidTests := true, laidLooks := .later }
def FnExactCommitFilesCardSaid : Prop := Claim7.holds Tryz.pinned (.plain (OpenSpec.ofChange fnExactCommitFilesSpec)) fnExactCommitFilesCard

/-- THE TIED CARD OF 'laws.FnExactMovesOf'. -/
def fnExactMovesOfCard : Claim7 := { stood := { row := fnExactMovesOfRow, standIns := [], harness := (true, "bd1f6797d0c3dcbd465a462b25188b5e7b5562051f19fe5b5d8adf3edbec2993"), looks := true }, kinds := [], alts := [], laidByText := true, laidKinds := [.data, .data, .data, .data, .pinned], laidTests := true, laidLooks := .later }
def FnExactMovesOfCardSaid : Prop := Claim7.holds Tryz.pinned (.plain (OpenSpec.ofChange fnExactMovesOfSpec)) fnExactMovesOfCard

/-- THE SECOND FORM's CARD OF 'laws.FnExactReadFiles'. -/
def fnExactReadFilesUptoCard : Claim7 := { stood := { row := fnExactReadFilesUptoRow, standIns := [], harness := (true, "bd1f6797d0c3dcbd465a462b25188b5e7b5562051f19fe5b5d8adf3edbec2993"), looks := true }, kinds := [], alts := [], laidByText := true, laidKinds := [.data, .data, .data, .data, .pinned], laidTests := true, laidLooks := .later }
def FnExactReadFilesUptoCardSaid : Prop := Claim7.holds Tryz.pinned (.plain (OpenSpec.upto fnExactReadFilesSpec)) fnExactReadFilesUptoCard

/-- THE SECOND FORM's CARD OF 'laws.FnExactWriteFiles'. -/
def fnExactWriteFilesUptoCard : Claim7 := { stood := { row := fnExactWriteFilesUptoRow, standIns := [], harness := (true, "bd1f6797d0c3dcbd465a462b25188b5e7b5562051f19fe5b5d8adf3edbec2993"), looks := true }, kinds := [], alts := [], laidByText := true, laidKinds := [.data, .data, .data, .data, .pinned], laidTests := true, laidLooks := .later }
def FnExactWriteFilesUptoCardSaid : Prop := Claim7.holds Tryz.pinned (.plain (OpenSpec.upto fnExactWriteFilesSpec)) fnExactWriteFilesUptoCard

/-- THE SECOND FORM's CARD OF 'laws.FnExactAddCommit'. -/
def fnExactAddCommitUptoCard : Claim7 := { stood := { row := fnExactAddCommitUptoRow, standIns := [], harness := (true, "bd1f6797d0c3dcbd465a462b25188b5e7b5562051f19fe5b5d8adf3edbec2993"), looks := true }, kinds := [], alts := [], laidByText := true, laidKinds := [.data, .data, .data, .data, .pinned], laidTests := true, laidLooks := .later }
def FnExactAddCommitUptoCardSaid : Prop := Claim7.holds Tryz.pinned (.plain (OpenSpec.upto fnExactAddCommitSpec)) fnExactAddCommitUptoCard

/-- THE SECOND FORM's CARD OF 'laws.FnExactCommitFiles'. -/
def fnExactCommitFilesUptoCard : Claim7 := { stood := { row := fnExactCommitFilesUptoRow, standIns := [], harness := (true, "bd1f6797d0c3dcbd465a462b25188b5e7b5562051f19fe5b5d8adf3edbec2993"), looks := true }, kinds := [], alts := [], laidByText := true, laidKinds := [.data, .data, .data, .data, .sentinel, .sentinel, .pinned], laidTests := true, laidLooks := .later }
def FnExactCommitFilesUptoCardSaid : Prop := Claim7.holds Tryz.pinned (.plain (OpenSpec.upto fnExactCommitFilesSpec)) fnExactCommitFilesUptoCard

/-- THE SECOND FORM's CARD OF 'laws.FnExactMovesOf'. -/
def fnExactMovesOfUptoCard : Claim7 := { stood := { row := fnExactMovesOfUptoRow, standIns := [], harness := (true, "bd1f6797d0c3dcbd465a462b25188b5e7b5562051f19fe5b5d8adf3edbec2993"), looks := true }, kinds := [], alts := [], laidByText := true, laidKinds := [.data, .data, .data, .data, .pinned], laidTests := true, laidLooks := .later }
def FnExactMovesOfUptoCardSaid : Prop := Claim7.holds Tryz.pinned (.plain (OpenSpec.upto fnExactMovesOfSpec)) fnExactMovesOfUptoCard
end Rows
end Go.Proofs.YtkjgnnhpjcofiaaGreatDoor
