/-
  DERIVED. GIVEN WITH THE SEED: THE CARDS: each row of YtjibadlbiapcmaaGreatDoorRows.lean that lists a variable, with what it lists TIED to the program's text (the seventh form; the later family's looks); each row that meets fmt, with fmt's text TOLD by the authors' own Lean function (tested against real Go, not proved from fmt's source: count such statements apart). THE CARD IS WHAT COUNTS. Prove the row's statement (the work); the ties are given (YtjibadlbiapcmaaGreatDoorTie.lean); close each card by the builder's one call (the guide's Derived/Test/ToyasCard.lean, 'card_holds'). Laid BY PROGRAM, IN A SANDBOX (cutbox-door.mjs). By AI agents, Wed Nov 11 2026. No macro, syntax, notation, axiom, sorry.
-/
import Derived.Test.YtjibadlbiapcmaaGreatDoorRows
import GoSem.ClaimSeven
namespace Go.Proofs.YtjibadlbiapcmaaGreatDoor
namespace Rows

/-- THE TIED CARD OF 'laws.FnExactDiffFiles'. -/
def fnExactDiffFilesCard : Claim7 := { stood := { row := fnExactDiffFilesRow, standIns := [], harness := (true, "f7a08801a0a28e96c9ab35e66c7c578691beeb04788ed7e7bbe21dd43599c7b3"), looks := true }, kinds := [], alts := [], laidByText := true, laidKinds := [.data, .pinned], laidTests := true, laidLooks := .later }
def FnExactDiffFilesCardSaid : Prop := Claim7.holds Tryz.pinned (.plain (OpenSpec.ofChange fnExactDiffFilesSpec)) fnExactDiffFilesCard

/-- THE TIED CARD OF 'laws.FnExactDecodeCommit'. -/
def fnExactDecodeCommitCard : Claim7 := { stood := { row := fnExactDecodeCommitRow, standIns := [], harness := (true, "f7a08801a0a28e96c9ab35e66c7c578691beeb04788ed7e7bbe21dd43599c7b3"), looks := true }, kinds := [], alts := [], laidByText := true, laidKinds := [.data, .data, .data, .data, .sentinel, .sentinel, .pinned], laidTests := true, laidLooks := .later }
def FnExactDecodeCommitCardSaid : Prop := Claim7.holds Tryz.pinned (.plain (OpenSpec.ofChange fnExactDecodeCommitSpec)) fnExactDecodeCommitCard

/-- THE TIED CARD OF 'laws.FnExactParentsOf'. -/
def fnExactParentsOfCard : Claim7 := { stood := { row := fnExactParentsOfRow, standIns := [], harness := (true, "f7a08801a0a28e96c9ab35e66c7c578691beeb04788ed7e7bbe21dd43599c7b3"), looks := true }, kinds := [], alts := [], laidByText := true, laidKinds := [.data, .data, .data, .data, .sentinel, .sentinel, .pinned], laidTests := true, laidLooks := .later }
def FnExactParentsOfCardSaid : Prop := Claim7.holds Tryz.pinned (.plain (OpenSpec.ofChange fnExactParentsOfSpec)) fnExactParentsOfCard

/-- THE TIED CARD OF 'laws.FnExactReadFiles'. -/
def fnExactReadFilesCard : Claim7 := { stood := { row := fnExactReadFilesRow, standIns := [], harness := (true, "f7a08801a0a28e96c9ab35e66c7c578691beeb04788ed7e7bbe21dd43599c7b3"), looks := true }, kinds := [], alts := [], laidByText := true, laidKinds := [.data, .data, .data, .data, .pinned], laidTests := true, laidLooks := .later }
def FnExactReadFilesCardSaid : Prop := Claim7.holds Tryz.pinned (.plain (OpenSpec.ofChange fnExactReadFilesSpec)) fnExactReadFilesCard

/-- THE TIED CARD OF 'laws.FnExactWriteFiles'. -/
def fnExactWriteFilesCard : Claim7 := { stood := { row := fnExactWriteFilesRow, standIns := [], harness := (true, "f7a08801a0a28e96c9ab35e66c7c578691beeb04788ed7e7bbe21dd43599c7b3"), looks := true }, kinds := [], alts := [], laidByText := true, laidKinds := [.data, .data, .data, .data, .pinned], laidTests := true, laidLooks := .later }
def FnExactWriteFilesCardSaid : Prop := Claim7.holds Tryz.pinned (.plain (OpenSpec.ofChange fnExactWriteFilesSpec)) fnExactWriteFilesCard

/-- THE TIED CARD OF 'laws.FnExactIsAncestor'. -/
def fnExactIsAncestorCard : Claim7 := { stood := { row := fnExactIsAncestorRow, standIns := [], harness := (true, "f7a08801a0a28e96c9ab35e66c7c578691beeb04788ed7e7bbe21dd43599c7b3"), looks := true }, kinds := [], alts := [], laidByText := true, laidKinds := [.data, .data, .data, .data, .sentinel, .sentinel, .pinned], laidTests := true, laidLooks := .later }
def FnExactIsAncestorCardSaid : Prop := Claim7.holds Tryz.pinned (.plain (OpenSpec.ofChange fnExactIsAncestorSpec)) fnExactIsAncestorCard

/-- THE SECOND FORM's CARD OF 'laws.FnExactDiffFiles'. -/
def fnExactDiffFilesUptoCard : Claim7 := { stood := { row := fnExactDiffFilesUptoRow, standIns := [], harness := (true, "f7a08801a0a28e96c9ab35e66c7c578691beeb04788ed7e7bbe21dd43599c7b3"), looks := true }, kinds := [], alts := [], laidByText := true, laidKinds := [.data, .pinned], laidTests := true, laidLooks := .later }
def FnExactDiffFilesUptoCardSaid : Prop := Claim7.holds Tryz.pinned (.plain (OpenSpec.upto fnExactDiffFilesSpec)) fnExactDiffFilesUptoCard

/-- THE SECOND FORM's CARD OF 'laws.FnExactDecodeCommit'. -/
def fnExactDecodeCommitUptoCard : Claim7 := { stood := { row := fnExactDecodeCommitUptoRow, standIns := [], harness := (true, "f7a08801a0a28e96c9ab35e66c7c578691beeb04788ed7e7bbe21dd43599c7b3"), looks := true }, kinds := [], alts := [], laidByText := true, laidKinds := [.data, .data, .data, .data, .sentinel, .sentinel, .pinned], laidTests := true, laidLooks := .later }
def FnExactDecodeCommitUptoCardSaid : Prop := Claim7.holds Tryz.pinned (.plain (OpenSpec.upto fnExactDecodeCommitSpec)) fnExactDecodeCommitUptoCard

/-- THE SECOND FORM's CARD OF 'laws.FnExactParentsOf'. -/
def fnExactParentsOfUptoCard : Claim7 := { stood := { row := fnExactParentsOfUptoRow, standIns := [], harness := (true, "f7a08801a0a28e96c9ab35e66c7c578691beeb04788ed7e7bbe21dd43599c7b3"), looks := true }, kinds := [], alts := [], laidByText := true, laidKinds := [.data, .data, .data, .data, .sentinel, .sentinel, .pinned], laidTests := true, laidLooks := .later }
def FnExactParentsOfUptoCardSaid : Prop := Claim7.holds Tryz.pinned (.plain (OpenSpec.upto fnExactParentsOfSpec)) fnExactParentsOfUptoCard

/-- THE SECOND FORM's CARD OF 'laws.FnExactReadFiles'. -/
def fnExactReadFilesUptoCard : Claim7 := { stood := { row := fnExactReadFilesUptoRow, standIns := [], harness := (true, "f7a08801a0a28e96c9ab35e66c7c578691beeb04788ed7e7bbe21dd43599c7b3"), looks := true }, kinds := [], alts := [], laidByText := true, laidKinds := [.data, .data, .data, .data, .pinned], laidTests := true, laidLooks := .later }
def FnExactReadFilesUptoCardSaid : Prop := Claim7.holds Tryz.pinned (.plain (OpenSpec.upto fnExactReadFilesSpec)) fnExactReadFilesUptoCard

/-- THE SECOND FORM's CARD OF 'laws.FnExactWriteFiles'. -/
def fnExactWriteFilesUptoCard : Claim7 := { stood := { row := fnExactWriteFilesUptoRow, standIns := [], harness := (true, "f7a08801a0a28e96c9ab35e66c7c578691beeb04788ed7e7bbe21dd43599c7b3"), looks := true }, kinds := [], alts := [], laidByText := true, laidKinds := [.data, .data, .data, .data, .pinned], laidTests := true, laidLooks := .later }
def FnExactWriteFilesUptoCardSaid : Prop := Claim7.holds Tryz.pinned (.plain (OpenSpec.upto fnExactWriteFilesSpec)) fnExactWriteFilesUptoCard

/-- THE SECOND FORM's CARD OF 'laws.FnExactIsAncestor'. -/
def fnExactIsAncestorUptoCard : Claim7 := { stood := { row := fnExactIsAncestorUptoRow, standIns := [], harness := (true, "f7a08801a0a28e96c9ab35e66c7c578691beeb04788ed7e7bbe21dd43599c7b3"), looks := true }, kinds := [], alts := [], laidByText := true, laidKinds := [.data, .data, .data, .data, .sentinel, .sentinel, .pinned], laidTests := true, laidLooks := .later }
def FnExactIsAncestorUptoCardSaid : Prop := Claim7.holds Tryz.pinned (.plain (OpenSpec.upto fnExactIsAncestorSpec)) fnExactIsAncestorUptoCard
end Rows
end Go.Proofs.YtjibadlbiapcmaaGreatDoor
