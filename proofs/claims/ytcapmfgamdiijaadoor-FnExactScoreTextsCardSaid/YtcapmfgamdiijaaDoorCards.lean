/-
  DERIVED. GIVEN WITH THE SEED: THE CARDS: each row of YtcapmfgamdiijaaDoorRows.lean that lists a variable, with what it lists TIED to the program's text (the seventh form; the later family's looks); each row that meets fmt, with fmt's text TOLD by the authors' own Lean function (tested against real Go, not proved from fmt's source: count such statements apart). THE CARD IS WHAT COUNTS. Prove the row's statement (the work); the ties are given (YtcapmfgamdiijaaDoorTie.lean); close each card by the builder's one call (the guide's Derived/Test/ToyasCard.lean, 'card_holds'). Laid BY PROGRAM, IN A SANDBOX (cutbox-door.mjs). By AI agents, Wed Nov 11 2026. No macro, syntax, notation, axiom, sorry.
-/
import Derived.Test.YtcapmfgamdiijaaDoorRows
import GoSem.ClaimSeven
namespace Go.Proofs.YtcapmfgamdiijaaDoor
namespace Rows

/-- THE TIED CARD OF 'laws.FnExactScoreTexts'. -/
def fnExactScoreTextsCard : Claim7 := { stood := { row := fnExactScoreTextsRow, standIns := [], harness := (true, "da5a9c27be36cdb501ae6e17024c59e2da8236ca06ff54c1ef7779a68873c946"), looks := false }, kinds := [], alts := [], laidByText := true, laidKinds := [.data, .pinned], laidTests := true, laidLooks := .later }
def FnExactScoreTextsCardSaid : Prop := Claim7.holds Tryd.pinned (.plain (OpenSpec.ofChange fnExactScoreTextsSpec)) fnExactScoreTextsCard

/-- THE TIED CARD OF 'laws.FnExactCommitFault'. -/
def fnExactCommitFaultCard : Claim7 := { stood := { row := fnExactCommitFaultRow, standIns := [], harness := (true, "da5a9c27be36cdb501ae6e17024c59e2da8236ca06ff54c1ef7779a68873c946"), looks := false }, kinds := [], alts := [], laidByText := true, laidKinds := [.data, .pinned], laidTests := true, laidLooks := .later }
def FnExactCommitFaultCardSaid : Prop := Claim7.holds Tryd.pinned (.plain (OpenSpec.ofChange fnExactCommitFaultSpec)) fnExactCommitFaultCard

/-- THE TIED CARD OF 'laws.FnExactFilesFault'. -/
def fnExactFilesFaultCard : Claim7 := { stood := { row := fnExactFilesFaultRow, standIns := [], harness := (true, "da5a9c27be36cdb501ae6e17024c59e2da8236ca06ff54c1ef7779a68873c946"), looks := false }, kinds := [], alts := [], laidByText := true, laidKinds := [.data, .pinned], laidTests := true, laidLooks := .later }
def FnExactFilesFaultCardSaid : Prop := Claim7.holds Tryd.pinned (.plain (OpenSpec.ofChange fnExactFilesFaultSpec)) fnExactFilesFaultCard

/-- THE TIED CARD OF 'laws.FnExactMovesText'. -/
def fnExactMovesTextCard : Claim7 := { stood := { row := fnExactMovesTextRow, standIns := [], harness := (true, "da5a9c27be36cdb501ae6e17024c59e2da8236ca06ff54c1ef7779a68873c946"), looks := false }, kinds := [], alts := [], laidByText := true, laidKinds := [.data, .data, .data, .data, .pinned], laidTests := true, laidLooks := .later }
def FnExactMovesTextCardSaid : Prop := Claim7.holds Tryd.pinned (.plain (OpenSpec.ofChange fnExactMovesTextSpec)) fnExactMovesTextCard

/-- THE TIED CARD OF 'laws.FnExactTreeFault'. -/
def fnExactTreeFaultCard : Claim7 := { stood := { row := fnExactTreeFaultRow, standIns := [], harness := (true, "da5a9c27be36cdb501ae6e17024c59e2da8236ca06ff54c1ef7779a68873c946"), looks := false }, kinds := [], alts := [], laidByText := true, laidKinds := [.data, .pinned], laidTests := true, laidLooks := .later }
def FnExactTreeFaultCardSaid : Prop := Claim7.holds Tryd.pinned (.plain (OpenSpec.ofChange fnExactTreeFaultSpec)) fnExactTreeFaultCard

/-- THE TIED CARD OF 'laws.FnExactIndexFault'. -/
def fnExactIndexFaultCard : Claim7 := { stood := { row := fnExactIndexFaultRow, standIns := [], harness := (true, "da5a9c27be36cdb501ae6e17024c59e2da8236ca06ff54c1ef7779a68873c946"), looks := false }, kinds := [], alts := [], laidByText := true, laidKinds := [.data, .pinned], laidTests := true, laidLooks := .later }
def FnExactIndexFaultCardSaid : Prop := Claim7.holds Tryd.pinned (.plain (OpenSpec.ofChange fnExactIndexFaultSpec)) fnExactIndexFaultCard

/-- THE TIED CARD OF 'laws.FnExactEncodeCommit'. -/
def fnExactEncodeCommitCard : Claim7 := { stood := { row := fnExactEncodeCommitRow, standIns := [], harness := (true, "da5a9c27be36cdb501ae6e17024c59e2da8236ca06ff54c1ef7779a68873c946"), looks := false }, kinds := [], alts := [], laidByText := true, laidKinds := [.data, .data, .data, .data, .pinned], laidTests := true, laidLooks := .later }
def FnExactEncodeCommitCardSaid : Prop := Claim7.holds Tryd.pinned (.plain (OpenSpec.ofChange fnExactEncodeCommitSpec)) fnExactEncodeCommitCard

/-- THE TIED CARD OF 'laws.FnExactEncodeTree'. -/
def fnExactEncodeTreeCard : Claim7 := { stood := { row := fnExactEncodeTreeRow, standIns := [], harness := (true, "da5a9c27be36cdb501ae6e17024c59e2da8236ca06ff54c1ef7779a68873c946"), looks := false }, kinds := [], alts := [], laidByText := true, laidKinds := [.data, .pinned], laidTests := true, laidLooks := .later }
def FnExactEncodeTreeCardSaid : Prop := Claim7.holds Tryd.pinned (.plain (OpenSpec.ofChange fnExactEncodeTreeSpec)) fnExactEncodeTreeCard

/-- THE TIED CARD OF 'laws.FnExactDecodeTree'. -/
def fnExactDecodeTreeCard : Claim7 := { stood := { row := fnExactDecodeTreeRow, standIns := [], harness := (true, "da5a9c27be36cdb501ae6e17024c59e2da8236ca06ff54c1ef7779a68873c946"), looks := false }, kinds := [], alts := [], laidByText := true, laidKinds := [.data, .pinned], laidTests := true, laidLooks := .later }
def FnExactDecodeTreeCardSaid : Prop := Claim7.holds Tryd.pinned (.plain (OpenSpec.ofChange fnExactDecodeTreeSpec)) fnExactDecodeTreeCard

/-- THE TIED CARD OF 'laws.FnExactFilesIndex'. -/
def fnExactFilesIndexCard : Claim7 := { stood := { row := fnExactFilesIndexRow, standIns := [], harness := (true, "da5a9c27be36cdb501ae6e17024c59e2da8236ca06ff54c1ef7779a68873c946"), looks := false }, kinds := [], alts := [], laidByText := true, laidKinds := [.data, .pinned], laidTests := true, laidLooks := .later }
def FnExactFilesIndexCardSaid : Prop := Claim7.holds Tryd.pinned (.plain (OpenSpec.ofChange fnExactFilesIndexSpec)) fnExactFilesIndexCard

/-- THE TIED CARD OF 'laws.FnExactClashesIn'. -/
def fnExactClashesInCard : Claim7 := { stood := { row := fnExactClashesInRow, standIns := [], harness := (true, "da5a9c27be36cdb501ae6e17024c59e2da8236ca06ff54c1ef7779a68873c946"), looks := false }, kinds := [], alts := [], laidByText := true, laidKinds := [.data, .pinned], laidTests := true, laidLooks := .later }
def FnExactClashesInCardSaid : Prop := Claim7.holds Tryd.pinned (.plain (OpenSpec.ofChange fnExactClashesInSpec)) fnExactClashesInCard

/-- THE TIED CARD OF 'laws.FnExactStageFiles'. -/
def fnExactStageFilesCard : Claim7 := { stood := { row := fnExactStageFilesRow, standIns := [], harness := (true, "da5a9c27be36cdb501ae6e17024c59e2da8236ca06ff54c1ef7779a68873c946"), looks := false }, kinds := [], alts := [], laidByText := true, laidKinds := [.data, .pinned], laidTests := true, laidLooks := .later }
def FnExactStageFilesCardSaid : Prop := Claim7.holds Tryd.pinned (.plain (OpenSpec.ofChange fnExactStageFilesSpec)) fnExactStageFilesCard

/-- THE SECOND FORM's CARD OF 'laws.FnExactScoreTexts'. -/
def fnExactScoreTextsUptoCard : Claim7 := { stood := { row := fnExactScoreTextsUptoRow, standIns := [], harness := (true, "da5a9c27be36cdb501ae6e17024c59e2da8236ca06ff54c1ef7779a68873c946"), looks := false }, kinds := [], alts := [], laidByText := true, laidKinds := [.data, .pinned], laidTests := true, laidLooks := .later }
def FnExactScoreTextsUptoCardSaid : Prop := Claim7.holds Tryd.pinned (.plain (OpenSpec.upto fnExactScoreTextsSpec)) fnExactScoreTextsUptoCard

/-- THE SECOND FORM's CARD OF 'laws.FnExactCommitFault'. -/
def fnExactCommitFaultUptoCard : Claim7 := { stood := { row := fnExactCommitFaultUptoRow, standIns := [], harness := (true, "da5a9c27be36cdb501ae6e17024c59e2da8236ca06ff54c1ef7779a68873c946"), looks := false }, kinds := [], alts := [], laidByText := true, laidKinds := [.data, .pinned], laidTests := true, laidLooks := .later }
def FnExactCommitFaultUptoCardSaid : Prop := Claim7.holds Tryd.pinned (.plain (OpenSpec.upto fnExactCommitFaultSpec)) fnExactCommitFaultUptoCard

/-- THE SECOND FORM's CARD OF 'laws.FnExactFilesFault'. -/
def fnExactFilesFaultUptoCard : Claim7 := { stood := { row := fnExactFilesFaultUptoRow, standIns := [], harness := (true, "da5a9c27be36cdb501ae6e17024c59e2da8236ca06ff54c1ef7779a68873c946"), looks := false }, kinds := [], alts := [], laidByText := true, laidKinds := [.data, .pinned], laidTests := true, laidLooks := .later }
def FnExactFilesFaultUptoCardSaid : Prop := Claim7.holds Tryd.pinned (.plain (OpenSpec.upto fnExactFilesFaultSpec)) fnExactFilesFaultUptoCard

/-- THE SECOND FORM's CARD OF 'laws.FnExactMovesText'. -/
def fnExactMovesTextUptoCard : Claim7 := { stood := { row := fnExactMovesTextUptoRow, standIns := [], harness := (true, "da5a9c27be36cdb501ae6e17024c59e2da8236ca06ff54c1ef7779a68873c946"), looks := false }, kinds := [], alts := [], laidByText := true, laidKinds := [.data, .data, .data, .data, .pinned], laidTests := true, laidLooks := .later }
def FnExactMovesTextUptoCardSaid : Prop := Claim7.holds Tryd.pinned (.plain (OpenSpec.upto fnExactMovesTextSpec)) fnExactMovesTextUptoCard

/-- THE SECOND FORM's CARD OF 'laws.FnExactTreeFault'. -/
def fnExactTreeFaultUptoCard : Claim7 := { stood := { row := fnExactTreeFaultUptoRow, standIns := [], harness := (true, "da5a9c27be36cdb501ae6e17024c59e2da8236ca06ff54c1ef7779a68873c946"), looks := false }, kinds := [], alts := [], laidByText := true, laidKinds := [.data, .pinned], laidTests := true, laidLooks := .later }
def FnExactTreeFaultUptoCardSaid : Prop := Claim7.holds Tryd.pinned (.plain (OpenSpec.upto fnExactTreeFaultSpec)) fnExactTreeFaultUptoCard

/-- THE SECOND FORM's CARD OF 'laws.FnExactIndexFault'. -/
def fnExactIndexFaultUptoCard : Claim7 := { stood := { row := fnExactIndexFaultUptoRow, standIns := [], harness := (true, "da5a9c27be36cdb501ae6e17024c59e2da8236ca06ff54c1ef7779a68873c946"), looks := false }, kinds := [], alts := [], laidByText := true, laidKinds := [.data, .pinned], laidTests := true, laidLooks := .later }
def FnExactIndexFaultUptoCardSaid : Prop := Claim7.holds Tryd.pinned (.plain (OpenSpec.upto fnExactIndexFaultSpec)) fnExactIndexFaultUptoCard

/-- THE SECOND FORM's CARD OF 'laws.FnExactEncodeCommit'. -/
def fnExactEncodeCommitUptoCard : Claim7 := { stood := { row := fnExactEncodeCommitUptoRow, standIns := [], harness := (true, "da5a9c27be36cdb501ae6e17024c59e2da8236ca06ff54c1ef7779a68873c946"), looks := false }, kinds := [], alts := [], laidByText := true, laidKinds := [.data, .data, .data, .data, .pinned], laidTests := true, laidLooks := .later }
def FnExactEncodeCommitUptoCardSaid : Prop := Claim7.holds Tryd.pinned (.plain (OpenSpec.upto fnExactEncodeCommitSpec)) fnExactEncodeCommitUptoCard

/-- THE SECOND FORM's CARD OF 'laws.FnExactEncodeTree'. -/
def fnExactEncodeTreeUptoCard : Claim7 := { stood := { row := fnExactEncodeTreeUptoRow, standIns := [], harness := (true, "da5a9c27be36cdb501ae6e17024c59e2da8236ca06ff54c1ef7779a68873c946"), looks := false }, kinds := [], alts := [], laidByText := true, laidKinds := [.data, .pinned], laidTests := true, laidLooks := .later }
def FnExactEncodeTreeUptoCardSaid : Prop := Claim7.holds Tryd.pinned (.plain (OpenSpec.upto fnExactEncodeTreeSpec)) fnExactEncodeTreeUptoCard

/-- THE SECOND FORM's CARD OF 'laws.FnExactDecodeTree'. -/
def fnExactDecodeTreeUptoCard : Claim7 := { stood := { row := fnExactDecodeTreeUptoRow, standIns := [], harness := (true, "da5a9c27be36cdb501ae6e17024c59e2da8236ca06ff54c1ef7779a68873c946"), looks := false }, kinds := [], alts := [], laidByText := true, laidKinds := [.data, .pinned], laidTests := true, laidLooks := .later }
def FnExactDecodeTreeUptoCardSaid : Prop := Claim7.holds Tryd.pinned (.plain (OpenSpec.upto fnExactDecodeTreeSpec)) fnExactDecodeTreeUptoCard

/-- THE SECOND FORM's CARD OF 'laws.FnExactFilesIndex'. -/
def fnExactFilesIndexUptoCard : Claim7 := { stood := { row := fnExactFilesIndexUptoRow, standIns := [], harness := (true, "da5a9c27be36cdb501ae6e17024c59e2da8236ca06ff54c1ef7779a68873c946"), looks := false }, kinds := [], alts := [], laidByText := true, laidKinds := [.data, .pinned], laidTests := true, laidLooks := .later }
def FnExactFilesIndexUptoCardSaid : Prop := Claim7.holds Tryd.pinned (.plain (OpenSpec.upto fnExactFilesIndexSpec)) fnExactFilesIndexUptoCard

/-- THE SECOND FORM's CARD OF 'laws.FnExactClashesIn'. -/
def fnExactClashesInUptoCard : Claim7 := { stood := { row := fnExactClashesInUptoRow, standIns := [], harness := (true, "da5a9c27be36cdb501ae6e17024c59e2da8236ca06ff54c1ef7779a68873c946"), looks := false }, kinds := [], alts := [], laidByText := true, laidKinds := [.data, .pinned], laidTests := true, laidLooks := .later }
def FnExactClashesInUptoCardSaid : Prop := Claim7.holds Tryd.pinned (.plain (OpenSpec.upto fnExactClashesInSpec)) fnExactClashesInUptoCard

/-- THE SECOND FORM's CARD OF 'laws.FnExactStageFiles'. -/
def fnExactStageFilesUptoCard : Claim7 := { stood := { row := fnExactStageFilesUptoRow, standIns := [], harness := (true, "da5a9c27be36cdb501ae6e17024c59e2da8236ca06ff54c1ef7779a68873c946"), looks := false }, kinds := [], alts := [], laidByText := true, laidKinds := [.data, .pinned], laidTests := true, laidLooks := .later }
def FnExactStageFilesUptoCardSaid : Prop := Claim7.holds Tryd.pinned (.plain (OpenSpec.upto fnExactStageFilesSpec)) fnExactStageFilesUptoCard
end Rows
end Go.Proofs.YtcapmfgamdiijaaDoor
