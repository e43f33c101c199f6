/-
  DERIVED. GIVEN WITH THE SEED: THE CARDS: each row of YtpnoghcdfbmpoaaGreatDoorRows.lean that lists a variable, with what it lists TIED to the program's text (the seventh form; the later family's looks); each row that meets fmt, with fmt's text TOLD by the authors' own Lean function (tested against real Go, not proved from fmt's source: count such statements apart). THE CARD IS WHAT COUNTS. Prove the row's statement (the work); the ties are given (YtpnoghcdfbmpoaaGreatDoorTie.lean); close each card by the builder's one call (the guide's Derived/Test/ToyasCard.lean, 'card_holds'). Laid BY PROGRAM, IN A SANDBOX (cutbox-door.mjs). By AI agents, Wed Nov 11 2026. No macro, syntax, notation, axiom, sorry.
-/
import Derived.Test.YtpnoghcdfbmpoaaGreatDoorRows
import GoSem.ClaimSeven
namespace Go.Proofs.YtpnoghcdfbmpoaaGreatDoor
namespace Rows

/-- THE TIED CARD OF 'laws.FnExactIsAncestor'. -/
def fnExactIsAncestorCard : Claim7 := { stood := { row := fnExactIsAncestorRow, standIns := [], harness := (true, "bb309d25e0ae169a3677aeeb870c74fe02fec24a6ab85c062690e668e5fa981e"), looks := true }, kinds := [], alts := [], laidByText := true, laidKinds := [.data, .data, .data, .data, .sentinel, .sentinel, .pinned], laidTests := true, laidLooks := .later }
def FnExactIsAncestorCardSaid : Prop := Claim7.holds Tryz.pinned (.plain (OpenSpec.ofChange fnExactIsAncestorSpec)) fnExactIsAncestorCard

/-- THE TIED CARD OF 'laws.FnExactHistoryOf'. -/
def fnExactHistoryOfCard : Claim7 := { stood := { row := fnExactHistoryOfRow, standIns := [], harness := (true, "bb309d25e0ae169a3677aeeb870c74fe02fec24a6ab85c062690e668e5fa981e"), looks := true }, kinds := [], alts := [], laidByText := true, laidKinds := [.data, .data, .data, .data, .sentinel, .sentinel, .pinned], laidTests := true, laidLooks := .later }
def FnExactHistoryOfCardSaid : Prop := Claim7.holds Tryz.pinned (.plain (OpenSpec.ofChange fnExactHistoryOfSpec)) fnExactHistoryOfCard

/-- THE TIED CARD OF 'laws.FnExactGenerationOf'. -/
def fnExactGenerationOfCard : Claim7 := { stood := { row := fnExactGenerationOfRow, standIns := [], harness := (true, "bb309d25e0ae169a3677aeeb870c74fe02fec24a6ab85c062690e668e5fa981e"), looks := true }, kinds := [], alts := [], laidByText := true, laidKinds := [.data, .data, .data, .data, .sentinel, .sentinel, .pinned], laidTests := true, laidLooks := .later }
def FnExactGenerationOfCardSaid : Prop := Claim7.holds Tryz.pinned (.plain (OpenSpec.ofChange fnExactGenerationOfSpec)) fnExactGenerationOfCard

/-- THE TIED CARD OF 'laws.FnExactBasesOf'. -/
def fnExactBasesOfCard : Claim7 := { stood := { row := fnExactBasesOfRow, standIns := [], harness := (true, "bb309d25e0ae169a3677aeeb870c74fe02fec24a6ab85c062690e668e5fa981e"), looks := true }, kinds := [], alts := [], laidByText := true, laidKinds := [.data, .data, .data, .data, .sentinel, .sentinel, .pinned], laidTests := true, laidLooks := .later }
def FnExactBasesOfCardSaid : Prop := Claim7.holds Tryz.pinned (.plain (OpenSpec.ofChange fnExactBasesOfSpec)) fnExactBasesOfCard

/-- THE TIED CARD OF 'laws.FnExactLogText'. -/
def fnExactLogTextCard : Claim7 := { stood := { row := fnExactLogTextRow, standIns := [], harness := (true, "bb309d25e0ae169a3677aeeb870c74fe02fec24a6ab85c062690e668e5fa981e"), looks := true }, kinds := [], alts := [], laidByText := true, laidKinds := [.data, .data, .data, .data, .sentinel, .sentinel, .pinned], laidTests := true, laidLooks := .later }
def FnExactLogTextCardSaid : Prop := Claim7.holds Tryz.pinned (.plain (OpenSpec.ofChange fnExactLogTextSpec)) fnExactLogTextCard

/-- THE SECOND FORM's CARD OF 'laws.FnExactIsAncestor'. -/
def fnExactIsAncestorUptoCard : Claim7 := { stood := { row := fnExactIsAncestorUptoRow, standIns := [], harness := (true, "bb309d25e0ae169a3677aeeb870c74fe02fec24a6ab85c062690e668e5fa981e"), looks := true }, kinds := [], alts := [], laidByText := true, laidKinds := [.data, .data, .data, .data, .sentinel, .sentinel, .pinned], laidTests := true, laidLooks := .later }
def FnExactIsAncestorUptoCardSaid : Prop := Claim7.holds Tryz.pinned (.plain (OpenSpec.upto fnExactIsAncestorSpec)) fnExactIsAncestorUptoCard

/-- THE SECOND FORM's CARD OF 'laws.FnExactHistoryOf'. -/
def fnExactHistoryOfUptoCard : Claim7 := { stood := { row := fnExactHistoryOfUptoRow, standIns := [], harness := (true, "bb309d25e0ae169a3677aeeb870c74fe02fec24a6ab85c062690e668e5fa981e"), looks := true }, kinds := [], alts := [], laidByText := true, laidKinds := [.data, .data, .data, .data, .sentinel, .sentinel, .pinned], laidTests := true, laidLooks := .later }
def FnExactHistoryOfUptoCardSaid : Prop := Claim7.holds Tryz.pinned (.plain (OpenSpec.upto fnExactHistoryOfSpec)) fnExactHistoryOfUptoCard

/-- THE SECOND FORM's CARD OF 'laws.FnExactGenerationOf'. -/
def fnExactGenerationOfUptoCard : Claim7 := { stood := { row := fnExactGenerationOfUptoRow, standIns := [], harness := (true, "bb309d25e0ae169a3677aeeb870c74fe02fec24a6ab85c062690e668e5fa981e"), looks := true }, kinds := [], alts := [], laidByText := true, laidKinds := [.data, .data, .data, .data, .sentinel, .sentinel, .pinned], laidTests := true, laidLooks := .later }
def FnExactGenerationOfUptoCardSaid : Prop := Claim7.holds Tryz.pinned (.plain (OpenSpec.upto fnExactGenerationOfSpec)) fnExactGenerationOfUptoCard

/-- THE SECOND FORM's CARD OF 'laws.FnExactBasesOf'. -/
def fnExactBasesOfUptoCard : Claim7 := { stood := { row := fnExactBasesOfUptoRow, standIns := [], harness := (true, "bb309d25e0ae169a3677aeeb870c74fe02fec24a6ab85c062690e668e5fa981e"), looks := true }, kinds := [], alts := [], laidByText := true, laidKinds := [.data, .data, .data, .data, .sentinel, .sentinel, .pinned], laidTests := true, laidLooks := .later }
def FnExactBasesOfUptoCardSaid : Prop := Claim7.holds Tryz.pinned (.plain (OpenSpec.upto fnExactBasesOfSpec)) fnExactBasesOfUptoCard

/-- THE SECOND FORM's CARD OF 'laws.FnExactLogText'. -/
def fnExactLogTextUptoCard : Claim7 := { stood := { row := fnExactLogTextUptoRow, standIns := [], harness := (true, "bb309d25e0ae169a3677aeeb870c74fe02fec24a6ab85c062690e668e5fa981e"), looks := true }, kinds := [], alts := [], laidByText := true, laidKinds := [.data, .data, .data, .data, .sentinel, .sentinel, .pinned], laidTests := true, laidLooks := .later }
def FnExactLogTextUptoCardSaid : Prop := Claim7.holds Tryz.pinned (.plain (OpenSpec.upto fnExactLogTextSpec)) fnExactLogTextUptoCard
end Rows
end Go.Proofs.YtpnoghcdfbmpoaaGreatDoor
