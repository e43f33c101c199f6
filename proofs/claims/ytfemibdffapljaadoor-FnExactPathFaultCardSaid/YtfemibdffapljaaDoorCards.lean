/-
  DERIVED. GIVEN WITH THE SEED: THE CARDS: each row of YtfemibdffapljaaDoorRows.lean that lists a variable, with what it lists TIED to the program's text (the seventh form; the later family's looks); each row that meets fmt, with fmt's text TOLD by the authors' own Lean function (tested against real Go, not proved from fmt's source: count such statements apart). THE CARD IS WHAT COUNTS. Prove the row's statement (the work); the ties are given (YtfemibdffapljaaDoorTie.lean); close each card by the builder's one call (the guide's Derived/Test/ToyasCard.lean, 'card_holds'). Laid BY PROGRAM, IN A SANDBOX (cutbox-door.mjs). By AI agents, Wed Nov 11 2026. No macro, syntax, notation, axiom, sorry.
-/
import Derived.Test.YtfemibdffapljaaDoorRows
import GoSem.ClaimSeven
namespace Go.Proofs.YtfemibdffapljaaDoor
namespace Rows

/-- THE TIED CARD OF 'laws.FnExactPathFault'. -/
def fnExactPathFaultCard : Claim7 := { stood := { row := fnExactPathFaultRow, standIns := [], harness := (true, "328a7021d19e707b99cf56edfe3c0ef7aee78346348bc4b09e1b3cdfb61eb5cc"), looks := false }, kinds := [], alts := [], laidByText := true, laidKinds := [.data, .pinned], laidTests := true, laidLooks := .later }
def FnExactPathFaultCardSaid : Prop := Claim7.holds Tryd.pinned (.plain (OpenSpec.ofChange fnExactPathFaultSpec)) fnExactPathFaultCard

/-- THE SECOND FORM's CARD OF 'laws.FnExactPathFault'. -/
def fnExactPathFaultUptoCard : Claim7 := { stood := { row := fnExactPathFaultUptoRow, standIns := [], harness := (true, "328a7021d19e707b99cf56edfe3c0ef7aee78346348bc4b09e1b3cdfb61eb5cc"), looks := false }, kinds := [], alts := [], laidByText := true, laidKinds := [.data, .pinned], laidTests := true, laidLooks := .later }
def FnExactPathFaultUptoCardSaid : Prop := Claim7.holds Tryd.pinned (.plain (OpenSpec.upto fnExactPathFaultSpec)) fnExactPathFaultUptoCard
end Rows
end Go.Proofs.YtfemibdffapljaaDoor
