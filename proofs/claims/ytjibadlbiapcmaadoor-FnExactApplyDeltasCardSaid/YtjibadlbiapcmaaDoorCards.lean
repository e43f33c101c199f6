/-
  DERIVED. GIVEN WITH THE SEED: THE CARDS: each row of YtjibadlbiapcmaaDoorRows.lean that lists a variable, with what it lists TIED to the program's text (the seventh form; the later family's looks); each row that meets fmt, with fmt's text TOLD by the authors' own Lean function (tested against real Go, not proved from fmt's source: count such statements apart). THE CARD IS WHAT COUNTS. Prove the row's statement (the work); the ties are given (YtjibadlbiapcmaaDoorTie.lean); close each card by the builder's one call (the guide's Derived/Test/ToyasCard.lean, 'card_holds'). Laid BY PROGRAM, IN A SANDBOX (cutbox-door.mjs). By AI agents, Wed Nov 11 2026. No macro, syntax, notation, axiom, sorry.
-/
import Derived.Test.YtjibadlbiapcmaaDoorRows
import GoSem.ClaimSeven
namespace Go.Proofs.YtjibadlbiapcmaaDoor
namespace Rows

/-- THE TIED CARD OF 'laws.FnExactIndexFiles'. -/
def fnExactIndexFilesCard : Claim7 := { stood := { row := fnExactIndexFilesRow, standIns := [], harness := (true, "17f92dc2df425f3c3c9c4b12289b53cf1915181a1515661a218cda5870fbdd0c"), looks := false }, kinds := [], alts := [], laidByText := true, laidKinds := [.data, .pinned], laidTests := true, laidLooks := .later }
def FnExactIndexFilesCardSaid : Prop := Claim7.holds Tryd.pinned (.plain (OpenSpec.ofChange fnExactIndexFilesSpec)) fnExactIndexFilesCard

/-- THE TIED CARD OF 'laws.FnExactFormatIndex'. -/
def fnExactFormatIndexCard : Claim7 := { stood := { row := fnExactFormatIndexRow, standIns := [], harness := (true, "17f92dc2df425f3c3c9c4b12289b53cf1915181a1515661a218cda5870fbdd0c"), looks := false }, kinds := [], alts := [], laidByText := true, laidKinds := [.data, .data, .data, .data, .pinned], laidTests := true, laidLooks := .later }
def FnExactFormatIndexCardSaid : Prop := Claim7.holds Tryd.pinned (.plain (OpenSpec.ofChange fnExactFormatIndexSpec)) fnExactFormatIndexCard

/-- THE TIED CARD OF 'laws.FnExactPutObject'. -/
def fnExactPutObjectCard : Claim7 := { stood := { row := fnExactPutObjectRow, standIns := [], harness := (true, "17f92dc2df425f3c3c9c4b12289b53cf1915181a1515661a218cda5870fbdd0c"), looks := false }, kinds := [], alts := [], laidByText := true, laidKinds := [.data, .data, .data, .data, .pinned], laidTests := true, laidLooks := .later }
def FnExactPutObjectCardSaid : Prop := Claim7.holds Tryd.pinned (.plain (OpenSpec.ofChange fnExactPutObjectSpec)) fnExactPutObjectCard

/-- THE TIED CARD OF 'laws.FnExactApplyDeltas'. -/
def fnExactApplyDeltasCard : Claim7 := { stood := { row := fnExactApplyDeltasRow, standIns := [], harness := (true, "17f92dc2df425f3c3c9c4b12289b53cf1915181a1515661a218cda5870fbdd0c"), looks := false }, kinds := [], alts := [], laidByText := true, laidKinds := [.data, .pinned], laidTests := true, laidLooks := .later }
def FnExactApplyDeltasCardSaid : Prop := Claim7.holds Tryd.pinned (.plain (OpenSpec.ofChange fnExactApplyDeltasSpec)) fnExactApplyDeltasCard

/-- THE TIED CARD OF 'laws.FnExactResolvePath'. -/
def fnExactResolvePathCard : Claim7 := { stood := { row := fnExactResolvePathRow, standIns := [], harness := (true, "17f92dc2df425f3c3c9c4b12289b53cf1915181a1515661a218cda5870fbdd0c"), looks := false }, kinds := [], alts := [], laidByText := true, laidKinds := [.data, .pinned], laidTests := true, laidLooks := .later }
def FnExactResolvePathCardSaid : Prop := Claim7.holds Tryd.pinned (.plain (OpenSpec.ofChange fnExactResolvePathSpec)) fnExactResolvePathCard

/-- THE TIED CARD OF 'laws.FnExactMergeStores'. -/
def fnExactMergeStoresCard : Claim7 := { stood := { row := fnExactMergeStoresRow, standIns := [], harness := (true, "17f92dc2df425f3c3c9c4b12289b53cf1915181a1515661a218cda5870fbdd0c"), looks := false }, kinds := [], alts := [], laidByText := true, laidKinds := [.data, .data, .data, .data, .pinned], laidTests := true, laidLooks := .later }
def FnExactMergeStoresCardSaid : Prop := Claim7.holds Tryd.pinned (.plain (OpenSpec.ofChange fnExactMergeStoresSpec)) fnExactMergeStoresCard

/-- THE SECOND FORM's CARD OF 'laws.FnExactIndexFiles'. -/
def fnExactIndexFilesUptoCard : Claim7 := { stood := { row := fnExactIndexFilesUptoRow, standIns := [], harness := (true, "17f92dc2df425f3c3c9c4b12289b53cf1915181a1515661a218cda5870fbdd0c"), looks := false }, kinds := [], alts := [], laidByText := true, laidKinds := [.data, .pinned], laidTests := true, laidLooks := .later }
def FnExactIndexFilesUptoCardSaid : Prop := Claim7.holds Tryd.pinned (.plain (OpenSpec.upto fnExactIndexFilesSpec)) fnExactIndexFilesUptoCard

/-- THE SECOND FORM's CARD OF 'laws.FnExactFormatIndex'. -/
def fnExactFormatIndexUptoCard : Claim7 := { stood := { row := fnExactFormatIndexUptoRow, standIns := [], harness := (true, "17f92dc2df425f3c3c9c4b12289b53cf1915181a1515661a218cda5870fbdd0c"), looks := false }, kinds := [], alts := [], laidByText := true, laidKinds := [.data, .data, .data, .data, .pinned], laidTests := true, laidLooks := .later }
def FnExactFormatIndexUptoCardSaid : Prop := Claim7.holds Tryd.pinned (.plain (OpenSpec.upto fnExactFormatIndexSpec)) fnExactFormatIndexUptoCard

/-- THE SECOND FORM's CARD OF 'laws.FnExactPutObject'. -/
def fnExactPutObjectUptoCard : Claim7 := { stood := { row := fnExactPutObjectUptoRow, standIns := [], harness := (true, "17f92dc2df425f3c3c9c4b12289b53cf1915181a1515661a218cda5870fbdd0c"), looks := false }, kinds := [], alts := [], laidByText := true, laidKinds := [.data, .data, .data, .data, .pinned], laidTests := true, laidLooks := .later }
def FnExactPutObjectUptoCardSaid : Prop := Claim7.holds Tryd.pinned (.plain (OpenSpec.upto fnExactPutObjectSpec)) fnExactPutObjectUptoCard

/-- THE SECOND FORM's CARD OF 'laws.FnExactApplyDeltas'. -/
def fnExactApplyDeltasUptoCard : Claim7 := { stood := { row := fnExactApplyDeltasUptoRow, standIns := [], harness := (true, "17f92dc2df425f3c3c9c4b12289b53cf1915181a1515661a218cda5870fbdd0c"), looks := false }, kinds := [], alts := [], laidByText := true, laidKinds := [.data, .pinned], laidTests := true, laidLooks := .later }
def FnExactApplyDeltasUptoCardSaid : Prop := Claim7.holds Tryd.pinned (.plain (OpenSpec.upto fnExactApplyDeltasSpec)) fnExactApplyDeltasUptoCard

/-- THE SECOND FORM's CARD OF 'laws.FnExactResolvePath'. -/
def fnExactResolvePathUptoCard : Claim7 := { stood := { row := fnExactResolvePathUptoRow, standIns := [], harness := (true, "17f92dc2df425f3c3c9c4b12289b53cf1915181a1515661a218cda5870fbdd0c"), looks := false }, kinds := [], alts := [], laidByText := true, laidKinds := [.data, .pinned], laidTests := true, laidLooks := .later }
def FnExactResolvePathUptoCardSaid : Prop := Claim7.holds Tryd.pinned (.plain (OpenSpec.upto fnExactResolvePathSpec)) fnExactResolvePathUptoCard

/-- THE SECOND FORM's CARD OF 'laws.FnExactMergeStores'. -/
def fnExactMergeStoresUptoCard : Claim7 := { stood := { row := fnExactMergeStoresUptoRow, standIns := [], harness := (true, "17f92dc2df425f3c3c9c4b12289b53cf1915181a1515661a218cda5870fbdd0c"), looks := false }, kinds := [], alts := [], laidByText := true, laidKinds := [.data, .data, .data, .data, .pinned], laidTests := true, laidLooks := .later }
def FnExactMergeStoresUptoCardSaid : Prop := Claim7.holds Tryd.pinned (.plain (OpenSpec.upto fnExactMergeStoresSpec)) fnExactMergeStoresUptoCard
end Rows
end Go.Proofs.YtjibadlbiapcmaaDoor
