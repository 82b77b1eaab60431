/-
  DERIVED. GIVEN WITH THE SEED: THE CARDS: each row of YthhmkbchdiflcaaGreatDoorRows.lean that lists a variable, with what it lists TIED to the program's text (the seventh form; the later family's looks); each row that meets fmt, with fmt's text TOLD by the authors' own Lean function (tested against real Go, not proved from fmt's source: count such statements apart). THE CARD IS WHAT COUNTS. Prove the row's statement (the work); the ties are given (YthhmkbchdiflcaaGreatDoorTie.lean); close each card by the builder's one call (the guide's Derived/Test/ToyasCard.lean, 'card_holds'). Laid BY PROGRAM, IN A SANDBOX (cutbox-door.mjs). By AI agents, Wed Nov 11 2026. No macro, syntax, notation, axiom, sorry.
-/
import Derived.Test.YthhmkbchdiflcaaGreatDoorRows
import GoSem.ClaimSeven
namespace Go.Proofs.YthhmkbchdiflcaaGreatDoor
namespace Rows

/-- THE TIED CARD OF 'laws.FnExactPackItems'. -/
def fnExactPackItemsCard : Claim7 := { stood := { row := fnExactPackItemsRow, standIns := [], harness := (true, "2b3c363ee452ba5024147e9b67c81b084b209c545039ae2512fa98f37e24b978"), looks := true }, kinds := [], alts := [], laidByText := true, laidKinds := [.data, .data, .data, .data, .pinned], laidTests := true, laidLooks := .later }
def FnExactPackItemsCardSaid : Prop := Claim7.holds Tryz.pinned (.plain (OpenSpec.ofChange fnExactPackItemsSpec)) fnExactPackItemsCard

/-- THE TIED CARD OF 'laws.FnExactReadItems'. -/
def fnExactReadItemsCard : Claim7 := { stood := { row := fnExactReadItemsRow, standIns := [], harness := (true, "2b3c363ee452ba5024147e9b67c81b084b209c545039ae2512fa98f37e24b978"), looks := true }, kinds := [], alts := [], laidByText := true, laidKinds := [.data, .data, .data, .data, .sentinel, .sentinel, .pinned], laidTests := true, laidLooks := .later }
def FnExactReadItemsCardSaid : Prop := Claim7.holds Tryz.pinned (.plain (OpenSpec.ofChange fnExactReadItemsSpec)) fnExactReadItemsCard

/-- THE TIED CARD OF 'laws.FnExactDiffItems'. -/
def fnExactDiffItemsCard : Claim7 := { stood := { row := fnExactDiffItemsRow, standIns := [], harness := (true, "2b3c363ee452ba5024147e9b67c81b084b209c545039ae2512fa98f37e24b978"), looks := true }, kinds := [], alts := [], laidByText := true, laidKinds := [.data, .pinned], laidTests := true, laidLooks := .later }
def FnExactDiffItemsCardSaid : Prop := Claim7.holds Tryz.pinned (.plain (OpenSpec.ofChange fnExactDiffItemsSpec)) fnExactDiffItemsCard

/-- THE TIED CARD OF 'laws.FnExactApplyChanges'. -/
def fnExactApplyChangesCard : Claim7 := { stood := { row := fnExactApplyChangesRow, standIns := [], harness := (true, "2b3c363ee452ba5024147e9b67c81b084b209c545039ae2512fa98f37e24b978"), looks := true }, kinds := [], alts := [], laidByText := true, laidKinds := [.data, .pinned], laidTests := true, laidLooks := .later }
def FnExactApplyChangesCardSaid : Prop := Claim7.holds Tryz.pinned (.plain (OpenSpec.ofChange fnExactApplyChangesSpec)) fnExactApplyChangesCard

/-- THE TIED CARD OF 'laws.FnDiffs'. -/
def fnDiffsCard : Claim7 := { stood := { row := fnDiffsRow, standIns := [], harness := (true, "2b3c363ee452ba5024147e9b67c81b084b209c545039ae2512fa98f37e24b978"), looks := true }, kinds := [], alts := [], laidByText := true, laidKinds := [.data, .pinned], laidTests := true, laidLooks := .later }
def FnDiffsCardSaid : Prop := Claim7.holds Tryz.pinned (.plain (OpenSpec.ofChange fnDiffsSpec)) fnDiffsCard

/-- THE TIED CARD OF 'laws.FnJobs'. -/
def fnJobsCard : Claim7 := { stood := { row := fnJobsRow, standIns := [], harness := (true, "2b3c363ee452ba5024147e9b67c81b084b209c545039ae2512fa98f37e24b978"), looks := true }, kinds := [], alts := [], laidByText := true, laidKinds := [.data, .data, .data, .data, .sentinel, .sentinel, .pinned], laidTests := true, laidLooks := .later }
def FnJobsCardSaid : Prop := Claim7.holds Tryz.pinned (.plain (OpenSpec.ofChange fnJobsSpec)) fnJobsCard

/-- THE TIED CARD OF 'laws.FnPacked'. -/
def fnPackedCard : Claim7 := { stood := { row := fnPackedRow, standIns := [], harness := (true, "2b3c363ee452ba5024147e9b67c81b084b209c545039ae2512fa98f37e24b978"), looks := true }, kinds := [], alts := [], laidByText := true, laidKinds := [.data, .data, .data, .data, .sentinel, .sentinel, .pinned], laidTests := true, laidLooks := .later }
def FnPackedCardSaid : Prop := Claim7.holds Tryz.pinned (.plain (OpenSpec.ofChange fnPackedSpec)) fnPackedCard

/-- THE SECOND FORM's CARD OF 'laws.FnExactPackItems'. -/
def fnExactPackItemsUptoCard : Claim7 := { stood := { row := fnExactPackItemsUptoRow, standIns := [], harness := (true, "2b3c363ee452ba5024147e9b67c81b084b209c545039ae2512fa98f37e24b978"), looks := true }, kinds := [], alts := [], laidByText := true, laidKinds := [.data, .data, .data, .data, .pinned], laidTests := true, laidLooks := .later }
def FnExactPackItemsUptoCardSaid : Prop := Claim7.holds Tryz.pinned (.plain (OpenSpec.upto fnExactPackItemsSpec)) fnExactPackItemsUptoCard

/-- THE SECOND FORM's CARD OF 'laws.FnExactReadItems'. -/
def fnExactReadItemsUptoCard : Claim7 := { stood := { row := fnExactReadItemsUptoRow, standIns := [], harness := (true, "2b3c363ee452ba5024147e9b67c81b084b209c545039ae2512fa98f37e24b978"), looks := true }, kinds := [], alts := [], laidByText := true, laidKinds := [.data, .data, .data, .data, .sentinel, .sentinel, .pinned], laidTests := true, laidLooks := .later }
def FnExactReadItemsUptoCardSaid : Prop := Claim7.holds Tryz.pinned (.plain (OpenSpec.upto fnExactReadItemsSpec)) fnExactReadItemsUptoCard

/-- THE SECOND FORM's CARD OF 'laws.FnExactDiffItems'. -/
def fnExactDiffItemsUptoCard : Claim7 := { stood := { row := fnExactDiffItemsUptoRow, standIns := [], harness := (true, "2b3c363ee452ba5024147e9b67c81b084b209c545039ae2512fa98f37e24b978"), looks := true }, kinds := [], alts := [], laidByText := true, laidKinds := [.data, .pinned], laidTests := true, laidLooks := .later }
def FnExactDiffItemsUptoCardSaid : Prop := Claim7.holds Tryz.pinned (.plain (OpenSpec.upto fnExactDiffItemsSpec)) fnExactDiffItemsUptoCard

/-- THE SECOND FORM's CARD OF 'laws.FnExactApplyChanges'. -/
def fnExactApplyChangesUptoCard : Claim7 := { stood := { row := fnExactApplyChangesUptoRow, standIns := [], harness := (true, "2b3c363ee452ba5024147e9b67c81b084b209c545039ae2512fa98f37e24b978"), looks := true }, kinds := [], alts := [], laidByText := true, laidKinds := [.data, .pinned], laidTests := true, laidLooks := .later }
def FnExactApplyChangesUptoCardSaid : Prop := Claim7.holds Tryz.pinned (.plain (OpenSpec.upto fnExactApplyChangesSpec)) fnExactApplyChangesUptoCard

/-- THE SECOND FORM's CARD OF 'laws.FnDiffs'. -/
def fnDiffsUptoCard : Claim7 := { stood := { row := fnDiffsUptoRow, standIns := [], harness := (true, "2b3c363ee452ba5024147e9b67c81b084b209c545039ae2512fa98f37e24b978"), looks := true }, kinds := [], alts := [], laidByText := true, laidKinds := [.data, .pinned], laidTests := true, laidLooks := .later }
def FnDiffsUptoCardSaid : Prop := Claim7.holds Tryz.pinned (.plain (OpenSpec.upto fnDiffsSpec)) fnDiffsUptoCard

/-- THE SECOND FORM's CARD OF 'laws.FnJobs'. -/
def fnJobsUptoCard : Claim7 := { stood := { row := fnJobsUptoRow, standIns := [], harness := (true, "2b3c363ee452ba5024147e9b67c81b084b209c545039ae2512fa98f37e24b978"), looks := true }, kinds := [], alts := [], laidByText := true, laidKinds := [.data, .data, .data, .data, .sentinel, .sentinel, .pinned], laidTests := true, laidLooks := .later }
def FnJobsUptoCardSaid : Prop := Claim7.holds Tryz.pinned (.plain (OpenSpec.upto fnJobsSpec)) fnJobsUptoCard

/-- THE SECOND FORM's CARD OF 'laws.FnPacked'. -/
def fnPackedUptoCard : Claim7 := { stood := { row := fnPackedUptoRow, standIns := [], harness := (true, "2b3c363ee452ba5024147e9b67c81b084b209c545039ae2512fa98f37e24b978"), looks := true }, kinds := [], alts := [], laidByText := true, laidKinds := [.data, .data, .data, .data, .sentinel, .sentinel, .pinned], laidTests := true, laidLooks := .later }
def FnPackedUptoCardSaid : Prop := Claim7.holds Tryz.pinned (.plain (OpenSpec.upto fnPackedSpec)) fnPackedUptoCard
end Rows
end Go.Proofs.YthhmkbchdiflcaaGreatDoor
