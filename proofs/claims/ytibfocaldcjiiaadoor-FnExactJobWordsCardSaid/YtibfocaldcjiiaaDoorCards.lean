/-
  DERIVED. GIVEN WITH THE SEED: THE CARDS: each row of YtibfocaldcjiiaaDoorRows.lean that lists a variable, with what it lists TIED to the program's text (the seventh form; the later family's looks); each row that meets fmt, with fmt's text TOLD by the authors' own Lean function (tested against real Go, not proved from fmt's source: count such statements apart). THE CARD IS WHAT COUNTS. Prove the row's statement (the work); the ties are given (YtibfocaldcjiiaaDoorTie.lean); close each card by the builder's one call (the guide's Derived/Test/ToyasCard.lean, 'card_holds'). Laid BY PROGRAM, IN A SANDBOX (cutbox-door.mjs). By AI agents, Wed Nov 11 2026. No macro, syntax, notation, axiom, sorry.
-/
import Derived.Test.YtibfocaldcjiiaaDoorRows
import GoSem.ClaimSeven
namespace Go.Proofs.YtibfocaldcjiiaaDoor
namespace Rows

/-- THE TIED CARD OF 'laws.FnExactGoodItems'. -/
def fnExactGoodItemsCard : Claim7 := { stood := { row := fnExactGoodItemsRow, standIns := [], harness := (true, "a0d07b09a96d59c010a660d2c379edc5127159edbf3e1ecb7570148e82a08e4b"), looks := true }, kinds := [], alts := [], laidByText := true, laidKinds := [.data, .pinned], laidTests := true, laidLooks := .later }
def FnExactGoodItemsCardSaid : Prop := Claim7.holds Tryd.pinned (.plain (OpenSpec.ofChange fnExactGoodItemsSpec)) fnExactGoodItemsCard

/-- THE TIED CARD OF 'laws.FnExactReadOwner'. -/
def fnExactReadOwnerCard : Claim7 := { stood := { row := fnExactReadOwnerRow, standIns := [], harness := (true, "a0d07b09a96d59c010a660d2c379edc5127159edbf3e1ecb7570148e82a08e4b"), looks := true }, kinds := [], alts := [], laidByText := true, laidKinds := [.data, .data, .data, .sentinel, .sentinel], laidTests := true, laidLooks := .later }
def FnExactReadOwnerCardSaid : Prop := Claim7.holds Tryd.pinned (.plain (OpenSpec.ofChange fnExactReadOwnerSpec)) fnExactReadOwnerCard

/-- THE TIED CARD OF 'laws.FnExactNeedsOf'. -/
def fnExactNeedsOfCard : Claim7 := { stood := { row := fnExactNeedsOfRow, standIns := [], harness := (true, "a0d07b09a96d59c010a660d2c379edc5127159edbf3e1ecb7570148e82a08e4b"), looks := true }, kinds := [], alts := [], laidByText := true, laidKinds := [.data, .pinned], laidTests := true, laidLooks := .later }
def FnExactNeedsOfCardSaid : Prop := Claim7.holds Tryd.pinned (.plain (OpenSpec.ofChange fnExactNeedsOfSpec)) fnExactNeedsOfCard

/-- THE TIED CARD OF 'laws.FnExactGoodJob'. -/
def fnExactGoodJobCard : Claim7 := { stood := { row := fnExactGoodJobRow, standIns := [], harness := (true, "a0d07b09a96d59c010a660d2c379edc5127159edbf3e1ecb7570148e82a08e4b"), looks := true }, kinds := [], alts := [], laidByText := true, laidKinds := [.data, .pinned], laidTests := true, laidLooks := .later }
def FnExactGoodJobCardSaid : Prop := Claim7.holds Tryd.pinned (.plain (OpenSpec.ofChange fnExactGoodJobSpec)) fnExactGoodJobCard

/-- THE TIED CARD OF 'laws.FnExactJobWords'. -/
def fnExactJobWordsCard : Claim7 := { stood := { row := fnExactJobWordsRow, standIns := [], harness := (true, "a0d07b09a96d59c010a660d2c379edc5127159edbf3e1ecb7570148e82a08e4b"), looks := true }, kinds := [], alts := [], laidByText := true, laidKinds := [.data, .data, .data, .data, .pinned], laidTests := true, laidLooks := .later }
def FnExactJobWordsCardSaid : Prop := Claim7.holds Tryd.pinned (.plain (OpenSpec.ofChange fnExactJobWordsSpec)) fnExactJobWordsCard

/-- THE SECOND FORM's CARD OF 'laws.FnExactGoodItems'. -/
def fnExactGoodItemsUptoCard : Claim7 := { stood := { row := fnExactGoodItemsUptoRow, standIns := [], harness := (true, "a0d07b09a96d59c010a660d2c379edc5127159edbf3e1ecb7570148e82a08e4b"), looks := true }, kinds := [], alts := [], laidByText := true, laidKinds := [.data, .pinned], laidTests := true, laidLooks := .later }
def FnExactGoodItemsUptoCardSaid : Prop := Claim7.holds Tryd.pinned (.plain (OpenSpec.upto fnExactGoodItemsSpec)) fnExactGoodItemsUptoCard

/-- THE SECOND FORM's CARD OF 'laws.FnExactReadOwner'. -/
def fnExactReadOwnerUptoCard : Claim7 := { stood := { row := fnExactReadOwnerUptoRow, standIns := [], harness := (true, "a0d07b09a96d59c010a660d2c379edc5127159edbf3e1ecb7570148e82a08e4b"), looks := true }, kinds := [], alts := [], laidByText := true, laidKinds := [.data, .data, .data, .sentinel, .sentinel], laidTests := true, laidLooks := .later }
def FnExactReadOwnerUptoCardSaid : Prop := Claim7.holds Tryd.pinned (.plain (OpenSpec.upto fnExactReadOwnerSpec)) fnExactReadOwnerUptoCard

/-- THE SECOND FORM's CARD OF 'laws.FnExactNeedsOf'. -/
def fnExactNeedsOfUptoCard : Claim7 := { stood := { row := fnExactNeedsOfUptoRow, standIns := [], harness := (true, "a0d07b09a96d59c010a660d2c379edc5127159edbf3e1ecb7570148e82a08e4b"), looks := true }, kinds := [], alts := [], laidByText := true, laidKinds := [.data, .pinned], laidTests := true, laidLooks := .later }
def FnExactNeedsOfUptoCardSaid : Prop := Claim7.holds Tryd.pinned (.plain (OpenSpec.upto fnExactNeedsOfSpec)) fnExactNeedsOfUptoCard

/-- THE SECOND FORM's CARD OF 'laws.FnExactGoodJob'. -/
def fnExactGoodJobUptoCard : Claim7 := { stood := { row := fnExactGoodJobUptoRow, standIns := [], harness := (true, "a0d07b09a96d59c010a660d2c379edc5127159edbf3e1ecb7570148e82a08e4b"), looks := true }, kinds := [], alts := [], laidByText := true, laidKinds := [.data, .pinned], laidTests := true, laidLooks := .later }
def FnExactGoodJobUptoCardSaid : Prop := Claim7.holds Tryd.pinned (.plain (OpenSpec.upto fnExactGoodJobSpec)) fnExactGoodJobUptoCard

/-- THE SECOND FORM's CARD OF 'laws.FnExactJobWords'. -/
def fnExactJobWordsUptoCard : Claim7 := { stood := { row := fnExactJobWordsUptoRow, standIns := [], harness := (true, "a0d07b09a96d59c010a660d2c379edc5127159edbf3e1ecb7570148e82a08e4b"), looks := true }, kinds := [], alts := [], laidByText := true, laidKinds := [.data, .data, .data, .data, .pinned], laidTests := true, laidLooks := .later }
def FnExactJobWordsUptoCardSaid : Prop := Claim7.holds Tryd.pinned (.plain (OpenSpec.upto fnExactJobWordsSpec)) fnExactJobWordsUptoCard
end Rows
end Go.Proofs.YtibfocaldcjiiaaDoor
