/-
  DERIVED. GIVEN WITH THE SEED: THE CARDS: each row of YtfohpboikknknaaGreatDoorRows.lean that lists a variable, with what it lists TIED to the program's text (the seventh form; the later family's looks); each row that meets fmt, with fmt's text TOLD by the authors' own Lean function (tested against real Go, not proved from fmt's source: count such statements apart). THE CARD IS WHAT COUNTS. Prove the row's statement (the work); the ties are given (YtfohpboikknknaaGreatDoorTie.lean); close each card by the builder's one call (the guide's Derived/Test/ToyasCard.lean, 'card_holds'). Laid BY PROGRAM, IN A SANDBOX (cutbox-door.mjs). By AI agents, Wed Nov 11 2026. No macro, syntax, notation, axiom, sorry.
-/
import Derived.Test.YtfohpboikknknaaGreatDoorRows
import GoSem.ClaimSeven
namespace Go.Proofs.YtfohpboikknknaaGreatDoor
namespace Rows

/-- THE TIED CARD OF 'laws.FnExactForestOf'. -/
def fnExactForestOfCard : Claim7 := { stood := { row := fnExactForestOfRow, standIns := [], harness := (true, "ebfffeab5b87a2e0fe07a16c31759d1bdb01269dbb98f573ede2f7e1cdefb79b"), looks := false }, kinds := [], alts := [], laidByText := true, laidKinds := [.data, .pinned], laidTests := true, laidLooks := .later }
def FnExactForestOfCardSaid : Prop := Claim7.holds Tryz.pinned (.plain (OpenSpec.ofChange fnExactForestOfSpec)) fnExactForestOfCard

/-- THE TIED CARD OF 'laws.FnExactVisitsOf'. -/
def fnExactVisitsOfCard : Claim7 := { stood := { row := fnExactVisitsOfRow, standIns := [], harness := (true, "ebfffeab5b87a2e0fe07a16c31759d1bdb01269dbb98f573ede2f7e1cdefb79b"), looks := false }, kinds := [], alts := [], laidByText := true, laidKinds := [.data, .pinned], laidTests := true, laidLooks := .later }
def FnExactVisitsOfCardSaid : Prop := Claim7.holds Tryz.pinned (.plain (OpenSpec.ofChange fnExactVisitsOfSpec)) fnExactVisitsOfCard

/-- THE TIED CARD OF 'laws.FnExactCountMany'. -/
def fnExactCountManyCard : Claim7 := { stood := { row := fnExactCountManyRow, standIns := [], harness := (true, "ebfffeab5b87a2e0fe07a16c31759d1bdb01269dbb98f573ede2f7e1cdefb79b"), looks := false }, kinds := [], alts := [], laidByText := true, laidKinds := [.data, .pinned], laidTests := true, laidLooks := .later }
def FnExactCountManyCardSaid : Prop := Claim7.holds Tryz.pinned (.plain (OpenSpec.ofChange fnExactCountManySpec)) fnExactCountManyCard

/-- THE TIED CARD OF 'laws.FnExactMakeFile'. -/
def fnExactMakeFileCard : Claim7 := { stood := { row := fnExactMakeFileRow, standIns := [], harness := (true, "ebfffeab5b87a2e0fe07a16c31759d1bdb01269dbb98f573ede2f7e1cdefb79b"), looks := false }, kinds := [], alts := [], laidByText := true, laidKinds := [.data, .pinned], laidTests := true, laidLooks := .later }
def FnExactMakeFileCardSaid : Prop := Claim7.holds Tryz.pinned (.plain (OpenSpec.ofChange fnExactMakeFileSpec)) fnExactMakeFileCard

/-- THE TIED CARD OF 'laws.FnExactMakeLink'. -/
def fnExactMakeLinkCard : Claim7 := { stood := { row := fnExactMakeLinkRow, standIns := [], harness := (true, "ebfffeab5b87a2e0fe07a16c31759d1bdb01269dbb98f573ede2f7e1cdefb79b"), looks := false }, kinds := [], alts := [], laidByText := true, laidKinds := [.data, .pinned], laidTests := true, laidLooks := .later }
def FnExactMakeLinkCardSaid : Prop := Claim7.holds Tryz.pinned (.plain (OpenSpec.ofChange fnExactMakeLinkSpec)) fnExactMakeLinkCard

/-- THE TIED CARD OF 'laws.FnExactRename'. -/
def fnExactRenameCard : Claim7 := { stood := { row := fnExactRenameRow, standIns := [], harness := (true, "ebfffeab5b87a2e0fe07a16c31759d1bdb01269dbb98f573ede2f7e1cdefb79b"), looks := false }, kinds := [], alts := [], laidByText := true, laidKinds := [.data, .pinned], laidTests := true, laidLooks := .later }
def FnExactRenameCardSaid : Prop := Claim7.holds Tryz.pinned (.plain (OpenSpec.ofChange fnExactRenameSpec)) fnExactRenameCard

/-- THE SECOND FORM's CARD OF 'laws.FnExactForestOf'. -/
def fnExactForestOfUptoCard : Claim7 := { stood := { row := fnExactForestOfUptoRow, standIns := [], harness := (true, "ebfffeab5b87a2e0fe07a16c31759d1bdb01269dbb98f573ede2f7e1cdefb79b"), looks := false }, kinds := [], alts := [], laidByText := true, laidKinds := [.data, .pinned], laidTests := true, laidLooks := .later }
def FnExactForestOfUptoCardSaid : Prop := Claim7.holds Tryz.pinned (.plain (OpenSpec.upto fnExactForestOfSpec)) fnExactForestOfUptoCard

/-- THE SECOND FORM's CARD OF 'laws.FnExactVisitsOf'. -/
def fnExactVisitsOfUptoCard : Claim7 := { stood := { row := fnExactVisitsOfUptoRow, standIns := [], harness := (true, "ebfffeab5b87a2e0fe07a16c31759d1bdb01269dbb98f573ede2f7e1cdefb79b"), looks := false }, kinds := [], alts := [], laidByText := true, laidKinds := [.data, .pinned], laidTests := true, laidLooks := .later }
def FnExactVisitsOfUptoCardSaid : Prop := Claim7.holds Tryz.pinned (.plain (OpenSpec.upto fnExactVisitsOfSpec)) fnExactVisitsOfUptoCard

/-- THE SECOND FORM's CARD OF 'laws.FnExactCountMany'. -/
def fnExactCountManyUptoCard : Claim7 := { stood := { row := fnExactCountManyUptoRow, standIns := [], harness := (true, "ebfffeab5b87a2e0fe07a16c31759d1bdb01269dbb98f573ede2f7e1cdefb79b"), looks := false }, kinds := [], alts := [], laidByText := true, laidKinds := [.data, .pinned], laidTests := true, laidLooks := .later }
def FnExactCountManyUptoCardSaid : Prop := Claim7.holds Tryz.pinned (.plain (OpenSpec.upto fnExactCountManySpec)) fnExactCountManyUptoCard

/-- THE SECOND FORM's CARD OF 'laws.FnExactMakeFile'. -/
def fnExactMakeFileUptoCard : Claim7 := { stood := { row := fnExactMakeFileUptoRow, standIns := [], harness := (true, "ebfffeab5b87a2e0fe07a16c31759d1bdb01269dbb98f573ede2f7e1cdefb79b"), looks := false }, kinds := [], alts := [], laidByText := true, laidKinds := [.data, .pinned], laidTests := true, laidLooks := .later }
def FnExactMakeFileUptoCardSaid : Prop := Claim7.holds Tryz.pinned (.plain (OpenSpec.upto fnExactMakeFileSpec)) fnExactMakeFileUptoCard

/-- THE SECOND FORM's CARD OF 'laws.FnExactMakeLink'. -/
def fnExactMakeLinkUptoCard : Claim7 := { stood := { row := fnExactMakeLinkUptoRow, standIns := [], harness := (true, "ebfffeab5b87a2e0fe07a16c31759d1bdb01269dbb98f573ede2f7e1cdefb79b"), looks := false }, kinds := [], alts := [], laidByText := true, laidKinds := [.data, .pinned], laidTests := true, laidLooks := .later }
def FnExactMakeLinkUptoCardSaid : Prop := Claim7.holds Tryz.pinned (.plain (OpenSpec.upto fnExactMakeLinkSpec)) fnExactMakeLinkUptoCard

/-- THE SECOND FORM's CARD OF 'laws.FnExactRename'. -/
def fnExactRenameUptoCard : Claim7 := { stood := { row := fnExactRenameUptoRow, standIns := [], harness := (true, "ebfffeab5b87a2e0fe07a16c31759d1bdb01269dbb98f573ede2f7e1cdefb79b"), looks := false }, kinds := [], alts := [], laidByText := true, laidKinds := [.data, .pinned], laidTests := true, laidLooks := .later }
def FnExactRenameUptoCardSaid : Prop := Claim7.holds Tryz.pinned (.plain (OpenSpec.upto fnExactRenameSpec)) fnExactRenameUptoCard
end Rows
end Go.Proofs.YtfohpboikknknaaGreatDoor
