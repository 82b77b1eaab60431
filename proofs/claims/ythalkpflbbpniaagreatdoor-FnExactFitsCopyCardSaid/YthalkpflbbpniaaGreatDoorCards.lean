/-
  DERIVED. GIVEN WITH THE SEED: THE CARDS: each row of YthalkpflbbpniaaGreatDoorRows.lean that lists a variable, with what it lists TIED to the program's text (the seventh form; the later family's looks); each row that meets fmt, with fmt's text TOLD by the authors' own Lean function (tested against real Go, not proved from fmt's source: count such statements apart). THE CARD IS WHAT COUNTS. Prove the row's statement (the work); the ties are given (YthalkpflbbpniaaGreatDoorTie.lean); close each card by the builder's one call (the guide's Derived/Test/ToyasCard.lean, 'card_holds'). Laid BY PROGRAM, IN A SANDBOX (cutbox-door.mjs). By AI agents, Wed Nov 11 2026. No macro, syntax, notation, axiom, sorry.
-/
import Derived.Test.YthalkpflbbpniaaGreatDoorRows
import GoSem.ClaimSeven
namespace Go.Proofs.YthalkpflbbpniaaGreatDoor
namespace Rows

/-- THE TIED CARD OF 'laws.FnExactForestOf'. -/
def fnExactForestOfCard : Claim7 := { stood := { row := fnExactForestOfRow, standIns := [], harness := (true, "c9605318eba06a8bc0abf4de61543f7af0c896a3f697b4ee99a2c5f051e428a0"), looks := false }, kinds := [], alts := [], laidByText := true, laidKinds := [.data, .pinned], laidTests := true, laidLooks := .later }
def FnExactForestOfCardSaid : Prop := Claim7.holds Tryz.pinned (.plain (OpenSpec.ofChange fnExactForestOfSpec)) fnExactForestOfCard

/-- THE TIED CARD OF 'laws.FnExactFitsCopy'. -/
def fnExactFitsCopyCard : Claim7 := { stood := { row := fnExactFitsCopyRow, standIns := [], harness := (true, "c9605318eba06a8bc0abf4de61543f7af0c896a3f697b4ee99a2c5f051e428a0"), looks := false }, kinds := [], alts := [], laidByText := true, laidKinds := [.data, .pinned], laidTests := true, laidLooks := .later }
def FnExactFitsCopyCardSaid : Prop := Claim7.holds Tryz.pinned (.plain (OpenSpec.ofChange fnExactFitsCopySpec)) fnExactFitsCopyCard

/-- THE SECOND FORM's CARD OF 'laws.FnExactForestOf'. -/
def fnExactForestOfUptoCard : Claim7 := { stood := { row := fnExactForestOfUptoRow, standIns := [], harness := (true, "c9605318eba06a8bc0abf4de61543f7af0c896a3f697b4ee99a2c5f051e428a0"), looks := false }, kinds := [], alts := [], laidByText := true, laidKinds := [.data, .pinned], laidTests := true, laidLooks := .later }
def FnExactForestOfUptoCardSaid : Prop := Claim7.holds Tryz.pinned (.plain (OpenSpec.upto fnExactForestOfSpec)) fnExactForestOfUptoCard

/-- THE SECOND FORM's CARD OF 'laws.FnExactFitsCopy'. -/
def fnExactFitsCopyUptoCard : Claim7 := { stood := { row := fnExactFitsCopyUptoRow, standIns := [], harness := (true, "c9605318eba06a8bc0abf4de61543f7af0c896a3f697b4ee99a2c5f051e428a0"), looks := false }, kinds := [], alts := [], laidByText := true, laidKinds := [.data, .pinned], laidTests := true, laidLooks := .later }
def FnExactFitsCopyUptoCardSaid : Prop := Claim7.holds Tryz.pinned (.plain (OpenSpec.upto fnExactFitsCopySpec)) fnExactFitsCopyUptoCard
end Rows
end Go.Proofs.YthalkpflbbpniaaGreatDoor
