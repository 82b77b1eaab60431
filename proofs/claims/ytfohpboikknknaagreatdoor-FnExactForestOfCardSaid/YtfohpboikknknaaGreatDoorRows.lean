/-
  NARROWER THAN 'FOR EVERY INPUT', by the rows' own cells (each row's printed sentence says how): FnExactForestOf: laid · FnExactVisitsOf: laid · FnExactCountMany: laid · FnExactMakeFile: laid · FnExactMakeLink: laid · FnExactRename: laid.
  DERIVED. THE GIVEN ROWS OF THIS SEAT. 6 by the template 'for every input the law returns true; each argument reads behind the call as it read before'; 0 by the template 'total and deterministic' (their statements: YtfohpboikknknaaGreatDoorTotals.lean).
  GIVEN WITH THE SEED: the statements are not yours to turn. If you find one false, say at which input.
  Laid BY PROGRAM, IN A SANDBOX (cutbox-rows.mjs): the forced cells as the released guide's own fill.sh prints them over the translation 28f2feb301bd5977… (all of the seat's roots in one cut). By AI agents, Wed Nov 11 2026. No macro, syntax, notation, axiom, sorry.
-/
import Derived.Test.YtfohpboikknknaaGreatDoorChecked
import GoSem.PinnedTables
import GoSem.Claim
import GoSem.ClaimJoined
import GoSem.ClaimMapViews
import Derived.JoinedTies
import Derived.KernelRfl
namespace Go.Proofs.YtfohpboikknknaaGreatDoor
/- THE CELL 'sum', in the pinned program and in every row, IS THE sha256 OF THE DUMP (.gsa) THAT YtfohpboikknknaaGreatDoorProg.lean LOADS. Nothing in Lean hashes anything: it is a label: what it is worth is what the hold of that sum in a sandbox is worth. -/
noncomputable def Tryz.pinned : Pinned := { name := "ytfohpboikknknaagreatdoor", sum := "28f2feb301bd5977134ac964dc4c74bbb5ee77a4e75de6f665cc06bc20573b0b", checked := Tryz.checked }
namespace Rows
def none {H : Type} : Left H := { results := [], args := [] }

/- WHAT THE LISTED PACKAGE-LEVEL VARIABLES READ AS WHEN THE CALL BEGINS. Each datum BY PROGRAM (the guide's laid-datum.mjs) off the statement by which the dump's own 'gosem.cut.vars' lays the variable. In a bare row this is a premise. The card (YtfohpboikknknaaGreatDoorCards.lean) ties it to the program's text. -/
def laid_unicode_utf8_acceptRanges {H : Type} : DataW H := .agg [.agg [.lit (.int .u8 128), .lit (.int .u8 191)], .agg [.lit (.int .u8 160), .lit (.int .u8 191)], .agg [.lit (.int .u8 128), .lit (.int .u8 159)], .agg [.lit (.int .u8 144), .lit (.int .u8 191)], .agg [.lit (.int .u8 128), .lit (.int .u8 143)], .agg [.lit (.int .u8 0), .lit (.int .u8 0)], .agg [.lit (.int .u8 0), .lit (.int .u8 0)], .agg [.lit (.int .u8 0), .lit (.int .u8 0)], .agg [.lit (.int .u8 0), .lit (.int .u8 0)], .agg [.lit (.int .u8 0), .lit (.int .u8 0)], .agg [.lit (.int .u8 0), .lit (.int .u8 0)], .agg [.lit (.int .u8 0), .lit (.int .u8 0)], .agg [.lit (.int .u8 0), .lit (.int .u8 0)], .agg [.lit (.int .u8 0), .lit (.int .u8 0)], .agg [.lit (.int .u8 0), .lit (.int .u8 0)], .agg [.lit (.int .u8 0), .lit (.int .u8 0)]]
/-- One of Go's own tables, pinned by name: the form's constant. -/
def laid_unicode_utf8_first : DataW Unit := Go.Pinned.utf8First

/-- 'laws.FnExactForestOf': WHATEVER THE INPUT: true; the input reads as it did. -/
def fnExactForestOfSpec : ChangeSpec := { name := "fnExactForestOf", fn := fun _ => fun
  | [d1, d2, d3] => { results := [.lit (.bool true)], args := [d1, d2, d3] }
  | _ => none }
def fnExactForestOfRow : OpenClaim := { program := "ytfohpboikknknaagreatdoor", sum := "28f2feb301bd5977134ac964dc4c74bbb5ee77a4e75de6f665cc06bc20573b0b", func := "loop.example/g00756/laws.FnExactForestOf", spec := "fnExactForestOf", inPlace := ["internal/bytealg.CountString", "internal/bytealg.IndexByteString", "internal/bytealg.IndexString"], unfollowed := true, recurses := true, named := ["unicode/utf8.first", "unicode/utf8.acceptRanges", "internal/bytealg.MaxLen"], apart := false, laid := [("unicode/utf8.acceptRanges", laid_unicode_utf8_acceptRanges), ("unicode/utf8.first", laid_unicode_utf8_first)] }
def FnExactForestOfSaid : Prop := fnExactForestOfRow.holds Tryz.pinned (OpenSpec.ofChange fnExactForestOfSpec)

/-- ITS FALSE NEIGHBOUR: 'it returns false'. Refute it at one input. -/
def fnExactForestOfWrong : ChangeSpec := { name := "fnExactForestOf", fn := fun _ => fun
  | [d1, d2, d3] => { results := [.lit (.bool false)], args := [d1, d2, d3] }
  | _ => none }
def FnExactForestOfWrongFalsely : Prop := fnExactForestOfRow.holds Tryz.pinned (OpenSpec.ofChange fnExactForestOfWrong)

/-- 'laws.FnExactVisitsOf': WHATEVER THE INPUT: true; the input reads as it did. -/
def fnExactVisitsOfSpec : ChangeSpec := { name := "fnExactVisitsOf", fn := fun _ => fun
  | [d1, d2, d3, d4, d5, d6] => { results := [.lit (.bool true)], args := [d1, d2, d3, d4, d5, d6] }
  | _ => none }
def fnExactVisitsOfRow : OpenClaim := { program := "ytfohpboikknknaagreatdoor", sum := "28f2feb301bd5977134ac964dc4c74bbb5ee77a4e75de6f665cc06bc20573b0b", func := "loop.example/g00756/laws.FnExactVisitsOf", spec := "fnExactVisitsOf", inPlace := ["internal/bytealg.CountString", "internal/bytealg.IndexByteString", "internal/bytealg.IndexString"], unfollowed := true, recurses := true, named := ["unicode/utf8.first", "unicode/utf8.acceptRanges", "internal/bytealg.MaxLen"], apart := false, laid := [("unicode/utf8.acceptRanges", laid_unicode_utf8_acceptRanges), ("unicode/utf8.first", laid_unicode_utf8_first)] }
def FnExactVisitsOfSaid : Prop := fnExactVisitsOfRow.holds Tryz.pinned (OpenSpec.ofChange fnExactVisitsOfSpec)

/-- ITS FALSE NEIGHBOUR: 'it returns false'. Refute it at one input. -/
def fnExactVisitsOfWrong : ChangeSpec := { name := "fnExactVisitsOf", fn := fun _ => fun
  | [d1, d2, d3, d4, d5, d6] => { results := [.lit (.bool false)], args := [d1, d2, d3, d4, d5, d6] }
  | _ => none }
def FnExactVisitsOfWrongFalsely : Prop := fnExactVisitsOfRow.holds Tryz.pinned (OpenSpec.ofChange fnExactVisitsOfWrong)

/-- 'laws.FnExactCountMany': WHATEVER THE INPUT: true; the input reads as it did. -/
def fnExactCountManySpec : ChangeSpec := { name := "fnExactCountMany", fn := fun _ => fun
  | [d1, d2, d3, d4, d5, d6] => { results := [.lit (.bool true)], args := [d1, d2, d3, d4, d5, d6] }
  | _ => none }
def fnExactCountManyRow : OpenClaim := { program := "ytfohpboikknknaagreatdoor", sum := "28f2feb301bd5977134ac964dc4c74bbb5ee77a4e75de6f665cc06bc20573b0b", func := "loop.example/g00756/laws.FnExactCountMany", spec := "fnExactCountMany", inPlace := ["internal/bytealg.CountString", "internal/bytealg.IndexByteString", "internal/bytealg.IndexString"], unfollowed := true, recurses := true, named := ["unicode/utf8.first", "unicode/utf8.acceptRanges", "internal/bytealg.MaxLen"], apart := false, laid := [("unicode/utf8.acceptRanges", laid_unicode_utf8_acceptRanges), ("unicode/utf8.first", laid_unicode_utf8_first)] }
def FnExactCountManySaid : Prop := fnExactCountManyRow.holds Tryz.pinned (OpenSpec.ofChange fnExactCountManySpec)

/-- ITS FALSE NEIGHBOUR: 'it returns false'. Refute it at one input. -/
def fnExactCountManyWrong : ChangeSpec := { name := "fnExactCountMany", fn := fun _ => fun
  | [d1, d2, d3, d4, d5, d6] => { results := [.lit (.bool false)], args := [d1, d2, d3, d4, d5, d6] }
  | _ => none }
def FnExactCountManyWrongFalsely : Prop := fnExactCountManyRow.holds Tryz.pinned (OpenSpec.ofChange fnExactCountManyWrong)

/-- 'laws.FnExactMakeFile': WHATEVER THE INPUT: true; the input reads as it did. -/
def fnExactMakeFileSpec : ChangeSpec := { name := "fnExactMakeFile", fn := fun _ => fun
  | [d1, d2, d3, d4, d5, d6] => { results := [.lit (.bool true)], args := [d1, d2, d3, d4, d5, d6] }
  | _ => none }
def fnExactMakeFileRow : OpenClaim := { program := "ytfohpboikknknaagreatdoor", sum := "28f2feb301bd5977134ac964dc4c74bbb5ee77a4e75de6f665cc06bc20573b0b", func := "loop.example/g00756/laws.FnExactMakeFile", spec := "fnExactMakeFile", inPlace := ["internal/bytealg.CountString", "internal/bytealg.IndexByteString", "internal/bytealg.IndexString", "slices.overlaps[loop.example/g00756/impl.Entry]"], unfollowed := true, recurses := true, named := ["unicode/utf8.first", "unicode/utf8.acceptRanges", "internal/bytealg.MaxLen"], apart := false, laid := [("unicode/utf8.acceptRanges", laid_unicode_utf8_acceptRanges), ("unicode/utf8.first", laid_unicode_utf8_first)] }
def FnExactMakeFileSaid : Prop := fnExactMakeFileRow.holds Tryz.pinned (OpenSpec.ofChange fnExactMakeFileSpec)

/-- ITS FALSE NEIGHBOUR: 'it returns false'. Refute it at one input. -/
def fnExactMakeFileWrong : ChangeSpec := { name := "fnExactMakeFile", fn := fun _ => fun
  | [d1, d2, d3, d4, d5, d6] => { results := [.lit (.bool false)], args := [d1, d2, d3, d4, d5, d6] }
  | _ => none }
def FnExactMakeFileWrongFalsely : Prop := fnExactMakeFileRow.holds Tryz.pinned (OpenSpec.ofChange fnExactMakeFileWrong)

/-- 'laws.FnExactMakeLink': WHATEVER THE INPUT: true; the input reads as it did. -/
def fnExactMakeLinkSpec : ChangeSpec := { name := "fnExactMakeLink", fn := fun _ => fun
  | [d1, d2, d3, d4, d5] => { results := [.lit (.bool true)], args := [d1, d2, d3, d4, d5] }
  | _ => none }
def fnExactMakeLinkRow : OpenClaim := { program := "ytfohpboikknknaagreatdoor", sum := "28f2feb301bd5977134ac964dc4c74bbb5ee77a4e75de6f665cc06bc20573b0b", func := "loop.example/g00756/laws.FnExactMakeLink", spec := "fnExactMakeLink", inPlace := ["internal/bytealg.CountString", "internal/bytealg.IndexByteString", "internal/bytealg.IndexString", "slices.overlaps[loop.example/g00756/impl.Entry]"], unfollowed := true, recurses := true, named := ["unicode/utf8.first", "unicode/utf8.acceptRanges", "internal/bytealg.MaxLen"], apart := false, laid := [("unicode/utf8.acceptRanges", laid_unicode_utf8_acceptRanges), ("unicode/utf8.first", laid_unicode_utf8_first)] }
def FnExactMakeLinkSaid : Prop := fnExactMakeLinkRow.holds Tryz.pinned (OpenSpec.ofChange fnExactMakeLinkSpec)

/-- ITS FALSE NEIGHBOUR: 'it returns false'. Refute it at one input. -/
def fnExactMakeLinkWrong : ChangeSpec := { name := "fnExactMakeLink", fn := fun _ => fun
  | [d1, d2, d3, d4, d5] => { results := [.lit (.bool false)], args := [d1, d2, d3, d4, d5] }
  | _ => none }
def FnExactMakeLinkWrongFalsely : Prop := fnExactMakeLinkRow.holds Tryz.pinned (OpenSpec.ofChange fnExactMakeLinkWrong)

/-- 'laws.FnExactRename': WHATEVER THE INPUT: true; the input reads as it did. -/
def fnExactRenameSpec : ChangeSpec := { name := "fnExactRename", fn := fun _ => fun
  | [d1, d2, d3, d4, d5] => { results := [.lit (.bool true)], args := [d1, d2, d3, d4, d5] }
  | _ => none }
def fnExactRenameRow : OpenClaim := { program := "ytfohpboikknknaagreatdoor", sum := "28f2feb301bd5977134ac964dc4c74bbb5ee77a4e75de6f665cc06bc20573b0b", func := "loop.example/g00756/laws.FnExactRename", spec := "fnExactRename", inPlace := ["internal/bytealg.CountString", "internal/bytealg.IndexByteString", "internal/bytealg.IndexString", "slices.overlaps[loop.example/g00756/impl.Entry]"], unfollowed := true, recurses := true, named := ["unicode/utf8.first", "unicode/utf8.acceptRanges", "internal/bytealg.MaxLen"], apart := false, laid := [("unicode/utf8.acceptRanges", laid_unicode_utf8_acceptRanges), ("unicode/utf8.first", laid_unicode_utf8_first)] }
def FnExactRenameSaid : Prop := fnExactRenameRow.holds Tryz.pinned (OpenSpec.ofChange fnExactRenameSpec)

/-- ITS FALSE NEIGHBOUR: 'it returns false'. Refute it at one input. -/
def fnExactRenameWrong : ChangeSpec := { name := "fnExactRename", fn := fun _ => fun
  | [d1, d2, d3, d4, d5] => { results := [.lit (.bool false)], args := [d1, d2, d3, d4, d5] }
  | _ => none }
def FnExactRenameWrongFalsely : Prop := fnExactRenameRow.holds Tryz.pinned (OpenSpec.ofChange fnExactRenameWrong)

/- THE SECOND FORM. 'bulk': how many values and letters a reading holds, each counted each time it is reached (what is shared counts as often as it is met; a slice's spare places count too). A statement '..UptoSaid' is the law's where the arguments, and the package variables that the reading takes, are together of bulk at most 1048576: NARROWER than '..Said'. Prove '..Said' where nothing that the law and all that it calls make is longer than what came in: it says more and counts as full. Else prove '..UptoSaid'. A law counts once. -/
mutual
def uptoBulk {H : Type} : DataW H → Nat
  | .lit (.string bytes) => bytes.length + 1
  | .lit _ => 1
  | .nil => 1
  | .ptr d => uptoBulk d + 1
  | .slice elems spare => uptoBulkAll elems + uptoBulkAll spare + 1
  | .agg parts => uptoBulkAll parts + 1
  | .iface _ d => uptoBulk d + 1
  | .map entries => uptoBulkEntries entries + 1
  | .held _ => 1
def uptoBulkAll {H : Type} : List (DataW H) → Nat
  | [] => 0
  | d :: r => uptoBulk d + uptoBulkAll r
def uptoBulkEntries {H : Type} : List (Lit × DataW H) → Nat
  | [] => 0
  | x :: r => uptoBulkEntry x + uptoBulkEntries r
def uptoBulkEntry {H : Type} : Lit × DataW H → Nat
  | (.string bytes, d) => bytes.length + uptoBulk d + 1
  | (_, d) => uptoBulk d + 1
 end
def uptoSmall : (H : Type) → List (DataW H) → Bool := fun _ ds => decide (uptoBulkAll ds ≤ 1048576)
def OpenSpec.upto (s : _root_.Go.ChangeSpec) : _root_.Go.OpenSpec := { _root_.Go.OpenSpec.ofChange s with cond := some uptoSmall }

/-- 'laws.FnExactForestOf', WHERE WHAT IT READS IS OF BULK AT MOST 1048576: true; the input reads as it did. -/
def fnExactForestOfUptoRow : OpenClaim := { program := "ytfohpboikknknaagreatdoor", sum := "28f2feb301bd5977134ac964dc4c74bbb5ee77a4e75de6f665cc06bc20573b0b", func := "loop.example/g00756/laws.FnExactForestOf", spec := "fnExactForestOf", inPlace := ["internal/bytealg.CountString", "internal/bytealg.IndexByteString", "internal/bytealg.IndexString"], unfollowed := true, recurses := true, named := ["unicode/utf8.first", "unicode/utf8.acceptRanges", "internal/bytealg.MaxLen"], apart := false, laid := [("unicode/utf8.acceptRanges", laid_unicode_utf8_acceptRanges), ("unicode/utf8.first", laid_unicode_utf8_first)], narrowed := true }
def FnExactForestOfUptoSaid : Prop := fnExactForestOfUptoRow.holds Tryz.pinned (OpenSpec.upto fnExactForestOfSpec)

/-- 'laws.FnExactVisitsOf', WHERE WHAT IT READS IS OF BULK AT MOST 1048576: true; the input reads as it did. -/
def fnExactVisitsOfUptoRow : OpenClaim := { program := "ytfohpboikknknaagreatdoor", sum := "28f2feb301bd5977134ac964dc4c74bbb5ee77a4e75de6f665cc06bc20573b0b", func := "loop.example/g00756/laws.FnExactVisitsOf", spec := "fnExactVisitsOf", inPlace := ["internal/bytealg.CountString", "internal/bytealg.IndexByteString", "internal/bytealg.IndexString"], unfollowed := true, recurses := true, named := ["unicode/utf8.first", "unicode/utf8.acceptRanges", "internal/bytealg.MaxLen"], apart := false, laid := [("unicode/utf8.acceptRanges", laid_unicode_utf8_acceptRanges), ("unicode/utf8.first", laid_unicode_utf8_first)], narrowed := true }
def FnExactVisitsOfUptoSaid : Prop := fnExactVisitsOfUptoRow.holds Tryz.pinned (OpenSpec.upto fnExactVisitsOfSpec)

/-- 'laws.FnExactCountMany', WHERE WHAT IT READS IS OF BULK AT MOST 1048576: true; the input reads as it did. -/
def fnExactCountManyUptoRow : OpenClaim := { program := "ytfohpboikknknaagreatdoor", sum := "28f2feb301bd5977134ac964dc4c74bbb5ee77a4e75de6f665cc06bc20573b0b", func := "loop.example/g00756/laws.FnExactCountMany", spec := "fnExactCountMany", inPlace := ["internal/bytealg.CountString", "internal/bytealg.IndexByteString", "internal/bytealg.IndexString"], unfollowed := true, recurses := true, named := ["unicode/utf8.first", "unicode/utf8.acceptRanges", "internal/bytealg.MaxLen"], apart := false, laid := [("unicode/utf8.acceptRanges", laid_unicode_utf8_acceptRanges), ("unicode/utf8.first", laid_unicode_utf8_first)], narrowed := true }
def FnExactCountManyUptoSaid : Prop := fnExactCountManyUptoRow.holds Tryz.pinned (OpenSpec.upto fnExactCountManySpec)

/-- 'laws.FnExactMakeFile', WHERE WHAT IT READS IS OF BULK AT MOST 1048576: true; the input reads as it did. -/
def fnExactMakeFileUptoRow : OpenClaim := { program := "ytfohpboikknknaagreatdoor", sum := "28f2feb301bd5977134ac964dc4c74bbb5ee77a4e75de6f665cc06bc20573b0b", func := "loop.example/g00756/laws.FnExactMakeFile", spec := "fnExactMakeFile", inPlace := ["internal/bytealg.CountString", "internal/bytealg.IndexByteString", "internal/bytealg.IndexString", "slices.overlaps[loop.example/g00756/impl.Entry]"], unfollowed := true, recurses := true, named := ["unicode/utf8.first", "unicode/utf8.acceptRanges", "internal/bytealg.MaxLen"], apart := false, laid := [("unicode/utf8.acceptRanges", laid_unicode_utf8_acceptRanges), ("unicode/utf8.first", laid_unicode_utf8_first)], narrowed := true }
def FnExactMakeFileUptoSaid : Prop := fnExactMakeFileUptoRow.holds Tryz.pinned (OpenSpec.upto fnExactMakeFileSpec)

/-- 'laws.FnExactMakeLink', WHERE WHAT IT READS IS OF BULK AT MOST 1048576: true; the input reads as it did. -/
def fnExactMakeLinkUptoRow : OpenClaim := { program := "ytfohpboikknknaagreatdoor", sum := "28f2feb301bd5977134ac964dc4c74bbb5ee77a4e75de6f665cc06bc20573b0b", func := "loop.example/g00756/laws.FnExactMakeLink", spec := "fnExactMakeLink", inPlace := ["internal/bytealg.CountString", "internal/bytealg.IndexByteString", "internal/bytealg.IndexString", "slices.overlaps[loop.example/g00756/impl.Entry]"], unfollowed := true, recurses := true, named := ["unicode/utf8.first", "unicode/utf8.acceptRanges", "internal/bytealg.MaxLen"], apart := false, laid := [("unicode/utf8.acceptRanges", laid_unicode_utf8_acceptRanges), ("unicode/utf8.first", laid_unicode_utf8_first)], narrowed := true }
def FnExactMakeLinkUptoSaid : Prop := fnExactMakeLinkUptoRow.holds Tryz.pinned (OpenSpec.upto fnExactMakeLinkSpec)

/-- 'laws.FnExactRename', WHERE WHAT IT READS IS OF BULK AT MOST 1048576: true; the input reads as it did. -/
def fnExactRenameUptoRow : OpenClaim := { program := "ytfohpboikknknaagreatdoor", sum := "28f2feb301bd5977134ac964dc4c74bbb5ee77a4e75de6f665cc06bc20573b0b", func := "loop.example/g00756/laws.FnExactRename", spec := "fnExactRename", inPlace := ["internal/bytealg.CountString", "internal/bytealg.IndexByteString", "internal/bytealg.IndexString", "slices.overlaps[loop.example/g00756/impl.Entry]"], unfollowed := true, recurses := true, named := ["unicode/utf8.first", "unicode/utf8.acceptRanges", "internal/bytealg.MaxLen"], apart := false, laid := [("unicode/utf8.acceptRanges", laid_unicode_utf8_acceptRanges), ("unicode/utf8.first", laid_unicode_utf8_first)], narrowed := true }
def FnExactRenameUptoSaid : Prop := fnExactRenameUptoRow.holds Tryz.pinned (OpenSpec.upto fnExactRenameSpec)

end Rows
end Go.Proofs.YtfohpboikknknaaGreatDoor
