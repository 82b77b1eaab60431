/- Texts of this claim, merged by a program (wip/tools/merge.py): Open. -/
import Derived.Test.YthhmkbchdiflcaaGreatDoorRV
import Derived.Deep.Slices
import Derived.ProofKit
/- What a law's arguments read as, opened into kinds: integers, bools, strings, structs, slices of these. No condition beyond the reading itself. -/
namespace Go.Proofs.YthhmkbchdiflcaaGreatDoor.OpenArgs
open Go.RowKit Go.Deep Go.ChangeShapes Go.WideShapes Go.Proofs.YthhmkbchdiflcaaGreatDoorW.PrintWords
set_option linter.unusedVariables false
set_option linter.unusedSimpArgs false

section
variable {P : Program} {T : TypeId}
end
end Go.Proofs.YthhmkbchdiflcaaGreatDoor.OpenArgs
