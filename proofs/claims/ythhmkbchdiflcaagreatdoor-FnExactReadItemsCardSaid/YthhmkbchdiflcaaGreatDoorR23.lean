/- Texts of this claim, merged by a program (wip/tools/merge.py): HIndexAny. -/
import Derived.Test.YthhmkbchdiflcaaGreatDoorR1
import Derived.Test.YthhmkbchdiflcaaGreatDoorR2
import Derived.Test.YthhmkbchdiflcaaGreatDoorR6
import Derived.Test.YthhmkbchdiflcaaGreatDoorR22
import Derived.Laws.Runes
import Derived.Laws.RangeAny
import Derived.Lib.OthersKept
import Derived.Lib.DecodeN
import Derived.Lib.MapLaws
import Derived.Outline
/- strings.IndexAny at two or three signs of ASCII, every text, one that is no UTF-8 too. -/
namespace Go.Proofs.YthhmkbchdiflcaaGreatDoor.Q
open Go.RowKit Go.Proofs.YthhmkbchdiflcaaGreatDoorW.PrintWords Go.Proofs.YthhmkbchdiflcaaGreatDoorW.PrintLast Go.Proofs.YthhmkbchdiflcaaGreatDoorW.PrintMore
attribute [local go_sem] max2_int min2_int max_two min_two max_three min_three max_four min_four   -- for this text's walks alone
set_option linter.unusedVariables false
set_option linter.unusedSimpArgs false

end Go.Proofs.YthhmkbchdiflcaaGreatDoor.Q
