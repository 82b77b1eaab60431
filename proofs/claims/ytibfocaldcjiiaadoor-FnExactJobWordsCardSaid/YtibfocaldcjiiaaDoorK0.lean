/- Texts of this claim, merged by a program (wip/tools/merge.py): Gtr. -/
import Derived.Laws.Strings
import Derived.WalkKit
import Derived.Laws.AppendOwn
namespace Go.Proofs.YtibfocaldcjiiaaDoor.Gtr
end Go.Proofs.YtibfocaldcjiiaaDoor.Gtr
