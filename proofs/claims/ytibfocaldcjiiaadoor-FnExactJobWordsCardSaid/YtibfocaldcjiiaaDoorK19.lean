/- Texts of this claim, merged by a program (wip/tools/merge.py): HItem. -/
import Derived.Test.YtibfocaldcjiiaaDoorK1
import Derived.Test.YtibfocaldcjiiaaDoorK18
import Derived.Test.YtibfocaldcjiiaaDoorK4
import Derived.Test.YtibfocaldcjiiaaDoorK17
namespace Go.Proofs.YtibfocaldcjiiaaDoor.Q
open Go.RowKit Go.Proofs.YtibfocaldcjiiaaDoorW.PrintWords Go.Proofs.YtibfocaldcjiiaaDoorW.PrintLast Go.Proofs.YtibfocaldcjiiaaDoorW.PrintMore
attribute [local go_sem] max2_int min2_int max_two min_two max_three min_three max_four min_four   -- for this text's walks alone
set_option linter.unusedVariables false
set_option linter.unusedSimpArgs false
def inB (lo hi n : Int) : Bool := decide (lo ≤ n) && decide (n ≤ hi)
theorem within_f (n lo hi : Int) : impl_within.f n lo hi = some (inB lo hi n) := by
  unfold impl_within.f inB
  by_cases h : n ≥ lo
  · rw [if_pos h]; have : lo ≤ n := h; simp [this]
  · rw [if_neg h]; have : ¬ lo ≤ n := h; simp [this]
theorem isMode_f (n : Int) : impl_isMode.f n = some (inB 0 511 n) := by unfold impl_isMode.f; rw [within_f]; rfl
def goodPathB (s : ByteArray) : Bool := decide (s.size ≤ 60) && longB s
theorem GoodPath_f (s : ByteArray) : impl_GoodPath.f s = some (goodPathB s) := by
  unfold impl_GoodPath.f goodPathB impl_isLong.f
  by_cases h : s.size ≤ 60
  · rw [if_pos (by omega), if_pos (by omega)]; simp [h]
  · rw [if_neg (by omega)]; simp [h]
end Go.Proofs.YtibfocaldcjiiaaDoor.Q
