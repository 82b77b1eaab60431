/- Texts of this claim, merged by a program (wip/tools/merge.py): HItoa. -/
import Derived.Test.YthhmkbchdiflcaaGreatDoorR1
import Derived.Test.YthhmkbchdiflcaaGreatDoorR18
import Derived.Shelf.Strconv.Itoa3
import Derived.Lib.AppendIntMem
/- strconv.Itoa at every int. -/
namespace Go.Proofs.YthhmkbchdiflcaaGreatDoor.Q
open Go.RowKit Go.Proofs.YthhmkbchdiflcaaGreatDoorW.PrintWords Go.Proofs.YthhmkbchdiflcaaGreatDoorW.PrintLast Go.Proofs.YthhmkbchdiflcaaGreatDoorW.PrintMore
attribute [local go_sem] max2_int min2_int max_two min_two max_three min_three max_four min_four   -- for this text's walks alone
set_option linter.unusedVariables false
set_option linter.unusedSimpArgs false

def strItoa.f (n : Int) : Option ByteArray := if -9223372036854775808 ≤ n ∧ n ≤ 9223372036854775807 then some ⟨(Lib.itoa n).toArray⟩ else none
theorem strItoa.calls (a0 : Int) (r : ByteArray) (w : World) (h : strItoa.f a0 = some r) (hE : EnvT w) :
    Calls Tryz.prog 61 #[.int .i64 a0] w fun e w' => e = .returned (.string r) ∧ Below w.heap.size w w' := by
  unfold strItoa.f at h
  split at h
  case isFalse => cases h
  rename_i hr
  injection h with h
  subst h
  refine (Any.strconv_Itoa Tryz.laysM171 a0 hr.1 hr.2 w hE).mono ?_
  rintro e w' ⟨rfl, k, os, rfl⟩
  exact ⟨rfl, Lib.below_grow _ _ (Nat.le_refl _) _ _⟩

end Go.Proofs.YthhmkbchdiflcaaGreatDoor.Q
