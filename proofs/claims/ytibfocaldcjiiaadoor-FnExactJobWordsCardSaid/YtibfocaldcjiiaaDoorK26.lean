/- Texts of this claim, merged by a program (wip/tools/merge.py): HOwnerB. -/
import Derived.Test.YtibfocaldcjiiaaDoorK1
import Derived.Test.YtibfocaldcjiiaaDoorK4
import Derived.Test.YtibfocaldcjiiaaDoorK23
import Derived.Test.YtibfocaldcjiiaaDoorK22
import Derived.OwnWalk
namespace Go.Proofs.YtibfocaldcjiiaaDoor.Q
open Go.RowKit Go.Proofs.YtibfocaldcjiiaaDoorW.PrintWords Go.Proofs.YtibfocaldcjiiaaDoorW.PrintLast Go.Proofs.YtibfocaldcjiiaaDoorW.PrintMore
attribute [local go_sem] max2_int min2_int max_two min_two max_three min_three max_four min_four   -- for this text's walks alone
set_option linter.unusedVariables false
set_option linter.unusedSimpArgs false
structure Env (W : World) : Prop where
  m : ∃ m, W.cell? ⟨0, 0, none⟩ = some (.int .i64 m)
  s : ∃ ev, W.cell? ⟨1, 0, none⟩ = some ev ∧ (ev = .nilIface ∨ ∃ te pe, ev = .iface te pe)
  r : ∃ ev, W.cell? ⟨2, 0, none⟩ = some ev ∧ (ev = .nilIface ∨ ∃ te pe, ev = .iface te pe)
theorem Env.below {W W' : World} (h : Env W) (hb : Below W.heap.size W W') : Env W' := by
  obtain ⟨⟨m, hm⟩, ⟨es, hs, hs2⟩, ⟨er, hr, hr2⟩⟩ := h
  exact ⟨⟨m, (hb.cell (World.block_lt_of_cell? _ _ hm)).trans hm⟩, ⟨es, (hb.cell (World.block_lt_of_cell? _ _ hs)).trans hs, hs2⟩, ⟨er, (hb.cell (World.block_lt_of_cell? _ _ hr)).trans hr, hr2⟩⟩
theorem areOwners_f (u g : Int) : impl_areOwners.f u g = some (inB (-1) 99 u && inB (-1) 99 g) := by
  unfold impl_areOwners.f
  rw [within_f, within_f]
  simp only [Option.bind_some]
  cases inB (-1) 99 u <;> simp
end Go.Proofs.YtibfocaldcjiiaaDoor.Q
