/- Texts of this claim, merged by a program (wip/tools/merge.py): HOwnerLaw. -/
import Derived.Test.YtibfocaldcjiiaaDoorR1
import Derived.Test.YtibfocaldcjiiaaDoorR5
import Derived.Test.YtibfocaldcjiiaaDoorR10
import Derived.Test.YtibfocaldcjiiaaDoorR9
import Derived.Test.YtibfocaldcjiiaaDoorR6
/- FnExactReadOwner: the walk of the law, in a world whose error variables hold errors. -/
namespace Go.Proofs.YtibfocaldcjiiaaDoor.Q
open Go.RowKit Go.Proofs.YtibfocaldcjiiaaDoorW.PrintWords Go.Proofs.YtibfocaldcjiiaaDoorW.PrintLast Go.Proofs.YtibfocaldcjiiaaDoorW.PrintMore
attribute [local go_sem] max2_int min2_int max_two min_two max_three min_three max_four min_four   -- for this text's walks alone
set_option linter.unusedVariables false
set_option linter.unusedSimpArgs false

theorem digB_list (n : Int) : (digB n).toList = digs n := by rw [ByteArray.toList_eq]; rfl
theorem ownB_list (u g : Int) : (ownB u g).toList = ownL u g := by
  unfold ownB ownL
  have e0 : (⟨#[]⟩ : ByteArray).toList = [] := by rw [ByteArray.toList_eq]
  have ea : ∀ a b : ByteArray, (a ++ b).toList = a.toList ++ b.toList := fun a b => by
    rw [ByteArray.toList_eq, ByteArray.toList_eq, ByteArray.toList_eq, ByteArray.data_append, Array.toList_append]
  have e1 : (⟨#[58]⟩ : ByteArray).toList = [58] := by rw [ByteArray.toList_eq]
  by_cases h : g = -1
  · rw [if_pos h, if_pos h]
    by_cases h2 : u = -1
    · rw [if_pos h2, if_pos h2, e0]
    · rw [if_neg h2, if_neg h2, digB_list]
  · rw [if_neg h, if_neg h, ea, ea, e1, digB_list]
    by_cases h2 : u = -1
    · rw [if_pos h2, if_pos h2, e0]; rfl
    · rw [if_neg h2, if_neg h2, digB_list]; rfl
theorem roB_eq (s : ByteArray) : roB s = ownP (spl 58 s.data.toList) := by
  rw [← roL_eq]
  unfold roB roL roV roVL cutL
  have e : ∀ l : List UInt8, atoiV ⟨l.toArray⟩ = atoiL l := fun l => by unfold atoiV atoiL; rfl
  rw [e, e, ByteArray.toList_eq]
  generalize (if (Lib.cut s.data.toList [58]).1 = [] then (-1 : Int) else atoiL (Lib.cut s.data.toList [58]).1) = u
  generalize (if (Lib.cut s.data.toList [58]).2.2 = true then atoiL (Lib.cut s.data.toList [58]).2.1 else (-1 : Int)) = g
  rw [ownB_list]
  rfl
theorem cut_lens (s : List UInt8) : (Lib.cut s [58]).1.length ≤ s.length ∧ (Lib.cut s [58]).2.1.length ≤ s.length := by
  unfold Lib.cut
  split
  · constructor
    · simp only [List.length_take]; omega
    · simp only [List.length_drop]; omega
  · simp
set_option maxHeartbeats 1000000 in
set_option maxRecDepth 100000 in
theorem lawOwner_big (s : ByteArray) (W : World) (h : decide ((1048576 : Int) < (s.size : Int)) = true) :
    Calls Tryd.prog 4 #[.string s] W fun e w' => e = .returned (.bool true) ∧ Below W.heap.size W w' := by
  have h2 : decide (1048576 < s.size) = true := by simp at h ⊢; omega
  go_enter Tryd.func4, Tryd.ntmps4
  go_wp2
  go_ret
  exact ⟨rfl, by repeat (first | exact Below.refl _ _ | apply pw_below_drewN | apply below_drew1)⟩
set_option maxHeartbeats 1000000 in
set_option maxRecDepth 100000 in
theorem lawOwner_small (s : ByteArray) (W : World) (h : decide ((1048576 : Int) < (s.size : Int)) = false) (r1 r2 : Int) (r3 : Bool)
    (HS : Aside0 (Calls Tryd.prog 13 #[.string s] W fun e w' => e = .returned (.tuple #[.int .i64 r1, .int .i64 r2, .bool r3]) ∧ Below W.heap.size W w'))
    (HI : Aside0 (∀ X, Below W.heap.size W X → Calls Tryd.prog 14 #[.string s] X fun e w' => e = .returned (.tuple #[.int .i64 r1, .int .i64 r2, .bool r3]) ∧ Below X.heap.size X w')) :
    Calls Tryd.prog 4 #[.string s] W fun e w' => e = .returned (.bool true) ∧ Below W.heap.size W w' := by
  have h2 : decide (1048576 < s.size) = false := by simp at h ⊢; omega
  have q1 : (r1 != r1) = false := by simp
  have q2 : (r2 != r2) = false := by simp
  have q3 : (r3 != r3) = false := by simp
  have q4 : (r1 == r1) = true := by simp
  have q5 : (r2 == r2) = true := by simp
  have q6 : (r3 == r3) = true := by simp
  go_enter Tryd.func4, Tryd.ntmps4
  go_wp2_with fail
  refine HS.out.mono ?_; rintro e w1 ⟨rfl, hb1⟩
  have HB1 := Aside0.mk hb1
  clear hb1
  go_wp2_with fail
  refine (HI.out _ HB1.out).mono ?_; rintro e w2 ⟨rfl, hb2⟩
  have HB2 := Aside0.mk (HB1.out.trans (hb2.mono HB1.out.size))
  clear hb2
  go_wp2
  go_ret
  exact ⟨rfl, by repeat (first | exact HB2.out | apply pw_below_drewN | apply below_drew1)⟩
theorem lawOwner_walk (s : ByteArray) (W : World) (hE : Env W) :
    Calls Tryd.prog 4 #[.string s] W fun e w' => e = .returned (.bool true) ∧ Below W.heap.size W w' := by
  by_cases h : (1048576 : Int) < (s.size : Int)
  · exact lawOwner_big s W (by simpa using h)
  · have hs : s.size < 4294967281 := by omega
    have hc := cut_lens s.data.toList
    have hl := data_length s
    refine lawOwner_small s W (by simpa using h) (ownP (spl 58 s.data.toList)).1 (ownP (spl 58 s.data.toList)).2.1 (ownP (spl 58 s.data.toList)).2.2 ⟨spec_ReadOwner.calls s _ _ _ W (by unfold spec_ReadOwner.f; rw [if_pos hs])⟩ ⟨fun X hb => ?_⟩
    rw [← roB_eq]
    exact impl_ReadOwner_walk s hs (by unfold cutL; omega) (by unfold cutL; omega) X (hE.below hb)

end Go.Proofs.YtibfocaldcjiiaaDoor.Q
