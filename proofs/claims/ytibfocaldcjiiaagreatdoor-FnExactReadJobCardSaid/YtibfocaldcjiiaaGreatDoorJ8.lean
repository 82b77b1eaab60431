/- Texts of this claim, merged by a program (wip/tools/merge.py): HClone. -/
import Derived.Test.YtibfocaldcjiiaaGreatDoorJ2
import Derived.Test.YtibfocaldcjiiaaGreatDoorJ7
import Derived.Test.YtibfocaldcjiiaaGreatDoorJ0
/- slices.Clone of texts. -/
namespace Go.Proofs.YtibfocaldcjiiaaGreatDoor.Q
open Go.RowKit Go.Proofs.YtibfocaldcjiiaaGreatDoorW.PrintWords Go.Proofs.YtibfocaldcjiiaaGreatDoorW.PrintLast Go.Proofs.YtibfocaldcjiiaaGreatDoorW.PrintMore
attribute [local go_sem] max2_int min2_int max_two min_two max_three min_three max_four min_four   -- for this text's walks alone
set_option linter.unusedVariables false
set_option linter.unusedSimpArgs false

def slices_Clone_string_string.f (l : List ByteArray) : Option (List ByteArray) := if l.length * 16 ≤ 140737488355328 then some l else none
theorem slices_Clone_string_string.calls (A0 : Option Addr) (c0 : Nat) (l0 : List ByteArray) (r : List ByteArray) (w : World) (hr0 : Kd.C Kd.string w A0 l0.length l0) (hc0 : l0.length ≤ c0) (h : slices_Clone_string_string.f l0 = some r) :
    Calls Tryz.prog 100 #[.slice A0 l0.length c0] w fun e w' => ∃ v0_ : Value, e = .returned (v0_) ∧ Kd.R Kd.string 9 w' w.heap.size (fun _ => True) v0_ r ∧ Below w.heap.size w w' := by
  unfold slices_Clone_string_string.f at h
  split at h
  case isFalse => cases h
  rename_i hbig
  injection h with h
  subst h
  cases A0 with
  | none =>
    have h0 : l0 = [] := by
      rcases Nat.eq_zero_or_pos l0.length with h | h
      · exact List.length_eq_zero_iff.mp h
      · obtain ⟨ad, e, _⟩ := Kd.at_string hr0 0 (by omega) (by omega)
        cases e
    subst h0
    refine (Any.slices_Clone_string_nil Tryz.laysC16 _ c0 w).mono fun e w' ⟨he, hw⟩ => ⟨_, he, Kd.R_nil _ _ _ _ _, ?_⟩
    rw [hw]; exact Below.refl _ _
  | some ad =>
    rcases Nat.eq_zero_or_pos l0.length with h0 | h0
    · have h0' := List.length_eq_zero_iff.mp h0
      subst h0'
      refine (Any.slices_Clone_string_zero Tryz.laysC16 ad c0 w).mono fun e w' ⟨v', he, ho, _, hb⟩ => ⟨_, he, R_of_owns Value.string (fun _ => rfl) ho, hb⟩
    · have hcell : ∀ j, j < l0.length → w.cell? (ad.add j) = some (.string (l0.getD j ByteArray.empty)) := fun j hj => by
        obtain ⟨ad', e, hx⟩ := Kd.at_string hr0 (j : Int) (by omega) (by omega)
        injection e with e
        subst e
        rw [Int.toNat_natCast] at hx
        rw [hx]
        simp [rdOf]
      obtain ⟨b, off, sp⟩ := ad
      have hsp : sp = none := by
        have := hcell 0 h0
        cases sp with
        | none => rfl
        | some k =>
          exfalso
          simp only [Addr.add, World.cell?] at this
          split at this
          · simp at this
          · cases this
      subst hsp
      refine (Any.slices_Clone_string Tryz.laysC16 b off l0.length c0 l0 w (Nat.le_refl _) hbig (fun j hj => ?_)).mono fun e w' ⟨v', he, ho, _, hb⟩ => ⟨_, he, R_of_owns Value.string (fun _ => rfl) (by rw [List.take_of_length_le (Nat.le_refl _)] at ho; exact ho), hb⟩
      have := hcell j hj
      unfold Addr.add at this
      by_cases hj0 : j = 0
      · subst hj0; simpa using this
      · simpa [hj0] using this

end Go.Proofs.YtibfocaldcjiiaaGreatDoor.Q
