/- Texts of this claim, merged by a program (wip/tools/merge.py): Q67, HPackDef, HOctNum, HOct, HPackItems. -/
import Derived.Test.YthhmkbchdiflcaaGreatDoorR1
import Derived.Test.YthhmkbchdiflcaaGreatDoorR23
import Derived.Test.YthhmkbchdiflcaaGreatDoorR14
import Derived.Test.YthhmkbchdiflcaaGreatDoorR12
import Derived.Lib.ItoaNum
import Derived.Lib.Join
import Derived.Test.YthhmkbchdiflcaaGreatDoorR2
import Derived.Test.YthhmkbchdiflcaaGreatDoorR19
import Derived.Test.YthhmkbchdiflcaaGreatDoorR9
import Derived.Test.YthhmkbchdiflcaaGreatDoorR18
import Derived.Shelf.Strings.OnBuilder
import Derived.Shelf.Strings.Builder1
import Derived.StillTailTactics
import Derived.Outline
import Derived.Deep.RegionHeld3
import Derived.Deep.DeepCutAuto
-- Printed by a program of this session (wip/tools/myprint.py) that runs the kit's print, hand-proved functions among the others.
namespace Go.Proofs.YthhmkbchdiflcaaGreatDoor.Q
open Go.RowKit Go.Proofs.YthhmkbchdiflcaaGreatDoorW.PrintWords Go.Proofs.YthhmkbchdiflcaaGreatDoorW.PrintLast Go.Proofs.YthhmkbchdiflcaaGreatDoorW.PrintMore
attribute [local go_sem] max2_int min2_int max_two min_two max_three min_three max_four min_four   -- for this text's walks alone
set_option linter.unusedVariables false
set_option linter.unusedSimpArgs false

end Go.Proofs.YthhmkbchdiflcaaGreatDoor.Q

/- The text of items, as plain lists. -/
namespace Go.Proofs.YthhmkbchdiflcaaGreatDoor.Q
open Go.RowKit Go.Proofs.YthhmkbchdiflcaaGreatDoorW.PrintWords Go.Proofs.YthhmkbchdiflcaaGreatDoorW.PrintLast Go.Proofs.YthhmkbchdiflcaaGreatDoorW.PrintMore
attribute [local go_sem] max2_int min2_int max_two min_two max_three min_three max_four min_four   -- for this text's walks alone
set_option linter.unusedVariables false
set_option linter.unusedSimpArgs false

/-- The three digits of a mode. -/
def octB (m : Int) : ByteArray := ⟨#[UInt8.ofNat (48 + m.toNat / 64), UInt8.ofNat (48 + m.toNat / 8 % 8), UInt8.ofNat (48 + m.toNat % 8)]⟩
theorem octB_eq (m : Int) (h0 : 0 ≤ m) (h1 : m ≤ 511) : impl_octalText.f m = some (octB m) := by
  obtain ⟨i, rfl⟩ : ∃ i : Fin 512, m = (i.val : Int) := ⟨⟨m.toNat, by omega⟩, by simp; omega⟩
  revert i
  decide +kernel
theorem octB_size (m : Int) : (octB m).size = 3 := rfl
end Go.Proofs.YthhmkbchdiflcaaGreatDoor.Q

/- The reference's three digits of a mode. -/
namespace Go.Proofs.YthhmkbchdiflcaaGreatDoor.Q
open Go.RowKit Go.Proofs.YthhmkbchdiflcaaGreatDoorW.PrintWords Go.Proofs.YthhmkbchdiflcaaGreatDoorW.PrintLast Go.Proofs.YthhmkbchdiflcaaGreatDoorW.PrintMore
attribute [local go_sem] max2_int min2_int max_two min_two max_three min_three max_four min_four   -- for this text's walks alone
set_option linter.unusedVariables false
set_option linter.unusedSimpArgs false

theorem numB_one (u : Nat) (h : u < 10) : numB (u : Int) = ⟨#[UInt8.ofNat (48 + u)]⟩ := by
  unfold numB
  rw [Int.toNat_natCast, Lib.decDigits, dif_pos h]
theorem octal_ev (m : Int) (h0 : 0 ≤ m) (h1 : m ≤ 511) : Ev (fun k => spec_l1Octal.f k m) (octB m) := by
  obtain ⟨u, rfl⟩ : ∃ u : Nat, m = u := ⟨m.toNat, by omega⟩
  have e1 : wrap64 (Int.tdiv (u : Int) 64) = ((u / 64 : Nat) : Int) := by
    rw [Int.tdiv_eq_ediv_of_nonneg (by omega)]; unfold wrap64; omega
  have e2 : wrap64 (Int.tdiv (u : Int) 8) = ((u / 8 : Nat) : Int) := by
    rw [Int.tdiv_eq_ediv_of_nonneg (by omega)]; unfold wrap64; omega
  have e3 : Int.tmod ((u / 8 : Nat) : Int) 8 = ((u / 8 % 8 : Nat) : Int) := by
    rw [Int.tmod_eq_emod_of_nonneg (by omega)]; omega
  have e4 : Int.tmod (u : Int) 8 = ((u % 8 : Nat) : Int) := by
    rw [Int.tmod_eq_emod_of_nonneg (by omega)]; omega
  unfold spec_l1Octal.f
  rw [e1, e2, e3, e4]
  have n1 := l1Num_ev (u / 64) (by omega)
  have n2 := l1Num_ev (u / 8 % 8) (by omega)
  have n3 := l1Num_ev (u % 8) (by omega)
  rw [numB_one _ (by omega)] at n1 n2 n3
  refine Ev.bind n1 (Ev.bind n2 ?_)
  refine Ev.congr (fun k => by rw [if_pos (by show (1 + 1 : Nat) ≤ 9223372036854775807; decide)]) (Ev.bind n3 ?_)
  refine Ev.congr (f := fun _ => some (octB (u : Int))) (fun k => ?_) (Ev.now _)
  rw [if_pos (by rw [ByteArray.size_append]; show (1 + 1 + 1 : Nat) ≤ 9223372036854775807; decide)]
  rfl

end Go.Proofs.YthhmkbchdiflcaaGreatDoor.Q

/- The three digits of a mode, read: both sides. -/
namespace Go.Proofs.YthhmkbchdiflcaaGreatDoor.Q
open Go.RowKit Go.Proofs.YthhmkbchdiflcaaGreatDoorW.PrintWords Go.Proofs.YthhmkbchdiflcaaGreatDoorW.PrintLast Go.Proofs.YthhmkbchdiflcaaGreatDoorW.PrintMore
attribute [local go_sem] max2_int min2_int max_two min_two max_three min_three max_four min_four   -- for this text's walks alone
set_option linter.unusedVariables false
set_option linter.unusedSimpArgs false

def octN (x : ByteArray) : Int := (bt x 0 % 8 * 8 + bt x 1 % 8) * 8 + bt x 2 % 8
def octR (x : ByteArray) : Int × Bool := if x.size = 3 then (if (octB (octN x)).toList = x.toList then (octN x, true) else (0, false)) else (0, false)
theorem oct_back (m : Int) (h0 : 0 ≤ m) (h1 : m ≤ 511) : octN (octB m) = m := by
  obtain ⟨i, rfl⟩ : ∃ i : Fin 512, m = (i.val : Int) := ⟨⟨m.toNat, by omega⟩, by simp; omega⟩
  revert i
  decide +kernel
theorem and7 (b : Int) (h0 : 0 ≤ b) (h1 : b ≤ 255) : Go.bits .and .u8 b 7 = b % 8 := by
  obtain ⟨i, rfl⟩ : ∃ i : Fin 256, b = (i.val : Int) := ⟨⟨b.toNat, by omega⟩, by simp; omega⟩
  revert i
  decide +kernel
theorem octN_range (x : ByteArray) : 0 ≤ octN x ∧ octN x ≤ 511 := by unfold octN; omega
theorem list_inj {a b : ByteArray} (h : a.toList = b.toList) : a = b := by
  rw [ByteArray.toList_eq, ByteArray.toList_eq] at h
  apply ByteArray.ext
  apply Array.toList_inj.mp h
theorem octR_iff (x : ByteArray) (m : Int) (h0 : 0 ≤ m) (h1 : m ≤ 511) : (octB m).toList = x.toList ↔ octR x = (m, true) := by
  constructor
  · intro h
    have hx := list_inj h
    subst hx
    unfold octR
    rw [if_pos (octB_size m), oct_back m h0 h1, if_pos rfl]
  · unfold octR
    intro h
    split at h
    · split at h
      · rename_i h2
        injection h with h3
        rw [← h3]; exact h2
      · injection h with _ h; cases h
    · injection h with _ h; cases h
theorem implOct_ev (x : ByteArray) : Ev (fun k => impl_ReadOctal.f k x) (octR x) := by
  unfold impl_ReadOctal.f octR
  by_cases h3 : x.size = 3
  · rw [if_pos h3]
    refine Ev.congr (fun k => by rw [if_pos (by omega)]) ?_
    have b0 := bt_range x 0
    have b1 := bt_range x 1
    have b2 := bt_range x 2
    have e0 : ∀ k, impl_ReadOctal.l0 (k + 1) x 0 0 = impl_ReadOctal.l0 k x (bt x 0 % 8) 1 := fun k => by
      simp only [impl_ReadOctal.l0]
      rw [if_pos (by omega), if_pos (by omega), if_pos (by omega), and7 _ b0.1 b0.2]
      rw [show wrap64 (wrap64 (0 * 8) + wrap64 (bt x 0 % 8)) = bt x 0 % 8 by unfold wrap64; omega, show wrap64 (0 + 1) = 1 by unfold wrap64; omega]
    have e1 : ∀ k, impl_ReadOctal.l0 (k + 1) x (bt x 0 % 8) 1 = impl_ReadOctal.l0 k x (bt x 0 % 8 * 8 + bt x 1 % 8) 2 := fun k => by
      simp only [impl_ReadOctal.l0]
      rw [if_pos (by omega), if_pos (by omega), if_pos (by omega), and7 _ b1.1 b1.2]
      rw [show wrap64 (wrap64 (bt x 0 % 8 * 8) + wrap64 (bt x 1 % 8)) = bt x 0 % 8 * 8 + bt x 1 % 8 by unfold wrap64; omega, show wrap64 (1 + 1) = 2 by unfold wrap64; omega]
    have e2 : ∀ k, impl_ReadOctal.l0 (k + 1) x (bt x 0 % 8 * 8 + bt x 1 % 8) 2 = impl_ReadOctal.l0 k x (octN x) 3 := fun k => by
      simp only [impl_ReadOctal.l0]
      rw [if_pos (by omega), if_pos (by omega), if_pos (by omega), and7 _ b2.1 b2.2]
      rw [show wrap64 (wrap64 ((bt x 0 % 8 * 8 + bt x 1 % 8) * 8) + wrap64 (bt x 2 % 8)) = octN x by unfold octN wrap64; omega, show wrap64 (2 + 1) = 3 by unfold wrap64; omega]
    refine Ev.step e0 (Ev.step e1 (Ev.step e2 ?_))
    have hr := octN_range x
    refine Ev.step (f := fun _ => if (octB (octN x)).toList = x.toList then some (octN x, true) else some (0, false)) (fun k => ?_) ?_
    · simp only [impl_ReadOctal.l0]
      rw [if_neg (by omega), octB_eq _ hr.1 hr.2]
      rfl
    · by_cases h : (octB (octN x)).toList = x.toList
      · rw [if_pos h, if_pos h]; exact Ev.now _
      · rw [if_neg h, if_neg h]; exact Ev.now _
  · rw [if_neg h3]
    exact Ev.congr (f := fun _ => some (0, false)) (fun k => by rw [if_neg (by omega)]) (Ev.now _)
theorem specOct_loop (x : ByteArray) (d : Nat) : ∀ i : Nat, i + d = 512 → (∀ j : Nat, j < i → octR x ≠ ((j : Int), true)) → Ev (fun k => spec_ReadOctal.l0 k x (i : Int)) (octR x) := by
  induction d with
  | zero =>
    intro i hi hn
    have : octR x = (0, false) := by
      unfold octR
      split
      · split
        · rename_i h3 h
          have hr := octN_range x
          have := hn (octN x).toNat (by omega)
          rw [(octR_iff x (octN x) hr.1 hr.2).mp h] at this
          exact absurd (by rw [Int.toNat_of_nonneg hr.1]) this
        · rfl
      · rfl
    rw [this]
    refine Ev.step (f := fun _ => some (0, false)) (fun k => ?_) (Ev.now _)
    simp only [spec_ReadOctal.l0]; rw [if_neg (by omega)]
  | succ d ih =>
    intro i hi hn
    have hw : wrap64 ((i : Int) + 1) = ((i + 1 : Nat) : Int) := by unfold wrap64; omega
    refine Ev.step (f := fun k => (spec_l1Octal.f k (i : Int)).bind fun t => if t.toList = x.toList then some ((i : Int), true) else spec_ReadOctal.l0 k x ((i + 1 : Nat) : Int)) (fun k => ?_) (Ev.bind (octal_ev (i : Int) (by omega) (by omega)) ?_)
    · simp only [spec_ReadOctal.l0]; rw [if_pos (by omega), hw]
    · by_cases h : (octB (i : Int)).toList = x.toList
      · rw [(octR_iff x i (by omega) (by omega)).mp h]
        exact Ev.congr (f := fun _ => some ((i : Int), true)) (fun k => by rw [if_pos h]) (Ev.now _)
      · refine Ev.congr (fun k => by rw [if_neg h]) (ih (i + 1) (by omega) (fun j hj => ?_))
        by_cases hji : j = i
        · subst hji; intro e; exact h ((octR_iff x j (by omega) (by omega)).mpr e)
        · exact hn j (by omega)
theorem specOct_ev (x : ByteArray) : Ev (fun k => spec_ReadOctal.f k x) (octR x) :=
  specOct_loop x 512 0 (by omega) (fun j hj => absurd hj (Nat.not_lt_zero j))

end Go.Proofs.YthhmkbchdiflcaaGreatDoor.Q

/- impl.PackItems: the walk. -/
namespace Go.Proofs.YthhmkbchdiflcaaGreatDoor.Q
open Go.RowKit Go.Proofs.YthhmkbchdiflcaaGreatDoorW.PrintWords Go.Proofs.YthhmkbchdiflcaaGreatDoorW.PrintLast Go.Proofs.YthhmkbchdiflcaaGreatDoorW.PrintMore
attribute [local go_sem] max2_int min2_int max_two min_two max_three min_three max_four min_four   -- for this text's walks alone
set_option linter.unusedVariables false
set_option linter.unusedSimpArgs false

theorem owns_below {w w' : World} {B e size n : Nat} {v : Value} {xs : List Value} (h : w.ownsRow B e size v n xs) (hb : Below w.heap.size w w') : w'.ownsRow B e size v n xs := by
  obtain ⟨hl, h⟩ := h
  refine ⟨hl, ?_⟩
  rcases h with h | ⟨g, cap, cur, hv, hB, hg, r⟩
  · exact .inl h
  · refine .inr ⟨g, cap, cur, hv, hB, ?_, r⟩
    have : g < w.heap.size := by
      rcases Nat.lt_or_ge g w.heap.size with h' | h'
      · exact h'
      · rw [Array.getElem?_eq_none h'] at hg; cases hg
    rw [hb.block g this]; exact hg
end Go.Proofs.YthhmkbchdiflcaaGreatDoor.Q
