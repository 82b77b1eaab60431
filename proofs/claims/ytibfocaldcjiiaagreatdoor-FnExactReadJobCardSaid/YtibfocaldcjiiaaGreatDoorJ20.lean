/- Texts of this claim, merged by a program (wip/tools/merge.py): HPattern. -/
import Derived.Test.YtibfocaldcjiiaaGreatDoorJ2
import Derived.Test.YtibfocaldcjiiaaGreatDoorJ4
import Derived.Test.YtibfocaldcjiiaaGreatDoorJ10
import Derived.Test.YtibfocaldcjiiaaGreatDoorJ9
import Derived.Lib.ConvBytes
/- impl.isPattern: 1 to 20 bytes, each one of a name or a sign. -/
namespace Go.Proofs.YtibfocaldcjiiaaGreatDoor.Q
open Go.RowKit Go.Proofs.YtibfocaldcjiiaaGreatDoorW.PrintWords Go.Proofs.YtibfocaldcjiiaaGreatDoorW.PrintLast Go.Proofs.YtibfocaldcjiiaaGreatDoorW.PrintMore
attribute [local go_sem] max2_int min2_int max_two min_two max_three min_three max_four min_four   -- for this text's walks alone
set_option linter.unusedVariables false
set_option linter.unusedSimpArgs false

def patSign (b : Int) : Bool := nameB b || (b == 42 || b == 63)
def patB (s : ByteArray) : Bool := decide (1 ≤ s.size) && (decide (s.size ≤ 20) && !(bytesOf s).any (fun b => !patSign b))
def impl_isPattern.f (s : ByteArray) : Option Bool := some (patB s)
theorem isPattern_pred (w : World) : PredB 214 #[] (Value.int .u8) (fun b => !patSign b) w := by
  intro W x hb
  have HC := Aside0.mk (impl_isNameByte.calls x (nameB x) W (nameB_f x))
  show Calls Tryz.prog 214 #[.int .u8 x] W fun e w' => e = .returned (.bool (!patSign x)) ∧ Below W.heap.size W w'
  unfold patSign
  generalize nameB x = q at HC ⊢
  have h1 : (x != 42) = !(x == 42) := rfl
  have h2 : (x != 63) = !(x == 63) := rfl
  cases q <;> cases h3 : (x == 42) <;> cases h4 : (x == 63)
  all_goals
    rw [h3] at h1
    rw [h4] at h2
    go_enter Tryz.func214, Tryz.ntmps214
    go_wp2_with (go_at_call 215; refine HC.out.mono ?_; rintro e w' ⟨rfl, hd⟩)
    go_ret
    exact ⟨rfl, hd.below⟩
set_option maxHeartbeats 2000000 in
theorem impl_isPattern.calls (a0 : ByteArray) (r : Bool) (w : World) (h : impl_isPattern.f a0 = some r) :
    Calls Tryz.prog 150 #[.string a0] w fun e w' => e = .returned (.bool r) ∧ Below w.heap.size w w' := by
  have eg : ∀ args w, (callFunc 214 args).run Tryz.prog w = .ok (.enter 214 args) w := enters_of Tryz.func214 (by kernel_rfl) rfl
  have hr : r = patB a0 := (Option.some.inj h).symm
  subst hr
  clear h
  by_cases h1 : 1 ≤ a0.size
  · by_cases h2 : a0.size ≤ 20
    · have hw : impl_within.f (a0.size : Int) 1 20 = some true := by unfold impl_within.f; rw [if_pos (by omega)]; simp; omega
      have HW := Aside0.mk (fun W => impl_within.calls (a0.size : Int) 1 20 true W hw)
      have hcv := fun W : World => Lib.run_convert_string_bytes (P := Tryz.prog) W 9 57 5 a0 Tryz.underlying9 Tryz.underlying57 Tryz.underlying5
      have HC : Aside0 (∀ (W : World) (c : Nat), a0.size ≤ c → Calls Tryz.prog 213 #[.slice (some ⟨W.heap.size, 0, none⟩) a0.size c, .func (.func 214) #[] #[]] (Lib.bytesWorld W 5 a0) fun e w' => e = .returned (.bool ((bytesOf a0).any fun b => !patSign b)) ∧ Below (Lib.bytesWorld W 5 a0).heap.size (Lib.bytesWorld W 5 a0) w') := ⟨fun W c hc => by
        have := containsFuncB eg (fun b => !patSign b) (some ⟨W.heap.size, 0, none⟩) c (bytesOf a0) (Lib.bytesWorld W 5 a0) (isPattern_pred _) (bytes_row W 5 a0 (by unfold maxLen; omega)) (by rw [bytesOf_length]; exact hc)
        rw [bytesOf_length] at this
        exact this⟩
      have HP : Aside0 (patB a0 = !(bytesOf a0).any (fun b => !patSign b)) := ⟨by unfold patB; simp [h1, h2]⟩
      generalize (bytesOf a0).any (fun b => !patSign b) = q at HC HP
      rw [HP.out]
      have HB : Aside0 (∀ W : World, Below W.heap.size W (Lib.bytesWorld W 5 a0)) := ⟨fun W => bytes_below W 5 a0⟩
      clear hw h1 h2 HP eg
      go_enter Tryz.func150, Tryz.ntmps150
      go_wp2_with (first | (go_at_call 71; refine (HW.out _).mono ?_; rintro e w' ⟨rfl, hd⟩) | (go_at_call 213; refine (HC.out _ _ (grownCap_ge _ _ _ _)).mono ?_; rintro e w'' ⟨rfl, hd2⟩))
      go_ret
      refine ⟨rfl, ?_⟩
      have b1 := hd.below
      have b2 := HB.out w'
      exact b1.trans ((b2.mono b1.size).trans (hd2.mono (Nat.le_trans b1.size b2.size)))
    · have hw : impl_within.f (a0.size : Int) 1 20 = some false := by unfold impl_within.f; rw [if_pos (by omega)]; simp; omega
      have HW := Aside0.mk (fun W => impl_within.calls (a0.size : Int) 1 20 false W hw)
      have HP : Aside0 (patB a0 = false) := ⟨by unfold patB; simp [h2]⟩
      rw [HP.out]
      clear hw h1 h2 HP eg
      go_enter Tryz.func150, Tryz.ntmps150
      go_wp2_with (first | (go_at_call 71; refine (HW.out _).mono ?_; rintro e w' ⟨rfl, hd⟩))
      go_ret
      exact ⟨rfl, hd.below⟩
  · have hw : impl_within.f (a0.size : Int) 1 20 = some false := by unfold impl_within.f; rw [if_neg (by omega)]
    have HW := Aside0.mk (fun W => impl_within.calls (a0.size : Int) 1 20 false W hw)
    have HP : Aside0 (patB a0 = false) := ⟨by unfold patB; simp [h1]⟩
    rw [HP.out]
    clear hw h1 HP eg
    go_enter Tryz.func150, Tryz.ntmps150
    go_wp2_with (first | (go_at_call 71; refine (HW.out _).mono ?_; rintro e w' ⟨rfl, hd⟩))
    go_ret
    exact ⟨rfl, hd.below⟩

end Go.Proofs.YtibfocaldcjiiaaGreatDoor.Q
