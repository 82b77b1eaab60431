/- Texts of this claim, merged by a program (wip/tools/merge.py): HPart. -/
import Derived.Test.YtfohpboikknknaaGreatDoorF2
import Derived.Test.YtfohpboikknknaaGreatDoorF3
import Derived.Test.YtfohpboikknknaaGreatDoorF7
import Derived.Lib.ConvBytes
namespace Go.Proofs.YtfohpboikknknaaGreatDoor.Q
open Go.RowKit Go.Proofs.YtfohpboikknknaaGreatDoorW.PrintWords Go.Proofs.YtfohpboikknknaaGreatDoorW.PrintLast Go.Proofs.YtfohpboikknknaaGreatDoorW.PrintMore
attribute [local go_sem] max2_int min2_int max_two min_two max_three min_three max_four min_four
set_option linter.unusedVariables false
set_option linter.unusedSimpArgs false
def nameB (b : Int) : Bool := (decide (97 ≤ b) && decide (b ≤ 122)) || ((decide (48 ≤ b) && decide (b ≤ 57)) || (b == 46 || (b == 95 || b == 45)))
theorem nameB_f (b : Int) : impl_isNameByte.f b = some (nameB b) := by
  unfold impl_isNameByte.f nameB
  by_cases h1 : 97 ≤ b <;> by_cases h2 : b ≤ 122 <;> by_cases h3 : 48 ≤ b <;> by_cases h4 : b ≤ 57 <;> by_cases h5 : b = 46 <;> by_cases h6 : b = 95 <;> by_cases h7 : b = 45 <;> simp [h1, h2, h3, h4, h5, h6, h7] <;> simp [beq_eq_false_iff_ne.mpr h5, beq_eq_false_iff_ne.mpr h6]
def partB (s : ByteArray) : Bool := decide (1 ≤ s.size) && (decide (s.size ≤ 8) && !(bytesOf s).any (fun b => !nameB b))
def impl_isPart.f (s : ByteArray) : Option Bool := some (partB s)
theorem isPart_pred (w : World) : PredB 188 #[] (Value.int .u8) (fun b => !nameB b) w := by
  intro W x hb
  have HC := Aside0.mk (impl_isNameByte.calls x (nameB x) W (nameB_f x))
  show Calls Tryz.prog 188 #[.int .u8 x] W fun e w' => e = .returned (.bool (!nameB x)) ∧ Below W.heap.size W w'
  generalize nameB x = q at HC ⊢
  go_enter Tryz.func188, Tryz.ntmps188
  go_wp2_with (go_at_call 189; refine HC.out.mono ?_; rintro e w' ⟨rfl, hd⟩)
  go_ret
  exact ⟨rfl, hd.below⟩
theorem bytes_row (w : World) (e : TypeId) (s : ByteArray) (h : s.size ≤ maxLen) : Kd.C (Kd.int .u8) (Lib.bytesWorld w e s) (some ⟨w.heap.size, 0, none⟩) (bytesOf s).length (bytesOf s) := by
  refine ⟨rfl, by rw [bytesOf_length]; exact h, fun _ => ⟨_, rfl, fun j p hp => ⟨[.int .u8 p], rfl, rfl, fun i u hu => ?_⟩⟩⟩
  have hj : j < (bytesOf s).length := by
    rcases Nat.lt_or_ge j (bytesOf s).length with h1 | h1
    · exact h1
    · rw [List.getElem?_eq_none h1] at hp; cases hp
  have hi : i = 0 := by
    rcases Nat.lt_or_ge i 1 with h1 | h1
    · omega
    · rw [List.getElem?_eq_none (by simpa using h1)] at hu; cases hu
  subst hi
  have hu' : u = .int .u8 p := by simpa using hu.symm
  subst hu'
  rw [bytesOf_length] at hj
  have hc := Lib.bytesWorld_cell w e s j hj
  have e1 : (⟨w.heap.size, 0, none⟩ : Addr).add (j * (Kd.int .u8).sz + 0) = ⟨w.heap.size, j, none⟩ := by
    show (⟨w.heap.size, 0, none⟩ : Addr).add (j * 1 + 0) = _
    unfold Addr.add; by_cases hj0 : j = 0 <;> simp [hj0]
  rw [e1, hc]
  simp only [bytesOf, List.getElem?_map] at hp
  rw [List.getElem?_eq_getElem (by rw [data_length]; exact hj)] at hp
  simp only [Option.map_some, Option.some.injEq] at hp
  rw [← hp, List.getD_eq_getElem?_getD, List.getElem?_eq_getElem (by rw [data_length]; exact hj)]
  rfl
theorem bytes_below (w : World) (e : TypeId) (s : ByteArray) : Below w.heap.size w (Lib.bytesWorld w e s) := by
  refine ⟨?_, ?_, ?_, ?_, fun k hk => Lib.bytesWorld_at_old w e s k hk⟩
  · unfold Lib.bytesWorld World.freeze; split <;> rfl
  · unfold Lib.bytesWorld World.freeze; split <;> rfl
  · unfold Lib.bytesWorld World.freeze; split <;> rfl
  · rw [Lib.bytesWorld_size]; omega
set_option maxHeartbeats 2000000 in
theorem impl_isPart.calls (a0 : ByteArray) (r : Bool) (w : World) (h : impl_isPart.f a0 = some r) :
    Calls Tryz.prog 148 #[.string a0] w fun e w' => e = .returned (.bool r) ∧ Below w.heap.size w w' := by
  have eg : ∀ args w, (callFunc 188 args).run Tryz.prog w = .ok (.enter 188 args) w := enters_of Tryz.func188 (by kernel_rfl) rfl
  have hr : r = partB a0 := (Option.some.inj h).symm
  subst hr
  clear h
  by_cases h1 : 1 ≤ a0.size
  · by_cases h2 : a0.size ≤ 8
    · have hw : impl_within.f (a0.size : Int) 1 8 = some true := by unfold impl_within.f; rw [if_pos (by omega)]; simp; omega
      have HW := Aside0.mk (fun W => impl_within.calls (a0.size : Int) 1 8 true W hw)
      have hcv := fun W : World => Lib.run_convert_string_bytes (P := Tryz.prog) W 9 125 5 a0 Tryz.underlying9 Tryz.underlying125 Tryz.underlying5
      have HC : Aside0 (∀ (W : World) (c : Nat), a0.size ≤ c → Calls Tryz.prog 187 #[.slice (some ⟨W.heap.size, 0, none⟩) a0.size c, .func (.func 188) #[] #[]] (Lib.bytesWorld W 5 a0) fun e w' => e = .returned (.bool ((bytesOf a0).any fun b => !nameB b)) ∧ Below (Lib.bytesWorld W 5 a0).heap.size (Lib.bytesWorld W 5 a0) w') := ⟨fun W c hc => by
        have := containsFuncB eg (fun b => !nameB b) (some ⟨W.heap.size, 0, none⟩) c (bytesOf a0) (Lib.bytesWorld W 5 a0) (isPart_pred _) (bytes_row W 5 a0 (by unfold maxLen; omega)) (by rw [bytesOf_length]; exact hc)
        rw [bytesOf_length] at this
        exact this⟩
      have HP : Aside0 (partB a0 = !(bytesOf a0).any (fun b => !nameB b)) := ⟨by unfold partB; simp [h1, h2]⟩
      generalize (bytesOf a0).any (fun b => !nameB b) = q at HC HP
      rw [HP.out]
      have HB : Aside0 (∀ W : World, Below W.heap.size W (Lib.bytesWorld W 5 a0)) := ⟨fun W => bytes_below W 5 a0⟩
      clear hw h1 h2 HP eg
      go_enter Tryz.func148, Tryz.ntmps148
      go_wp2_with (first | (go_at_call 97; refine (HW.out _).mono ?_; rintro e w' ⟨rfl, hd⟩) | (go_at_call 187; refine (HC.out _ _ (grownCap_ge _ _ _ _)).mono ?_; rintro e w'' ⟨rfl, hd2⟩))
      go_ret
      refine ⟨rfl, ?_⟩
      have b1 := hd.below
      have b2 := HB.out w'
      exact b1.trans ((b2.mono b1.size).trans (hd2.mono (Nat.le_trans b1.size b2.size)))
    · have hw : impl_within.f (a0.size : Int) 1 8 = some false := by unfold impl_within.f; rw [if_pos (by omega)]; simp; omega
      have HW := Aside0.mk (fun W => impl_within.calls (a0.size : Int) 1 8 false W hw)
      have HP : Aside0 (partB a0 = false) := ⟨by unfold partB; simp [h2]⟩
      rw [HP.out]
      clear hw h1 h2 HP eg
      go_enter Tryz.func148, Tryz.ntmps148
      go_wp2_with (first | (go_at_call 97; refine (HW.out _).mono ?_; rintro e w' ⟨rfl, hd⟩))
      go_ret
      exact ⟨rfl, hd.below⟩
  · have hw : impl_within.f (a0.size : Int) 1 8 = some false := by unfold impl_within.f; rw [if_neg (by omega)]
    have HW := Aside0.mk (fun W => impl_within.calls (a0.size : Int) 1 8 false W hw)
    have HP : Aside0 (partB a0 = false) := ⟨by unfold partB; simp [h1]⟩
    rw [HP.out]
    clear hw h1 HP eg
    go_enter Tryz.func148, Tryz.ntmps148
    go_wp2_with (first | (go_at_call 97; refine (HW.out _).mono ?_; rintro e w' ⟨rfl, hd⟩))
    go_ret
    exact ⟨rfl, hd.below⟩
end Go.Proofs.YtfohpboikknknaaGreatDoor.Q
