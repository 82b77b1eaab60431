/- Texts of this claim, merged by a program (wip/tools/merge.py): HPaths. -/
import Derived.Test.YtfohpboikknknaaGreatDoorF2
import Derived.Test.YtfohpboikknknaaGreatDoorF11
import Derived.Test.YtfohpboikknknaaGreatDoorF12
import Derived.Test.YtfohpboikknknaaGreatDoorF9
import Derived.Test.YtfohpboikknknaaGreatDoorF7
import Derived.Shelf.SlicesE.DeleteFunc
import Derived.Lib.OwnBridge
namespace Go.Proofs.YtfohpboikknknaaGreatDoor.Q
open Go.RowKit Go.Proofs.YtfohpboikknknaaGreatDoorW.PrintWords Go.Proofs.YtfohpboikknknaaGreatDoorW.PrintLast Go.Proofs.YtfohpboikknknaaGreatDoorW.PrintMore
attribute [local go_sem] max2_int min2_int max_two min_two max_three min_three max_four min_four
set_option linter.unusedVariables false
set_option linter.unusedSimpArgs false
def slashL (s : ByteArray) : List ByteArray := Lib.splitB ⟨#[47]⟩ 0 (Lib.countB s ⟨#[47]⟩) s
def nilB (p : ByteArray) : Bool := decide (p.size = 0)
def partsL (s : ByteArray) : List ByteArray := (slashL s).filter fun p => !nilB p
def impl_partsOf.f (s : ByteArray) : Option (List ByteArray) := if s.size < 4294967281 then some (partsL s) else none
def longB (s : ByteArray) : Bool := !nilB s && !(partsL s).any (fun p => !partB p)
def impl_isLong.f (s : ByteArray) : Option Bool := if s.size < 4294967281 then some (longB s) else none
theorem toList_nil (x : ByteArray) : x.toList = [] ↔ x.size = 0 := by
  rw [ByteArray.toList_eq]
  rw [← data_length]
  exact ⟨fun h => by rw [h]; rfl, fun h => List.length_eq_zero_iff.mp h⟩
theorem nilB_eq (x : ByteArray) : (x.toList == []) = nilB x := by
  unfold nilB
  by_cases h : x.size = 0
  · rw [(toList_nil x).mpr h]; simp [h]
  · have h2 : ¬ x.toList = [] := fun e => h ((toList_nil x).mp e)
    simp [h, h2]
theorem partsOf_gives (W : World) (x : ByteArray) : FnGives Tryz.prog 174 #[] #[.string x] (.bool (nilB x)) W := by
  show Calls Tryz.prog 174 #[.string x] W fun e w' => e = .returned (.bool (nilB x)) ∧ ∃ q, w' = W.drewN q
  rw [← nilB_eq]
  go_enter Tryz.func174, Tryz.ntmps174
  go_wp2
  go_ret
  exact ⟨by simp, 0, rfl⟩
set_option maxHeartbeats 1000000 in
theorem impl_partsOf.calls (a0 : ByteArray) (r : List ByteArray) (w : World) (h : impl_partsOf.f a0 = some r) :
    Calls Tryz.prog 130 #[.string a0] w fun e w' => ∃ v0_ : Value, e = .returned (v0_) ∧ Kd.R Kd.string 9 w' w.heap.size (fun _ => True) v0_ r ∧ Below w.heap.size w w' := by
  unfold impl_partsOf.f at h
  split at h
  · rename_i hs
    injection h with h
    subst h
    have hle := Lib.countB_le ⟨#[47]⟩ (by decide) a0.size a0 (Nat.le_refl _)
    have hlen := Lib.splitB_all ⟨#[47]⟩ (by decide) 0 _ a0 rfl
    have HS := Aside0.mk (split_world a0 ⟨#[47]⟩ w rfl hs)
    have hn : (slashL a0).length = Lib.countB a0 ⟨#[47]⟩ + 1 := hlen
    have hbound : (slashL a0).length ≤ 4294967282 := by omega
    change Aside0 (Calls _ _ _ _ fun e w' => e = .returned (.slice _ (slashL a0).length (slashL a0).length) ∧ w' = w.alloc (.cells ((slashL a0).map Value.string).toArray _)) at HS
    have hu : partsL a0 = (slashL a0).filter fun p => !nilB p := rfl
    rw [hu]
    clear hu hle hlen hn hs
    generalize slashL a0 = l at *
    have eg : ∀ args w, (callFunc 174 args).run Tryz.prog w = .ok (.enter 174 args) w := enters_of Tryz.func174 (by kernel_rfl) rfl
    have hown := owns_new Value.string w 9 l (by unfold maxLen; omega)
    have hH := (Lib.holds_of_ownsRow hown (by intro e; cases e))
    obtain ⟨g, cap, e0, _, hlt, _, _, _, hH⟩ := hH
    injection e0 with e1 _ e3
    injection e1 with e1
    injection e1 with e1
    subst e1; subst e3
    have HD := Aside0.mk (AnyE.slices_DeleteFunc Tryz.lDelS Value.string (fun _ => rfl) nilB 174 #[] eg ByteArray.empty Tryz.zeroValue9 w.heap.size 0 l.length l.toArray (w.alloc (.cells (l.map Value.string).toArray 9)) (fun W x _ => partsOf_gives W x) (fun n os dk x _ => partsOf_gives _ x) hH (by simp; omega) (by simp))
    change Aside0 (Calls Tryz.prog 172 #[.slice (some ⟨w.heap.size, 0, none⟩) l.toArray.size l.length, .func (.func 174) #[] #[]] _ _) at HD
    have hf : (l.filter fun p => !nilB p).length ≤ l.length := List.length_filter_le _ _
    have HO := Aside0.mk hown
    clear eg hown hH
    generalize hfl : (l.filter fun p => !nilB p) = f at HD hf ⊢
    simp only [List.size_toArray, hfl] at HD
    have HF := Aside0.mk hf
    clear hf hfl hbound
    go_enter Tryz.func130, Tryz.ntmps130
    go_wp2_with (first | (go_at_call 173; refine HS.out.mono ?_; rintro e w' ⟨rfl, rfl⟩) | (go_at_call 172; refine HD.out.mono ?_; rintro e w'' ⟨rfl, q, rfl⟩))
    go_ret
    refine ⟨_, rfl, ?_, Lib.below_putRow ((Below.refl _ _).alloc (Nat.le_refl _) _) (Nat.le_refl _)⟩
    have h5 := Lib.ownsRow_putRow (q := q) (ys := f ++ List.replicate (l.length - f.length) ByteArray.empty) HO.out (by have := HF.out; simp; omega) HF.out
    rw [List.take_append_of_le_length (Nat.le_refl _), List.take_of_length_le (Nat.le_refl _)] at h5
    exact R_of_owns Value.string (fun _ => rfl) h5
  · cases h
theorem isLong_pred (w : World) : PredB 147 #[] Value.string (fun p => !partB p) w := by
  intro W x hb
  have HC := Aside0.mk (impl_isPart.calls x (partB x) W rfl)
  show Calls Tryz.prog 147 #[.string x] W fun e w' => e = .returned (.bool (!partB x)) ∧ Below W.heap.size W w'
  generalize partB x = q at HC ⊢
  go_enter Tryz.func147, Tryz.ntmps147
  go_wp2_with (go_at_call 148; refine HC.out.mono ?_; rintro e w' ⟨rfl, hd⟩)
  go_ret
  exact ⟨rfl, hd⟩
set_option maxHeartbeats 1000000 in
theorem impl_isLong.calls (a0 : ByteArray) (r : Bool) (w : World) (h : impl_isLong.f a0 = some r) :
    Calls Tryz.prog 104 #[.string a0] w fun e w' => e = .returned (.bool r) ∧ Below w.heap.size w w' := by
  unfold impl_isLong.f at h
  split at h
  · rename_i hs
    injection h with h
    subst h
    by_cases hn : nilB a0 = true
    · have HP : Aside0 (longB a0 = false) := ⟨by unfold longB; simp [hn]⟩
      rw [HP.out]
      have h1 : a0.toList = [] := by rw [← nilB_eq] at hn; simpa using hn
      clear hn hs HP
      go_enter Tryz.func104, Tryz.ntmps104
      go_wp2
      go_ret
      exact ⟨rfl, Below.refl _ _⟩
    · have hn' : nilB a0 = false := by simpa using hn
      have HP : Aside0 (longB a0 = !(partsL a0).any (fun p => !partB p)) := ⟨by unfold longB; simp [hn']⟩
      rw [HP.out]
      have h2 : ¬ a0.toList = [] := fun e => hn (by rw [← nilB_eq, e]; rfl)
      have h3 : (!a0.toList.isEmpty) = true := by simpa using h2
      have eg : ∀ args w, (callFunc 147 args).run Tryz.prog w = .ok (.enter 147 args) w := enters_of Tryz.func147 (by kernel_rfl) rfl
      have HS := Aside0.mk (impl_partsOf.calls a0 (partsL a0) w (by unfold impl_partsOf.f; rw [if_pos hs]))
      have HC := Aside0.mk (fun (A : Option Addr) (c : Nat) (W : World) (hr : Kd.C Kd.string W A (partsL a0).length (partsL a0)) (hc : (partsL a0).length ≤ c) => containsFuncS eg (fun p => !partB p) A c (partsL a0) W (isLong_pred _) hr hc)
      clear hn hn' HP hs eg
      generalize partsL a0 = l at HS HC ⊢
      generalize l.any (fun p => !partB p) = q at HC ⊢
      go_enter Tryz.func104, Tryz.ntmps104
      go_wp2_with (go_at_call 130; refine HS.out.mono ?_; rintro e w1 ⟨v0, rfl, hr, hb1⟩)
      obtain ⟨A, c, rfl, hc, hC⟩ := Kd.R_reads hr
      have HC' := Aside0.mk (HC.out A c w1 hC hc)
      clear HC hr hC hc HS
      go_wp2_with (go_at_call 146; refine HC'.out.mono ?_; rintro e w2 ⟨rfl, hb2⟩)
      go_ret
      exact ⟨rfl, hb1.trans (hb2.mono hb1.size)⟩
  · cases h
end Go.Proofs.YtfohpboikknknaaGreatDoor.Q
