/- Texts of this claim, merged by a program (wip/tools/merge.py): HPart, HPaths, Q43, Q41, HNames, HSpl, Q56. -/
import Derived.Test.YtibfocaldcjiiaaDoorA1
import Derived.Test.YtibfocaldcjiiaaDoorA3
import Derived.Test.YtibfocaldcjiiaaDoorA7
import Derived.Lib.ConvBytes
import Derived.Test.YtibfocaldcjiiaaDoorA5
import Derived.Test.YtibfocaldcjiiaaDoorA6
import Derived.Shelf.SlicesE.DeleteFunc
import Derived.Lib.OwnBridge
import Derived.Test.YtibfocaldcjiiaaDoorA2
import Derived.Lib.SplitLaws
import Derived.WideShapes
import Derived.Test.YtibfocaldcjiiaaDoorA4
/- impl.isPart: 1 to 8 bytes, each one of a name. -/
namespace Go.Proofs.YtibfocaldcjiiaaDoor.Q
open Go.RowKit Go.Proofs.YtibfocaldcjiiaaDoorW.PrintWords Go.Proofs.YtibfocaldcjiiaaDoorW.PrintLast Go.Proofs.YtibfocaldcjiiaaDoorW.PrintMore
attribute [local go_sem] max2_int min2_int max_two min_two max_three min_three max_four min_four   -- for this text's walks alone
set_option linter.unusedVariables false
set_option linter.unusedSimpArgs false

/-- A byte of a name. -/
def nameB (b : Int) : Bool := (decide (97 ≤ b) && decide (b ≤ 122)) || ((decide (48 ≤ b) && decide (b ≤ 57)) || (b == 46 || (b == 95 || b == 45)))
theorem nameB_f (b : Int) : impl_isNameByte.f b = some (nameB b) := by
  unfold impl_isNameByte.f nameB
  by_cases h1 : 97 ≤ b <;> by_cases h2 : b ≤ 122 <;> by_cases h3 : 48 ≤ b <;> by_cases h4 : b ≤ 57 <;> by_cases h5 : b = 46 <;> by_cases h6 : b = 95 <;> by_cases h7 : b = 45 <;> simp [h1, h2, h3, h4, h5, h6, h7] <;> simp [beq_eq_false_iff_ne.mpr h5, beq_eq_false_iff_ne.mpr h6]
def partB (s : ByteArray) : Bool := decide (1 ≤ s.size) && (decide (s.size ≤ 8) && !(bytesOf s).any (fun b => !nameB b))
def impl_isPart.f (s : ByteArray) : Option Bool := some (partB s)
theorem isPart_pred (w : World) : PredB 112 #[] (Value.int .u8) (fun b => !nameB b) w := by
  intro W x hb
  have HC := Aside0.mk (impl_isNameByte.calls x (nameB x) W (nameB_f x))
  show Calls Tryd.prog 112 #[.int .u8 x] W fun e w' => e = .returned (.bool (!nameB x)) ∧ Below W.heap.size W w'
  generalize nameB x = q at HC ⊢
  go_enter Tryd.func112, Tryd.ntmps112
  go_wp2_with (go_at_call 105; refine HC.out.mono ?_; rintro e w' ⟨rfl, hd⟩)
  go_ret
  exact ⟨rfl, hd.below⟩
theorem bytes_row (w : World) (e : TypeId) (s : ByteArray) (h : s.size ≤ maxLen) : Kd.C (Kd.int .u8) (Lib.bytesWorld w e s) (some ⟨w.heap.size, 0, none⟩) (bytesOf s).length (bytesOf s) := by
  refine ⟨rfl, by rw [bytesOf_length]; exact h, fun _ => ⟨_, rfl, fun j p hp => ⟨[.int .u8 p], rfl, rfl, fun i u hu => ?_⟩⟩⟩
  have hj : j < (bytesOf s).length := by
    rcases Nat.lt_or_ge j (bytesOf s).length with h1 | h1
    · exact h1
    · rw [List.getElem?_eq_none h1] at hp; cases hp
  have hi : i = 0 := by
    rcases Nat.lt_or_ge i 1 with h1 | h1
    · omega
    · rw [List.getElem?_eq_none (by simpa using h1)] at hu; cases hu
  subst hi
  have hu' : u = .int .u8 p := by simpa using hu.symm
  subst hu'
  rw [bytesOf_length] at hj
  have hc := Lib.bytesWorld_cell w e s j hj
  have e1 : (⟨w.heap.size, 0, none⟩ : Addr).add (j * (Kd.int .u8).sz + 0) = ⟨w.heap.size, j, none⟩ := by
    show (⟨w.heap.size, 0, none⟩ : Addr).add (j * 1 + 0) = _
    unfold Addr.add; by_cases hj0 : j = 0 <;> simp [hj0]
  rw [e1, hc]
  simp only [bytesOf, List.getElem?_map] at hp
  rw [List.getElem?_eq_getElem (by rw [data_length]; exact hj)] at hp
  simp only [Option.map_some, Option.some.injEq] at hp
  rw [← hp, List.getD_eq_getElem?_getD, List.getElem?_eq_getElem (by rw [data_length]; exact hj)]
  rfl
theorem bytes_below (w : World) (e : TypeId) (s : ByteArray) : Below w.heap.size w (Lib.bytesWorld w e s) := by
  refine ⟨?_, ?_, ?_, ?_, fun k hk => Lib.bytesWorld_at_old w e s k hk⟩
  · unfold Lib.bytesWorld World.freeze; split <;> rfl
  · unfold Lib.bytesWorld World.freeze; split <;> rfl
  · unfold Lib.bytesWorld World.freeze; split <;> rfl
  · rw [Lib.bytesWorld_size]; omega
set_option maxHeartbeats 2000000 in
theorem impl_isPart.calls (a0 : ByteArray) (r : Bool) (w : World) (h : impl_isPart.f a0 = some r) :
    Calls Tryd.prog 86 #[.string a0] w fun e w' => e = .returned (.bool r) ∧ Below w.heap.size w w' := by
  have eg : ∀ args w, (callFunc 112 args).run Tryd.prog w = .ok (.enter 112 args) w := enters_of Tryd.func112 (by kernel_rfl) rfl
  have hr : r = partB a0 := (Option.some.inj h).symm
  subst hr
  clear h
  by_cases h1 : 1 ≤ a0.size
  · by_cases h2 : a0.size ≤ 8
    · have hw : impl_within.f (a0.size : Int) 1 8 = some true := by unfold impl_within.f; rw [if_pos (by omega)]; simp; omega
      have HW := Aside0.mk (fun W => impl_within.calls (a0.size : Int) 1 8 true W hw)
      have hcv := fun W : World => Lib.run_convert_string_bytes (P := Tryd.prog) W 9 86 5 a0 Tryd.underlying9 Tryd.underlying86 Tryd.underlying5
      have HC : Aside0 (∀ (W : World) (c : Nat), a0.size ≤ c → Calls Tryd.prog 103 #[.slice (some ⟨W.heap.size, 0, none⟩) a0.size c, .func (.func 112) #[] #[]] (Lib.bytesWorld W 5 a0) fun e w' => e = .returned (.bool ((bytesOf a0).any fun b => !nameB b)) ∧ Below (Lib.bytesWorld W 5 a0).heap.size (Lib.bytesWorld W 5 a0) w') := ⟨fun W c hc => by
        have := containsFuncB eg (fun b => !nameB b) (some ⟨W.heap.size, 0, none⟩) c (bytesOf a0) (Lib.bytesWorld W 5 a0) (isPart_pred _) (bytes_row W 5 a0 (by unfold maxLen; omega)) (by rw [bytesOf_length]; exact hc)
        rw [bytesOf_length] at this
        exact this⟩
      have HP : Aside0 (partB a0 = !(bytesOf a0).any (fun b => !nameB b)) := ⟨by unfold partB; simp [h1, h2]⟩
      generalize (bytesOf a0).any (fun b => !nameB b) = q at HC HP
      rw [HP.out]
      have HB : Aside0 (∀ W : World, Below W.heap.size W (Lib.bytesWorld W 5 a0)) := ⟨fun W => bytes_below W 5 a0⟩
      clear hw h1 h2 HP eg
      go_enter Tryd.func86, Tryd.ntmps86
      go_wp2_with (first | (go_at_call 31; refine (HW.out _).mono ?_; rintro e w' ⟨rfl, hd⟩) | (go_at_call 103; refine (HC.out _ _ (grownCap_ge _ _ _ _)).mono ?_; rintro e w'' ⟨rfl, hd2⟩))
      go_ret
      refine ⟨rfl, ?_⟩
      have b1 := hd.below
      have b2 := HB.out w'
      exact b1.trans ((b2.mono b1.size).trans (hd2.mono (Nat.le_trans b1.size b2.size)))
    · have hw : impl_within.f (a0.size : Int) 1 8 = some false := by unfold impl_within.f; rw [if_pos (by omega)]; simp; omega
      have HW := Aside0.mk (fun W => impl_within.calls (a0.size : Int) 1 8 false W hw)
      have HP : Aside0 (partB a0 = false) := ⟨by unfold partB; simp [h2]⟩
      rw [HP.out]
      clear hw h1 h2 HP eg
      go_enter Tryd.func86, Tryd.ntmps86
      go_wp2_with (first | (go_at_call 31; refine (HW.out _).mono ?_; rintro e w' ⟨rfl, hd⟩))
      go_ret
      exact ⟨rfl, hd.below⟩
  · have hw : impl_within.f (a0.size : Int) 1 8 = some false := by unfold impl_within.f; rw [if_neg (by omega)]
    have HW := Aside0.mk (fun W => impl_within.calls (a0.size : Int) 1 8 false W hw)
    have HP : Aside0 (partB a0 = false) := ⟨by unfold partB; simp [h1]⟩
    rw [HP.out]
    clear hw h1 HP eg
    go_enter Tryd.func86, Tryd.ntmps86
    go_wp2_with (first | (go_at_call 31; refine (HW.out _).mono ?_; rintro e w' ⟨rfl, hd⟩))
    go_ret
    exact ⟨rfl, hd.below⟩

end Go.Proofs.YtibfocaldcjiiaaDoor.Q

/- impl.partsOf, impl.isLong: the parts of a path; whether a text is one of any length. -/
namespace Go.Proofs.YtibfocaldcjiiaaDoor.Q
open Go.RowKit Go.Proofs.YtibfocaldcjiiaaDoorW.PrintWords Go.Proofs.YtibfocaldcjiiaaDoorW.PrintLast Go.Proofs.YtibfocaldcjiiaaDoorW.PrintMore
attribute [local go_sem] max2_int min2_int max_two min_two max_three min_three max_four min_four   -- for this text's walks alone
set_option linter.unusedVariables false
set_option linter.unusedSimpArgs false

/-- A text cut at each slash. -/
def slashL (s : ByteArray) : List ByteArray := Lib.splitB ⟨#[47]⟩ 0 (Lib.countB s ⟨#[47]⟩) s
def nilB (p : ByteArray) : Bool := decide (p.size = 0)
def partsL (s : ByteArray) : List ByteArray := (slashL s).filter fun p => !nilB p
def impl_partsOf.f (s : ByteArray) : Option (List ByteArray) := if s.size < 4294967281 then some (partsL s) else none
def longB (s : ByteArray) : Bool := !nilB s && !(partsL s).any (fun p => !partB p)
def impl_isLong.f (s : ByteArray) : Option Bool := if s.size < 4294967281 then some (longB s) else none
theorem toList_nil (x : ByteArray) : x.toList = [] ↔ x.size = 0 := by
  rw [ByteArray.toList_eq]
  rw [← data_length]
  exact ⟨fun h => by rw [h]; rfl, fun h => List.length_eq_zero_iff.mp h⟩
theorem nilB_eq (x : ByteArray) : (x.toList == []) = nilB x := by
  unfold nilB
  by_cases h : x.size = 0
  · rw [(toList_nil x).mpr h]; simp [h]
  · have h2 : ¬ x.toList = [] := fun e => h ((toList_nil x).mp e)
    simp [h, h2]
theorem partsOf_gives (W : World) (x : ByteArray) : FnGives Tryd.prog 157 #[] #[.string x] (.bool (nilB x)) W := by
  show Calls Tryd.prog 157 #[.string x] W fun e w' => e = .returned (.bool (nilB x)) ∧ ∃ q, w' = W.drewN q
  rw [← nilB_eq]
  go_enter Tryd.func157, Tryd.ntmps157
  go_wp2
  go_ret
  exact ⟨by simp, 0, rfl⟩
set_option maxHeartbeats 1000000 in
theorem impl_partsOf.calls (a0 : ByteArray) (r : List ByteArray) (w : World) (h : impl_partsOf.f a0 = some r) :
    Calls Tryd.prog 147 #[.string a0] w fun e w' => ∃ v0_ : Value, e = .returned (v0_) ∧ Kd.R Kd.string 9 w' w.heap.size (fun _ => True) v0_ r ∧ Below w.heap.size w w' := by
  unfold impl_partsOf.f at h
  split at h
  · rename_i hs
    injection h with h
    subst h
    have hle := Lib.countB_le ⟨#[47]⟩ (by decide) a0.size a0 (Nat.le_refl _)
    have hlen := Lib.splitB_all ⟨#[47]⟩ (by decide) 0 _ a0 rfl
    have HS := Aside0.mk (split_world a0 ⟨#[47]⟩ w rfl hs)
    have hn : (slashL a0).length = Lib.countB a0 ⟨#[47]⟩ + 1 := hlen
    have hbound : (slashL a0).length ≤ 4294967282 := by omega
    change Aside0 (Calls _ _ _ _ fun e w' => e = .returned (.slice _ (slashL a0).length (slashL a0).length) ∧ w' = w.alloc (.cells ((slashL a0).map Value.string).toArray _)) at HS
    have hu : partsL a0 = (slashL a0).filter fun p => !nilB p := rfl
    rw [hu]
    clear hu hle hlen hn hs
    generalize slashL a0 = l at *
    have eg : ∀ args w, (callFunc 157 args).run Tryd.prog w = .ok (.enter 157 args) w := enters_of Tryd.func157 (by kernel_rfl) rfl
    have hown := owns_new Value.string w 9 l (by unfold maxLen; omega)
    have hH := (Lib.holds_of_ownsRow hown (by intro e; cases e))
    obtain ⟨g, cap, e0, _, hlt, _, _, _, hH⟩ := hH
    injection e0 with e1 _ e3
    injection e1 with e1
    injection e1 with e1
    subst e1; subst e3
    have HD := Aside0.mk (AnyE.slices_DeleteFunc Tryd.lDelS Value.string (fun _ => rfl) nilB 157 #[] eg ByteArray.empty Tryd.zeroValue9 w.heap.size 0 l.length l.toArray (w.alloc (.cells (l.map Value.string).toArray 9)) (fun W x _ => partsOf_gives W x) (fun n os dk x _ => partsOf_gives _ x) hH (by simp; omega) (by simp))
    change Aside0 (Calls Tryd.prog 156 #[.slice (some ⟨w.heap.size, 0, none⟩) l.toArray.size l.length, .func (.func 157) #[] #[]] _ _) at HD
    have hf : (l.filter fun p => !nilB p).length ≤ l.length := List.length_filter_le _ _
    have HO := Aside0.mk hown
    clear eg hown hH
    generalize hfl : (l.filter fun p => !nilB p) = f at HD hf ⊢
    simp only [List.size_toArray, hfl] at HD
    have HF := Aside0.mk hf
    clear hf hfl hbound
    go_enter Tryd.func147, Tryd.ntmps147
    go_wp2_with (first | (go_at_call 61; refine HS.out.mono ?_; rintro e w' ⟨rfl, rfl⟩) | (go_at_call 156; refine HD.out.mono ?_; rintro e w'' ⟨rfl, q, rfl⟩))
    go_ret
    refine ⟨_, rfl, ?_, Lib.below_putRow ((Below.refl _ _).alloc (Nat.le_refl _) _) (Nat.le_refl _)⟩
    have h5 := Lib.ownsRow_putRow (q := q) (ys := f ++ List.replicate (l.length - f.length) ByteArray.empty) HO.out (by have := HF.out; simp; omega) HF.out
    rw [List.take_append_of_le_length (Nat.le_refl _), List.take_of_length_le (Nat.le_refl _)] at h5
    exact R_of_owns Value.string (fun _ => rfl) h5
  · cases h

/-- A closure that asks a function of the program of one string, and says no to it. -/
theorem isLong_pred (w : World) : PredB 148 #[] Value.string (fun p => !partB p) w := by
  intro W x hb
  have HC := Aside0.mk (impl_isPart.calls x (partB x) W rfl)
  show Calls Tryd.prog 148 #[.string x] W fun e w' => e = .returned (.bool (!partB x)) ∧ Below W.heap.size W w'
  generalize partB x = q at HC ⊢
  go_enter Tryd.func148, Tryd.ntmps148
  go_wp2_with (go_at_call 86; refine HC.out.mono ?_; rintro e w' ⟨rfl, hd⟩)
  go_ret
  exact ⟨rfl, hd⟩
set_option maxHeartbeats 1000000 in
theorem impl_isLong.calls (a0 : ByteArray) (r : Bool) (w : World) (h : impl_isLong.f a0 = some r) :
    Calls Tryd.prog 130 #[.string a0] w fun e w' => e = .returned (.bool r) ∧ Below w.heap.size w w' := by
  unfold impl_isLong.f at h
  split at h
  · rename_i hs
    injection h with h
    subst h
    by_cases hn : nilB a0 = true
    · have HP : Aside0 (longB a0 = false) := ⟨by unfold longB; simp [hn]⟩
      rw [HP.out]
      have h1 : a0.toList = [] := by rw [← nilB_eq] at hn; simpa using hn
      clear hn hs HP
      go_enter Tryd.func130, Tryd.ntmps130
      go_wp2
      go_ret
      exact ⟨rfl, Below.refl _ _⟩
    · have hn' : nilB a0 = false := by simpa using hn
      have HP : Aside0 (longB a0 = !(partsL a0).any (fun p => !partB p)) := ⟨by unfold longB; simp [hn']⟩
      rw [HP.out]
      have h2 : ¬ a0.toList = [] := fun e => hn (by rw [← nilB_eq, e]; rfl)
      have h3 : (!a0.toList.isEmpty) = true := by simpa using h2
      have eg : ∀ args w, (callFunc 148 args).run Tryd.prog w = .ok (.enter 148 args) w := enters_of Tryd.func148 (by kernel_rfl) rfl
      have HS := Aside0.mk (impl_partsOf.calls a0 (partsL a0) w (by unfold impl_partsOf.f; rw [if_pos hs]))
      have HC := Aside0.mk (fun (A : Option Addr) (c : Nat) (W : World) (hr : Kd.C Kd.string W A (partsL a0).length (partsL a0)) (hc : (partsL a0).length ≤ c) => containsFuncS eg (fun p => !partB p) A c (partsL a0) W (isLong_pred _) hr hc)
      clear hn hn' HP hs eg
      generalize partsL a0 = l at HS HC ⊢
      generalize l.any (fun p => !partB p) = q at HC ⊢
      go_enter Tryd.func130, Tryd.ntmps130
      go_wp2_with (go_at_call 147; refine HS.out.mono ?_; rintro e w1 ⟨v0, rfl, hr, hb1⟩)
      obtain ⟨A, c, rfl, hc, hC⟩ := Kd.R_reads hr
      have HC' := Aside0.mk (HC.out A c w1 hC hc)
      clear HC hr hC hc HS
      go_wp2_with (go_at_call 62; refine HC'.out.mono ?_; rintro e w2 ⟨rfl, hb2⟩)
      go_ret
      exact ⟨rfl, hb1.trans (hb2.mono hb1.size)⟩
  · cases h

end Go.Proofs.YtibfocaldcjiiaaDoor.Q

-- Printed by a program of this session (wip/tools/myprint.py) that runs the kit's print, hand-proved functions among the others.
namespace Go.Proofs.YtibfocaldcjiiaaDoor.Q
open Go.RowKit Go.Proofs.YtibfocaldcjiiaaDoorW.PrintWords Go.Proofs.YtibfocaldcjiiaaDoorW.PrintLast Go.Proofs.YtibfocaldcjiiaaDoorW.PrintMore
attribute [local go_sem] max2_int min2_int max_two min_two max_three min_three max_four min_four   -- for this text's walks alone
set_option linter.unusedVariables false
set_option linter.unusedSimpArgs false

/-! ### impl_GoodPath: function 106 -/
def impl_GoodPath.f (a0 : ByteArray) : Option (Bool) := if (a0.size : Int) ≤ 60 then ((impl_isLong.f a0).bind fun t219 => (some t219)) else (some false)
set_option maxHeartbeats 8000000 in
set_option maxRecDepth 100000 in
theorem impl_GoodPath.calls (a0 : ByteArray) (r : Bool) (w : World) (h : impl_GoodPath.f a0 = some r) :
    Calls Tryd.prog 106 #[.string a0] w fun e w' => e = .returned (.bool r) ∧ Below w.heap.size w w' := by
  have HB := Aside0.mk (Below.refl w.heap.size w)
  have H : (if (a0.size : Int) ≤ 60 then ((impl_isLong.f a0).bind fun t219 => (some t219)) else (some false)) = some r := h
  clear h
  by_cases c2 : (a0.size : Int) ≤ 60
  · rw [if_pos c2] at H
    have c2b0 : decide ((a0.size : Int) ≤ 60) = true := decide_eq_true c2
    have c2b1 : decide (a0.size ≤ 60) = true := decide_eq_true (by omega)
    clear c2
    replace H := Option.bind_eq_some_iff.mp H
    obtain ⟨t219, A30, H⟩ := H
    replace H : (some t219) = some r := H
    have A3 := Aside0.mk A30
    clear A30
    obtain rfl := Option.some.inj H
    go_enter Tryd.func106, Tryd.ntmps106
    go_wp2_with (first | (go_at_call 130; (with_reducible refine (impl_isLong.calls a0 t219 _ A3.out).mono ?_); rintro e w4 ⟨rfl, hb⟩; have n0_ := Aside0.mk (below_step (by repeat (first | (with_reducible first | exact HB.out | apply below_alloc | apply pw_below_drewN | apply below_drew1) | exact HB.out)) hb); clear HB; have HB := n0_; clear n0_; (try clear hb); (try clear hb2); (try clear hk); (try clear hi)))
    go_ret
    exact ⟨by first | rfl | (simp [errW_none, errW_some] <;> rfl) | (simp [*, errW_none, errW_some] <;> rfl), by repeat (first | (with_reducible first | exact HB.out | apply below_alloc | apply pw_below_drewN | apply below_drew1) | exact HB.out)⟩
  · rw [if_neg c2] at H
    have c2b0 : decide ((a0.size : Int) ≤ 60) = false := decide_eq_false c2
    have c2b1 : decide (a0.size ≤ 60) = false := decide_eq_false (by omega)
    clear c2
    obtain rfl := Option.some.inj H
    go_enter Tryd.func106, Tryd.ntmps106
    go_wp2
    go_ret
    exact ⟨by first | rfl | (simp [errW_none, errW_some] <;> rfl) | (simp [*, errW_none, errW_some] <;> rfl), by repeat (first | (with_reducible first | exact HB.out | apply below_alloc | apply pw_below_drewN | apply below_drew1) | exact HB.out)⟩

end Go.Proofs.YtibfocaldcjiiaaDoor.Q

-- Printed by a program of this session (wip/tools/myprint.py) that runs the kit's print, hand-proved functions among the others.
namespace Go.Proofs.YtibfocaldcjiiaaDoor.Q
open Go.RowKit Go.Proofs.YtibfocaldcjiiaaDoorW.PrintWords Go.Proofs.YtibfocaldcjiiaaDoorW.PrintLast Go.Proofs.YtibfocaldcjiiaaDoorW.PrintMore
attribute [local go_sem] max2_int min2_int max_two min_two max_three min_three max_four min_four   -- for this text's walks alone
set_option linter.unusedVariables false
set_option linter.unusedSimpArgs false

/-! ### impl_GoodName: function 64 -/
def impl_GoodName.f (a0 : ByteArray) : Option (Bool) := (impl_isPart.f a0).bind fun t217 => (if t217 = true then ((impl_isDots.f a0).bind fun t218 => (some (!t218))) else (some false))
set_option maxHeartbeats 8000000 in
set_option maxRecDepth 100000 in
theorem impl_GoodName.calls (a0 : ByteArray) (r : Bool) (w : World) (h : impl_GoodName.f a0 = some r) :
    Calls Tryd.prog 64 #[.string a0] w fun e w' => e = .returned (.bool r) ∧ Below w.heap.size w w' := by
  have HB := Aside0.mk (Below.refl w.heap.size w)
  have H : ((impl_isPart.f a0).bind fun t217 => (if t217 = true then ((impl_isDots.f a0).bind fun t218 => (some (!t218))) else (some false))) = some r := h
  clear h
  replace H := Option.bind_eq_some_iff.mp H
  obtain ⟨t217, A20, H⟩ := H
  replace H : (if t217 = true then ((impl_isDots.f a0).bind fun t218 => (some (!t218))) else (some false)) = some r := H
  have A2 := Aside0.mk A20
  clear A20
  by_cases c3 : t217 = true
  · subst c3
    have H1 : ((impl_isDots.f a0).bind fun t218 => (some (!t218))) = some r := by rw [if_pos rfl] at H; exact H
    clear H
    have H := H1
    clear H1
    replace H := Option.bind_eq_some_iff.mp H
    obtain ⟨t218, A40, H⟩ := H
    replace H : (some (!t218)) = some r := H
    have A4 := Aside0.mk A40
    clear A40
    obtain rfl := Option.some.inj H
    go_enter Tryd.func64, Tryd.ntmps64
    go_wp2_with (first | ((with_reducible refine gate_callee (f := 86) rfl ?_); refine goesL_ (some 4) rfl rfl Tryd.func86 (by kernel_rfl) rfl #[.string a0] rfl (by (try simp only [List.map_toArray, List.map_cons, List.map_nil]); first | done | rfl | (simp only [List.length_drop, List.length_take]; rfl)) ?_; (with_reducible refine (impl_isPart.calls a0 true _ A2.out).mono ?_); rintro e w5 ⟨rfl, hb⟩; refine ⟨_, rfl, ?_⟩; have n0_ := Aside0.mk (below_step (by repeat (first | (with_reducible first | exact HB.out | apply below_alloc | apply pw_below_drewN | apply below_drew1) | exact HB.out)) hb); clear HB; have HB := n0_; clear n0_; (try clear hb); (try clear hb2); (try clear hk); (try clear hi)) | (go_at_call 87; (with_reducible refine (impl_isDots.calls a0 t218 _ A4.out).mono ?_); rintro e w' ⟨rfl, ⟨nd, rfl⟩⟩))
    go_ret
    exact ⟨by first | rfl | (simp [errW_none, errW_some] <;> rfl) | (simp [*, errW_none, errW_some] <;> rfl), by repeat (first | (with_reducible first | exact HB.out | apply below_alloc | apply pw_below_drewN | apply below_drew1) | exact HB.out)⟩
  · replace c3 := Bool.eq_false_iff.mpr c3
    subst c3
    have H1 : (some false) = some r := by rw [if_neg (show ¬ (false = true) by decide)] at H; exact H
    clear H
    have H := H1
    clear H1
    obtain rfl := Option.some.inj H
    go_enter Tryd.func64, Tryd.ntmps64
    go_wp2_with (first | ((with_reducible refine gate_callee (f := 86) rfl ?_); refine goesL_ (some 4) rfl rfl Tryd.func86 (by kernel_rfl) rfl #[.string a0] rfl (by (try simp only [List.map_toArray, List.map_cons, List.map_nil]); first | done | rfl | (simp only [List.length_drop, List.length_take]; rfl)) ?_; (with_reducible refine (impl_isPart.calls a0 false _ A2.out).mono ?_); rintro e w6 ⟨rfl, hb⟩; refine ⟨_, rfl, ?_⟩; have n0_ := Aside0.mk (below_step (by repeat (first | (with_reducible first | exact HB.out | apply below_alloc | apply pw_below_drewN | apply below_drew1) | exact HB.out)) hb); clear HB; have HB := n0_; clear n0_; (try clear hb); (try clear hb2); (try clear hk); (try clear hi)))
    go_ret
    exact ⟨by first | rfl | (simp [errW_none, errW_some] <;> rfl) | (simp [*, errW_none, errW_some] <;> rfl), by repeat (first | (with_reducible first | exact HB.out | apply below_alloc | apply pw_below_drewN | apply below_drew1) | exact HB.out)⟩

end Go.Proofs.YtibfocaldcjiiaaDoor.Q

/- impl.namesOf: the names of a way. -/
namespace Go.Proofs.YtibfocaldcjiiaaDoor.Q
open Go.RowKit Go.Proofs.YtibfocaldcjiiaaDoorW.PrintWords Go.Proofs.YtibfocaldcjiiaaDoorW.PrintLast Go.Proofs.YtibfocaldcjiiaaDoorW.PrintMore
attribute [local go_sem] max2_int min2_int max_two min_two max_three min_three max_four min_four   -- for this text's walks alone
set_option linter.unusedVariables false
set_option linter.unusedSimpArgs false

def nameOkB (p : ByteArray) : Bool := partB p && !(p.toList == [46] || p.toList == [46, 46])
theorem GoodName_f (p : ByteArray) : impl_GoodName.f p = some (nameOkB p) := by
  unfold impl_GoodName.f nameOkB impl_isPart.f impl_isDots.f
  simp only [Option.bind_some]
  cases partB p <;> by_cases h1 : p.toList = [46] <;> by_cases h2 : p.toList = [46, 46] <;> simp_all
def impl_namesOf.f (s : ByteArray) : Option (List ByteArray × Bool) :=
  if s.toList = [46] then some ([], true) else if s.size < 4294967281 then some (slashL s, !(slashL s).any (fun p => !nameOkB p)) else none
theorem namesOf_pred (w : World) : PredB 63 #[] Value.string (fun p => !nameOkB p) w := by
  intro W x hb
  have HC := Aside0.mk (impl_GoodName.calls x (nameOkB x) W (GoodName_f x))
  show Calls Tryd.prog 63 #[.string x] W fun e w' => e = .returned (.bool (!nameOkB x)) ∧ Below W.heap.size W w'
  generalize nameOkB x = q at HC ⊢
  go_enter Tryd.func63, Tryd.ntmps63
  go_wp2_with (go_at_call 64; refine HC.out.mono ?_; rintro e w' ⟨rfl, hd⟩)
  go_ret
  exact ⟨rfl, hd⟩
set_option maxHeartbeats 1000000 in
theorem impl_namesOf.calls (a0 : ByteArray) (r1 : List ByteArray) (r2 : Bool) (w : World) (h : impl_namesOf.f a0 = some (r1, r2)) :
    Calls Tryd.prog 32 #[.string a0] w fun e w' => ∃ v0_ : Value, e = .returned (.tuple #[v0_, .bool r2]) ∧ Kd.R Kd.string 9 w' w.heap.size (fun _ => True) v0_ r1 ∧ Below w.heap.size w w' := by
  unfold impl_namesOf.f at h
  split at h
  · rename_i hs
    injection h with h
    injection h with h1 h2
    subst h1 h2
    go_enter Tryd.func32, Tryd.ntmps32
    go_wp2
    go_ret2
    exact ⟨_, rfl, Kd.R_nil _ _ _ _ _, Below.refl _ _⟩
  · rename_i hd
    split at h
    · rename_i hs
      injection h with h
      injection h with h1 h2
      subst h1 h2
      have hle := Lib.countB_le ⟨#[47]⟩ (by decide) a0.size a0 (Nat.le_refl _)
      have hlen := Lib.splitB_all ⟨#[47]⟩ (by decide) 0 _ a0 rfl
      have HS := Aside0.mk (split_world a0 ⟨#[47]⟩ w rfl hs)
      have hn : (slashL a0).length = Lib.countB a0 ⟨#[47]⟩ + 1 := hlen
      have hbound : (slashL a0).length ≤ 4294967282 := by omega
      change Aside0 (Calls _ _ _ _ fun e w' => e = .returned (.slice _ (slashL a0).length (slashL a0).length) ∧ w' = w.alloc (.cells ((slashL a0).map Value.string).toArray _)) at HS
      have eg : ∀ args w, (callFunc 63 args).run Tryd.prog w = .ok (.enter 63 args) w := enters_of Tryd.func63 (by kernel_rfl) rfl
      clear hle hlen hn hs
      generalize slashL a0 = l at *
      have hR := new_strings w l (by unfold maxLen; omega)
      obtain ⟨A, c, e0, hc, hC⟩ := Kd.R_reads hR
      injection e0 with e1 _ e3
      subst e1; subst e3
      have HC := Aside0.mk (containsFuncS eg (fun p => !nameOkB p) _ _ l _ (namesOf_pred _) hC hc)
      have HR := Aside0.mk hR
      have hd1 : (a0.toList == [46]) = false := by simpa using hd
      have hd2 : (a0.toList != [46]) = true := by simpa using hd
      clear eg hR hC hc hbound hd
      generalize l.any (fun p => !nameOkB p) = q at HC ⊢
      go_enter Tryd.func32, Tryd.ntmps32
      go_wp2_with (first | (go_at_call 61; refine HS.out.mono ?_; rintro e w' ⟨rfl, rfl⟩) | (go_at_call 62; refine HC.out.mono ?_; rintro e w2 ⟨rfl, hb2⟩))
      go_ret2
      exact ⟨_, rfl, Kd.R_below HR.out hb2, ((Below.refl _ _).alloc (Nat.le_refl _) _).trans (hb2.mono (by simp))⟩
    · cases h

end Go.Proofs.YtibfocaldcjiiaaDoor.Q

/- Splitting at a byte, over lists: what strings.Split and the reference's own loop both come to. -/
namespace Go.Proofs.YtibfocaldcjiiaaDoor.Q
open Go.RowKit Go.Proofs.YtibfocaldcjiiaaDoorW.PrintWords Go.Proofs.YtibfocaldcjiiaaDoorW.PrintLast Go.Proofs.YtibfocaldcjiiaaDoorW.PrintMore
attribute [local go_sem] max2_int min2_int max_two min_two max_three min_three max_four min_four   -- for this text's walks alone
set_option linter.unusedVariables false
set_option linter.unusedSimpArgs false

theorem step_n {i n : Nat} (h : i < n) (hn : n ≤ 4611686018427387904) : wrap64 ((i : Int) + 1) = ((i + 1 : Nat) : Int) := by
  unfold wrap64; omega
/-- A list cut at each c. -/
def spl (c : UInt8) : List UInt8 → List (List UInt8)
  | [] => [[]]
  | b :: l => if b = c then [] :: spl c l else match spl c l with
    | [] => [[b]]
    | h :: t => (b :: h) :: t
def glue (p : List UInt8) : List (List UInt8) → List (List UInt8)
  | [] => [p]
  | h :: t => (p ++ h) :: t
theorem spl_ne (c : UInt8) (l : List UInt8) : spl c l ≠ [] := by
  cases l with
  | nil => simp [spl]
  | cons b l =>
    simp only [spl]
    split
    · simp
    · split <;> simp
theorem glue_nil (c : UInt8) (l : List UInt8) : glue [] (spl c l) = spl c l := by
  cases h : spl c l with
  | nil => exact absurd h (spl_ne c l)
  | cons a t => rfl
theorem glue_eq (c : UInt8) (p l : List UInt8) : glue p (spl c (c :: l)) = p :: spl c l := by simp [spl, glue]
theorem glue_cons (c b : UInt8) (p l : List UInt8) (h : b ≠ c) : glue p (spl c (b :: l)) = glue (p ++ [b]) (spl c l) := by
  simp only [spl, if_neg h]
  cases h2 : spl c l with
  | nil => exact absurd h2 (spl_ne c l)
  | cons a t => simp [glue]
theorem splitK_cons_ne (b c : UInt8) (h : b ≠ c) : ∀ (k : Nat) (l : List UInt8), Lib.splitK [c] 0 k (b :: l) = glue [b] (Lib.splitK [c] 0 k l)
  | 0, l => rfl
  | k + 1, l => by
    have hix : Lib.index (b :: l) [c] = if Lib.index l [c] == -1 then -1 else Lib.index l [c] + 1 := by
      rw [Lib.index_one, Lib.index_one, Lib.indexByte, if_neg (by simpa using h)]
    by_cases hm : Lib.index l [c] = -1
    · have h1 : Lib.index (b :: l) [c] = -1 := by rw [hix, if_pos (by simp [hm])]
      simp only [Lib.splitK, h1, hm]
      rfl
    · have hge := Lib.indexByte_ge l c
      rw [← Lib.index_one] at hge
      have h1 : Lib.index (b :: l) [c] = Lib.index l [c] + 1 := by rw [hix, if_neg (by simpa using hm)]
      have n1 : (Lib.index (b :: l) [c] == -1) = false := by rw [h1]; simp; omega
      have n2 : (Lib.index l [c] == -1) = false := by simpa using hm
      simp only [Lib.splitK, n1, n2, Bool.false_eq_true, if_false, glue, Nat.add_zero]
      have e : (Lib.index (b :: l) [c]).toNat = (Lib.index l [c]).toNat + 1 := by rw [h1]; omega
      rw [e]
      have e2 : (Lib.index l [c]).toNat + 1 + [c].length = ((Lib.index l [c]).toNat + [c].length) + 1 := by omega
      rw [e2, List.take_succ_cons, List.drop_succ_cons]
      rfl
theorem splitK_spl (c : UInt8) : ∀ l : List UInt8, Lib.splitK [c] 0 (Lib.count l [c]) l = spl c l
  | [] => by rw [Lib.count_one]; rfl
  | b :: l => by
    by_cases h : b = c
    · subst h
      rw [Lib.count_cons_eq, Nat.add_comm, Lib.splitK]
      have h0 : Lib.index (b :: l) [b] = 0 := by rw [Lib.index_one, Lib.indexByte, if_pos (by simp)]
      rw [h0]
      simp only [spl, if_true]
      rw [if_neg (by decide)]
      simp only [Int.toNat_zero, Nat.add_zero, List.take_zero, Nat.zero_add]
      rw [show (b :: l).drop [b].length = l from rfl, splitK_spl b l]
    · rw [Lib.count_cons_ne b c l h, splitK_cons_ne b c h, splitK_spl c l]
      simp only [spl, if_neg h]
      cases spl c l <;> rfl
theorem splitB_spl (c : UInt8) (s : ByteArray) : (Lib.splitB ⟨#[c]⟩ 0 (Lib.countB s ⟨#[c]⟩) s).map (·.data.toList) = spl c s.data.toList := by
  rw [Lib.splitB_data]
  exact splitK_spl c s.data.toList
theorem map_data_inj : ∀ {a b : List ByteArray}, a.map (·.data.toList) = b.map (·.data.toList) → a = b
  | [], [], _ => rfl
  | [], _ :: _, h => by simp at h
  | _ :: _, [], h => by simp at h
  | x :: a, y :: b, h => by
    simp only [List.map_cons, List.cons.injEq] at h
    rw [Go.WideShapes.bytes_inj h.1, map_data_inj h.2]
/-- The reference's loop. -/
def segs (s : ByteArray) (c : Int) : Nat → Nat → Nat → List ByteArray
  | 0, fr, _ => [s.extract fr s.size]
  | d + 1, fr, i => if bt s i = c then s.extract fr i :: segs s c d (i + 1) (i + 1) else segs s c d fr (i + 1)
theorem segs_len (s : ByteArray) (c : Int) : ∀ d fr i, (segs s c d fr i).length ≤ d + 1
  | 0, _, _ => by simp [segs]
  | d + 1, fr, i => by
    simp only [segs]
    split
    · have := segs_len s c d (i + 1) (i + 1); simp; omega
    · have := segs_len s c d fr (i + 1); omega
theorem bt_data (s : ByteArray) (i : Nat) (h : i < s.size) : bt s (i : Int) = ((s.data.toList[i]'(by rw [data_length]; exact h)).toNat : Int) := by
  unfold bt
  rw [dif_pos (by simpa using h)]
  rfl
theorem extract_list (s : ByteArray) (a b : Nat) : (s.extract a b).data.toList = (s.data.toList.take b).drop a := by
  rw [Lib.extract_data]
  simp [List.drop_take]
theorem segs_spl (s : ByteArray) (c : UInt8) : ∀ d fr i, i + d = s.size → fr ≤ i → (segs s (c.toNat : Int) d fr i).map (·.data.toList) = glue ((s.data.toList.take i).drop fr) (spl c (s.data.toList.drop i))
  | 0, fr, i, h, hf => by
    have hl := data_length s
    have e1 : s.data.toList.drop i = [] := List.drop_of_length_le (by omega)
    have e2 : s.data.toList.take i = s.data.toList := List.take_of_length_le (by omega)
    rw [e1, e2]
    simp only [segs, List.map_cons, List.map_nil, spl, glue, List.append_nil]
    rw [extract_list, List.take_of_length_le (by omega)]
  | d + 1, fr, i, h, hf => by
    have hl := data_length s
    have hlt : i < s.data.toList.length := by omega
    rw [List.drop_eq_getElem_cons hlt]
    simp only [segs]
    rw [bt_data s i (by omega)]
    by_cases hc : s.data.toList[i] = c
    · rw [if_pos (by rw [hc]), hc, glue_eq, List.map_cons, segs_spl s c d (i + 1) (i + 1) (by omega) (Nat.le_refl _), extract_list]
      have : (s.data.toList.take (i + 1)).drop (i + 1) = [] := List.drop_of_length_le (by rw [List.length_take]; omega)
      rw [this, glue_nil]
    · rw [if_neg (fun e => hc (UInt8.toNat_inj.mp (by omega))), glue_cons c _ _ _ hc, segs_spl s c d fr (i + 1) (by omega) (by omega)]
      have : (s.data.toList.take (i + 1)).drop fr = (s.data.toList.take i).drop fr ++ [s.data.toList[i]] := by
        rw [List.take_succ_eq_append_getElem hlt, List.drop_append_of_le_length (by rw [List.length_take]; omega)]
      rw [this]
theorem segs_split (s : ByteArray) (c : UInt8) : segs s (c.toNat : Int) s.size 0 0 = Lib.splitB ⟨#[c]⟩ 0 (Lib.countB s ⟨#[c]⟩) s := by
  apply map_data_inj
  rw [splitB_spl, segs_spl s c s.size 0 0 (by omega) (Nat.le_refl _)]
  simp [glue_nil]
theorem l1Split_loop (s : ByteArray) (c : Int) (hs : s.size < 4294967281) (d : Nat) : ∀ (fr i : Nat) (out : List ByteArray), i + d = s.size → fr ≤ i → out.length ≤ i →
    Ev (fun k => spec_l1Split.l0 k s c out (fr : Int) (i : Int)) (out ++ segs s c d fr i) := by
  induction d with
  | zero =>
    intro fr i out hi hf ho
    refine Ev.step (f := fun _ => some (out ++ [s.extract fr s.size])) (fun k => ?_) (Ev.now _)
    simp only [spec_l1Split.l0]
    rw [if_neg (by omega), if_pos (by omega), if_pos (by omega), if_pos (by omega)]
    rfl
  | succ d ih =>
    intro fr i out hi hf ho
    have hw := step_n (i := i) (n := s.size) (by omega) (by omega)
    by_cases hc : bt s i = c
    · have := ih (i + 1) (i + 1) (out ++ [s.extract fr i]) (by omega) (Nat.le_refl _) (by simp; omega)
      refine Ev.step (f := fun k => spec_l1Split.l0 k s c (out ++ [s.extract fr i]) ((i + 1 : Nat) : Int) ((i + 1 : Nat) : Int)) (fun k => ?_) ?_
      · simp only [spec_l1Split.l0]
        rw [if_pos (by omega), if_pos (by omega), if_pos hc, if_pos (by omega), if_pos (by omega), if_pos (by omega), if_pos (by omega), hw]
        rfl
      · simp only [segs]
        rw [if_pos hc]
        simpa using this
    · have := ih fr (i + 1) out (by omega) (by omega) (by omega)
      refine Ev.step (f := fun k => spec_l1Split.l0 k s c out (fr : Int) ((i + 1 : Nat) : Int)) (fun k => ?_) ?_
      · simp only [spec_l1Split.l0]
        rw [if_pos (by omega), if_pos (by omega), if_neg hc, hw]
      · simp only [segs]
        rw [if_neg hc]
        exact this
theorem l1Split_ev (s : ByteArray) (c : UInt8) (hs : s.size < 4294967281) : Ev (fun k => spec_l1Split.f k s (c.toNat : Int)) (Lib.splitB ⟨#[c]⟩ 0 (Lib.countB s ⟨#[c]⟩) s) := by
  rw [← segs_split]
  exact l1Split_loop s (c.toNat : Int) hs s.size 0 0 [] (by omega) (Nat.le_refl _) (by simp)
theorem slash_ev (s : ByteArray) (hs : s.size < 4294967281) : Ev (fun k => spec_l1Split.f k s 47) (slashL s) := l1Split_ev s 47 hs

end Go.Proofs.YtibfocaldcjiiaaDoor.Q

-- Printed by a program of this session (wip/tools/myprint.py) that runs the kit's print, hand-proved functions among the others.
namespace Go.Proofs.YtibfocaldcjiiaaDoor.Q
open Go.RowKit Go.Proofs.YtibfocaldcjiiaaDoorW.PrintWords Go.Proofs.YtibfocaldcjiiaaDoorW.PrintLast Go.Proofs.YtibfocaldcjiiaaDoorW.PrintMore
attribute [local go_sem] max2_int min2_int max_two min_two max_three min_three max_four min_four   -- for this text's walks alone
set_option linter.unusedVariables false
set_option linter.unusedSimpArgs false

/-! ### impl_compareWays: function 35 -/
def impl_compareWays.f (k : Nat) (a0 : ByteArray) (a1 : ByteArray) : Option (Int) := (impl_namesOf.f a0).bind fun bt248 => ((impl_namesOf.f a1).bind fun bt252 => ((slices_Compare_string_string.f k bt248.1 bt252.1).bind fun t256 => (some t256)))
theorem impl_compareWays.mono : ∀ a0 a1 k, LeO (impl_compareWays.f k a0 a1) (impl_compareWays.f (k + 1) a0 a1) := by
  intro a0 a1 k
  unfold impl_compareWays.f
  repeat' first
      | (with_reducible exact slices_Compare_string_string.mono _ _ _)
      | (with_reducible exact LeO.refl _)
      | (with_reducible exact LeO.none _)
      | (with_reducible refine LeO.ite ?_ ?_)
      | (with_reducible refine LeO.bind ?_ (fun _ => ?_))
      | exact slices_Compare_string_string.mono _ _ _
      | exact LeO.none _
      | refine LeO.ite ?_ ?_
      | refine LeO.bind ?_ (fun _ => ?_)
set_option maxHeartbeats 8000000 in
set_option maxRecDepth 100000 in
theorem impl_compareWays.calls (k : Nat) (a0 : ByteArray) (a1 : ByteArray) (r : Int) (w : World) (h : impl_compareWays.f k a0 a1 = some r) :
    Calls Tryd.prog 35 #[.string a0, .string a1] w fun e w' => e = .returned (.int .i64 r) ∧ Below w.heap.size w w' := by
  have HB := Aside0.mk (Below.refl w.heap.size w)
  have H : ((impl_namesOf.f a0).bind fun bt248 => ((impl_namesOf.f a1).bind fun bt252 => ((slices_Compare_string_string.f k bt248.1 bt252.1).bind fun t256 => (some t256)))) = some r := h
  clear h
  replace H := Option.bind_eq_some_iff.mp H
  obtain ⟨⟨t248, t249⟩, A30, H⟩ := H
  replace H : ((impl_namesOf.f a1).bind fun bt252 => ((slices_Compare_string_string.f k t248 bt252.1).bind fun t256 => (some t256))) = some r := H
  have A3 := Aside0.mk A30
  clear A30
  replace H := Option.bind_eq_some_iff.mp H
  obtain ⟨⟨t252, t253⟩, A40, H⟩ := H
  replace H : ((slices_Compare_string_string.f k t248 t252).bind fun t256 => (some t256)) = some r := H
  have A4 := Aside0.mk A40
  clear A40
  replace H := Option.bind_eq_some_iff.mp H
  obtain ⟨t256, A50, H⟩ := H
  replace H : (some t256) = some r := H
  have A5 := Aside0.mk A50
  clear A50
  obtain rfl := Option.some.inj H
  go_enter Tryd.func35, Tryd.ntmps35
  go_wp2_with (first | ((with_reducible refine gate_callee (f := 32) rfl ?_); refine goesL_ (some 11) rfl rfl Tryd.func32 (by kernel_rfl) rfl #[.string a0] rfl (by (try simp only [List.map_toArray, List.map_cons, List.map_nil]); first | done | rfl | (simp only [List.length_drop, List.length_take]; rfl)) ?_; (with_reducible refine (impl_namesOf.calls a0 t248 t249 _ A3.out).mono ?_); rintro e w6 ⟨v250, rfl, ho0, hb⟩; refine ⟨_, rfl, ?_⟩; have n0_ := Aside0.mk (Kd.R_lower ho0 (below_size (by repeat (first | (with_reducible first | exact HB.out | apply below_alloc | apply pw_below_drewN | apply below_drew1) | exact HB.out)))); have n1_ := Aside0.mk (below_step (by repeat (first | (with_reducible first | exact HB.out | apply below_alloc | apply pw_below_drewN | apply below_drew1) | exact HB.out)) hb); clear HB; have HO251 := n0_; have HB := n1_; clear n0_ n1_; (try clear hb); (try clear hb2); (try clear hk); (try clear hi); (try clear ho0)) | ((with_reducible refine gate_callee (f := 32) rfl ?_); refine goesL_ (some 16) rfl rfl Tryd.func32 (by kernel_rfl) rfl #[.string a1] rfl (by (try simp only [List.map_toArray, List.map_cons, List.map_nil]); first | done | rfl | (simp only [List.length_drop, List.length_take]; rfl)) ?_; (with_reducible refine (impl_namesOf.calls a1 t252 t253 _ A4.out).mono ?_); rintro e w7 ⟨v254, rfl, ho0, hb⟩; refine ⟨_, rfl, ?_⟩; have n0_ := Aside0.mk (Kd.R_elder' (by (with_reducible repeat (first | apply Kd.R_alloc | apply Kd.R_drewN | apply Kd.R_drew)); exact HO251.out) (Kd.R_base ho0) hb); have n1_ := Aside0.mk (Kd.R_lower (Kd.R_new' ho0 (Kd.R_lt (by (with_reducible repeat (first | apply Kd.R_alloc | apply Kd.R_drewN | apply Kd.R_drew)); exact HO251.out))) (below_size (by repeat (first | (with_reducible first | exact HB.out | apply below_alloc | apply pw_below_drewN | apply below_drew1) | exact HB.out)))); have n2_ := Aside0.mk (below_step (by repeat (first | (with_reducible first | exact HB.out | apply below_alloc | apply pw_below_drewN | apply below_drew1) | exact HB.out)) hb); clear HO251; clear HB; have HO251 := n0_; have HO255 := n1_; have HB := n2_; clear n0_ n1_ n2_; (try clear hb); (try clear hb2); (try clear hk); (try clear hi); (try clear ho0); obtain ⟨Ao8, co8, eo8⟩ := Kd.R_slice HO251.out; subst eo8; obtain ⟨Ao9, co9, eo9⟩ := Kd.R_slice HO255.out; subst eo9) | ((with_reducible refine gate_callee (f := 67) rfl ?_); refine goesL_ (some 21) rfl rfl Tryd.func67 (by kernel_rfl) rfl #[.slice Ao8 t248.length co8, .slice Ao9 t252.length co9] rfl (by (try simp only [List.map_toArray, List.map_cons, List.map_nil]); first | done | rfl | (simp only [List.length_drop, List.length_take]; rfl)) ?_; (with_reducible refine (slices_Compare_string_string.calls k _ _ t248 _ _ t252 t256 _ ?side1 ?side2 ?side3 ?side4 A5.out).mono ?_); (case side1 => repeat (first | exact (Kd.R_reads' HO251.out).2.2 | (with_reducible refine Kd.C_alloc ?_ _) | (with_reducible refine Kd.C_drewN ?_ _) | (with_reducible refine Kd.C_drew ?_))); (case side2 => exact (Kd.R_reads' HO251.out).2.1); (case side3 => repeat (first | exact (Kd.R_reads' HO255.out).2.2 | (with_reducible refine Kd.C_alloc ?_ _) | (with_reducible refine Kd.C_drewN ?_ _) | (with_reducible refine Kd.C_drew ?_))); (case side4 => exact (Kd.R_reads' HO255.out).2.1); rintro e w' ⟨rfl, ⟨nd, rfl⟩⟩; refine ⟨_, rfl, ?_⟩))
  go_ret
  exact ⟨by first | rfl | (simp [errW_none, errW_some] <;> rfl) | (simp [*, errW_none, errW_some] <;> rfl), by repeat (first | (with_reducible first | exact HB.out | apply below_alloc | apply pw_below_drewN | apply below_drew1) | exact HB.out)⟩

end Go.Proofs.YtibfocaldcjiiaaDoor.Q
