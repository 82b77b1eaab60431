/- Texts of this claim, merged by a program (wip/tools/merge.py): HFunc. -/
import Derived.Test.YtfohpboikknknaaGreatDoorF2
import Derived.Shelf.Abstract
namespace Go.Proofs.YtfohpboikknknaaGreatDoor.Q
open Go.RowKit Go.Proofs.YtfohpboikknknaaGreatDoorW.PrintWords Go.Proofs.YtfohpboikknknaaGreatDoorW.PrintLast Go.Proofs.YtfohpboikknknaaGreatDoorW.PrintMore
attribute [local go_sem] max2_int min2_int max_two min_two max_three min_three max_four min_four
set_option linter.unusedVariables false
set_option linter.unusedSimpArgs false
def PredB {α : Type} (g : Nat) (lb : Array Value) (enc : α → Value) (p : α → Bool) (w : World) : Prop :=
  ∀ (W : World) (x : α), Below w.heap.size w W → Calls Tryz.prog g (#[enc x] ++ lb) W fun e w' => e = .returned (.bool (p x)) ∧ Below W.heap.size W w'
theorem PredB.below {α : Type} {g : Nat} {lb : Array Value} {enc : α → Value} {p : α → Bool} {w w' : World} (h : PredB g lb enc p w) (hb : Below w.heap.size w w') : PredB g lb enc p w' :=
  fun W x hW => h W x (hb.trans (hW.mono hb.size))
def idxP {α : Type} (p : α → Bool) : List α → Int
  | [] => -1
  | x :: r => if p x then 0 else if idxP p r < 0 then -1 else idxP p r + 1
theorem idxP_ge {α : Type} (p : α → Bool) (l : List α) : -1 ≤ idxP p l := by
  induction l with
  | nil => simp [idxP]
  | cons x r ih => simp only [idxP]; repeat' split
                   all_goals omega
theorem idxP_any {α : Type} (p : α → Bool) (l : List α) : decide (0 ≤ idxP p l) = l.any p := by
  induction l with
  | nil => simp [idxP]
  | cons x r ih =>
    have hge := idxP_ge p r
    simp only [idxP, List.any_cons]
    by_cases hp : p x = true
    · simp [hp]
    · have hp' : p x = false := by simpa using hp
      simp only [hp', Bool.false_eq_true, if_false, Bool.false_or]
      rw [← ih]
      by_cases hn : idxP p r < 0
      · rw [if_pos hn]
        have : ¬ (0 ≤ idxP p r) := by omega
        simp [this]
      · rw [if_neg hn]
        have h1 : 0 ≤ idxP p r + 1 := by omega
        have h2 : 0 ≤ idxP p r := by omega
        simp [h1, h2]
theorem idxP_none {α : Type} (p : α → Bool) (l : List α) (h : ∀ x ∈ l, p x = false) : idxP p l = -1 := by
  induction l with
  | nil => rfl
  | cons x r ih =>
    simp only [idxP, h x (by simp), ih (fun y hy => h y (by simp [hy]))]; rfl
theorem idxP_hit {α : Type} (p : α → Bool) : ∀ (l : List α) (k : Nat) (hk : k < l.length), p l[k] = true → (∀ j (hj : j < k), p (l[j]'(by omega)) = false) → idxP p l = k
  | [], k, hk, _, _ => absurd hk (by simp)
  | x :: r, 0, _, h, _ => by simp only [idxP]; rw [if_pos (by simpa using h)]; rfl
  | x :: r, k + 1, hk, h, hj => by
    have h0 := hj 0 (by omega)
    have := idxP_hit p r k (by simpa using hk) (by simpa using h) (fun j hj' => by simpa using hj (j + 1) (by omega))
    simp only [idxP]
    rw [if_neg (by simpa using h0), this, if_neg (by omega)]; omega
section
variable {g : Nat} {lb : Array Value}
set_option maxHeartbeats 2000000 in
theorem indexFuncB (eg : ∀ args w, (callFunc g args).run Tryz.prog w = .ok (.enter g args) w) (p : Int → Bool) (A : Option Addr) (c : Nat) (xs : List Int) (w : World) (hp : PredB g lb (Value.int .u8) p w) (hr : Kd.C (Kd.int .u8) w A xs.length xs) (hc0 : xs.length ≤ c) :
    Calls Tryz.prog 210 #[.slice A xs.length c, .func (.func g) #[] lb] w fun e w' => e = .returned (.int .i64 (idxP p xs)) ∧ Below w.heap.size w w' := by
  have hbig := hr.2.1
  have HR := Aside0.mk hr
  have HP := Aside0.mk hp
  clear hr hp
  go_enter Tryz.func210, Tryz.ntmps210
  go_wp2
  go_loopg [5, 8] xs.length (fun gg _ s8 wr => ∃ kk : Nat, kk ≤ xs.length ∧ xs.length - kk ≤ gg ∧ s8 = .int .i64 kk ∧ Aside0 (Below w.heap.size w wr) ∧ Aside0 (∀ j (hj : j < xs.length), j < kk → p xs[j] = false))
  case atStart => exact ⟨0, Nat.zero_le _, by omega, rfl, ⟨Below.refl _ w⟩, ⟨fun j _ hj => absurd hj (Nat.not_lt_zero _)⟩⟩
  case round =>
    obtain ⟨kk, hkk, hg, rfl, BW, HA⟩ := hrel
    by_cases hlt : kk < xs.length
    · have hltz : (kk : Int) < (xs.length : Int) := by omega
      obtain ⟨ad, rfl, hx⟩ := Kd.at_int (Kd.C_below HR.out BW.out) (kk : Int) (by omega) hltz
      rw [Int.toNat_natCast] at hx
      have hcall := HP.out wr (rd xs kk) BW.out
      have hrd : Aside0 (rd xs kk = xs[kk]) := ⟨by simp [rd, rdOf, List.getD, hlt]⟩
      have hpr := hrd.out
      cases hq : p (rd xs kk) with
      | true =>
        rw [hq] at hcall
        have hq' := Aside0.mk hq
        clear hq hpr
        go_wp2_with (go_at_fn g; refine hcall.mono ?_; rintro e w' ⟨rfl, hb'⟩)
        go_ret
        refine ⟨?_, BW.out.trans (hb'.mono BW.out.size)⟩
        rw [idxP_hit p xs kk hlt (by rw [← hrd.out]; exact hq'.out) (fun j hj => HA.out j (by omega) hj)]
        rfl
      | false =>
        rw [hq] at hcall
        have hq' := Aside0.mk hq
        clear hq hpr
        go_wp2_with (go_at_fn g; refine hcall.mono ?_; rintro e w' ⟨rfl, hb'⟩)
        go_roundg (xs.length - (kk + 1))
        case measure => omega
        case rel =>
          refine ⟨kk + 1, by omega, by omega, by go_num, ⟨BW.out.trans (hb'.mono BW.out.size)⟩, ⟨fun j hj hjk => ?_⟩⟩
          rcases Nat.lt_or_ge j kk with h1 | h1
          · exact HA.out j hj h1
          · have : j = kk := by omega
            subst this
            rw [← hrd.out]; exact hq'.out
    · have hltz : ¬ (kk : Int) < (xs.length : Int) := by omega
      go_wp2
      go_ret
      refine ⟨?_, BW.out⟩
      rw [idxP_none p xs (fun x hx => by obtain ⟨j, hj, e⟩ := List.getElem_of_mem hx; rw [← e]; exact HA.out j hj (by omega))]
      rfl
theorem containsFuncB (eg : ∀ args w, (callFunc g args).run Tryz.prog w = .ok (.enter g args) w) (p : Int → Bool) (A : Option Addr) (c : Nat) (xs : List Int) (w : World) (hp : PredB g lb (Value.int .u8) p w) (hr : Kd.C (Kd.int .u8) w A xs.length xs) (hc0 : xs.length ≤ c) :
    Calls Tryz.prog 187 #[.slice A xs.length c, .func (.func g) #[] lb] w fun e w' => e = .returned (.bool (xs.any p)) ∧ Below w.heap.size w w' := by
  rw [← idxP_any p xs]
  have HC := Aside0.mk (indexFuncB eg p A c xs w hp hr hc0)
  clear hp hr eg
  go_enter Tryz.func187, Tryz.ntmps187
  go_wp2_with (go_at_call 210; refine HC.out.mono ?_; rintro e w' ⟨rfl, hb'⟩)
  go_ret
  exact ⟨rfl, hb'⟩
set_option maxHeartbeats 2000000 in
theorem indexFuncS (eg : ∀ args w, (callFunc g args).run Tryz.prog w = .ok (.enter g args) w) (p : ByteArray → Bool) (A : Option Addr) (c : Nat) (xs : List ByteArray) (w : World) (hp : PredB g lb Value.string p w) (hr : Kd.C Kd.string w A xs.length xs) (hc0 : xs.length ≤ c) :
    Calls Tryz.prog 186 #[.slice A xs.length c, .func (.func g) #[] lb] w fun e w' => e = .returned (.int .i64 (idxP p xs)) ∧ Below w.heap.size w w' := by
  have hbig := hr.2.1
  have HR := Aside0.mk hr
  have HP := Aside0.mk hp
  clear hr hp
  go_enter Tryz.func186, Tryz.ntmps186
  go_wp2
  go_loopg [5, 8] xs.length (fun gg _ s8 wr => ∃ kk : Nat, kk ≤ xs.length ∧ xs.length - kk ≤ gg ∧ s8 = .int .i64 kk ∧ Aside0 (Below w.heap.size w wr) ∧ Aside0 (∀ j (hj : j < xs.length), j < kk → p xs[j] = false))
  case atStart => exact ⟨0, Nat.zero_le _, by omega, rfl, ⟨Below.refl _ w⟩, ⟨fun j _ hj => absurd hj (Nat.not_lt_zero _)⟩⟩
  case round =>
    obtain ⟨kk, hkk, hg, rfl, BW, HA⟩ := hrel
    by_cases hlt : kk < xs.length
    · have hltz : (kk : Int) < (xs.length : Int) := by omega
      obtain ⟨ad, rfl, hx⟩ := Kd.at_string (Kd.C_below HR.out BW.out) (kk : Int) (by omega) hltz
      rw [Int.toNat_natCast] at hx
      have hcall := HP.out wr (rdOf ByteArray.empty xs kk) BW.out
      have hrd : Aside0 (rdOf ByteArray.empty xs kk = xs[kk]) := ⟨by simp [rdOf, List.getD, hlt]⟩
      have hpr := hrd.out
      cases hq : p (rdOf ByteArray.empty xs kk) with
      | true =>
        rw [hq] at hcall
        have hq' := Aside0.mk hq
        clear hq hpr
        go_wp2_with (go_at_fn g; refine hcall.mono ?_; rintro e w' ⟨rfl, hb'⟩)
        go_ret
        refine ⟨?_, BW.out.trans (hb'.mono BW.out.size)⟩
        rw [idxP_hit p xs kk hlt (by rw [← hrd.out]; exact hq'.out) (fun j hj => HA.out j (by omega) hj)]
        rfl
      | false =>
        rw [hq] at hcall
        have hq' := Aside0.mk hq
        clear hq hpr
        go_wp2_with (go_at_fn g; refine hcall.mono ?_; rintro e w' ⟨rfl, hb'⟩)
        go_roundg (xs.length - (kk + 1))
        case measure => omega
        case rel =>
          refine ⟨kk + 1, by omega, by omega, by go_num, ⟨BW.out.trans (hb'.mono BW.out.size)⟩, ⟨fun j hj hjk => ?_⟩⟩
          rcases Nat.lt_or_ge j kk with h1 | h1
          · exact HA.out j hj h1
          · have : j = kk := by omega
            subst this
            rw [← hrd.out]; exact hq'.out
    · have hltz : ¬ (kk : Int) < (xs.length : Int) := by omega
      go_wp2
      go_ret
      refine ⟨?_, BW.out⟩
      rw [idxP_none p xs (fun x hx => by obtain ⟨j, hj, e⟩ := List.getElem_of_mem hx; rw [← e]; exact HA.out j hj (by omega))]
      rfl
theorem containsFuncS (eg : ∀ args w, (callFunc g args).run Tryz.prog w = .ok (.enter g args) w) (p : ByteArray → Bool) (A : Option Addr) (c : Nat) (xs : List ByteArray) (w : World) (hp : PredB g lb Value.string p w) (hr : Kd.C Kd.string w A xs.length xs) (hc0 : xs.length ≤ c) :
    Calls Tryz.prog 146 #[.slice A xs.length c, .func (.func g) #[] lb] w fun e w' => e = .returned (.bool (xs.any p)) ∧ Below w.heap.size w w' := by
  rw [← idxP_any p xs]
  have HC := Aside0.mk (indexFuncS eg p A c xs w hp hr hc0)
  clear hp hr eg
  go_enter Tryz.func146, Tryz.ntmps146
  go_wp2_with (go_at_call 186; refine HC.out.mono ?_; rintro e w' ⟨rfl, hb'⟩)
  go_ret
  exact ⟨rfl, hb'⟩
end
end Go.Proofs.YtfohpboikknknaaGreatDoor.Q
