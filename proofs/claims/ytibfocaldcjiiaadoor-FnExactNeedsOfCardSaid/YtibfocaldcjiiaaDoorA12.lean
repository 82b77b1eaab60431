/- Texts of this claim, merged by a program (wip/tools/merge.py): Q16, Q17. -/
import Derived.Test.YtibfocaldcjiiaaDoorA1
import Derived.Test.YtibfocaldcjiiaaDoorA2
import Derived.Test.YtibfocaldcjiiaaDoorA3
import Derived.Test.YtibfocaldcjiiaaDoorA11
-- Printed by a program of this session (wip/tools/myprint.py) that runs the kit's print, hand-proved functions among the others.
namespace Go.Proofs.YtibfocaldcjiiaaDoor.Q
open Go.RowKit Go.Proofs.YtibfocaldcjiiaaDoorW.PrintWords Go.Proofs.YtibfocaldcjiiaaDoorW.PrintLast Go.Proofs.YtibfocaldcjiiaaDoorW.PrintMore
attribute [local go_sem] max2_int min2_int max_two min_two max_three min_three max_four min_four   -- for this text's walks alone
set_option linter.unusedVariables false
set_option linter.unusedSimpArgs false

/-! ### spec_l17Good: function 29 -/
mutual
def spec_l17Good.j0 : Nat → List (S50) → Bool → Option (Bool)
  | 0, _, _ => none
  | k + 1, x0, x28 => if x28 = true then (some false) else (spec_l17Good.l0 k x0 x0 (x0.length : Int) 0)
def spec_l17Good.l0 : Nat → List (S50) → List (S50) → Int → Int → Option (Bool)
  | 0, _, _, _, _ => none
  | k + 1, x0, x29, x30, x31 => if x31 < x30 then (if 0 ≤ x31 then (if x31 < (x29.length : Int) then ((spec_l17Alone.f ((rd_T50 x29 x31).f0) ((rd_T50 x29 x31).f1) ((rd_T50 x29 x31).f2) ((rd_T50 x29 x31).f3) ((rd_T50 x29 x31).f4) ((rd_T50 x29 x31).f5) ((rd_T50 x29 x31).f6) ((rd_T50 x29 x31).f7) x31).bind fun t190 => (if t190 = true then (if x31 > 0 then (if x31 ≤ (x0.length : Int) then ((spec_l17Next.f k (x0.take (x31 : Int).toNat) ((rd_T50 x29 x31).f0) ((rd_T50 x29 x31).f1) ((rd_T50 x29 x31).f2) ((rd_T50 x29 x31).f3) ((rd_T50 x29 x31).f4) ((rd_T50 x29 x31).f5) ((rd_T50 x29 x31).f6) ((rd_T50 x29 x31).f7)).bind fun t195 => (spec_l17Good.j2 k x0 x29 x30 x31 (!t195) ((rd_T50 x29 x31).f0) ((rd_T50 x29 x31).f1) ((rd_T50 x29 x31).f2) ((rd_T50 x29 x31).f3) ((rd_T50 x29 x31).f4) ((rd_T50 x29 x31).f5) ((rd_T50 x29 x31).f6) ((rd_T50 x29 x31).f7))) else (none)) else (spec_l17Good.j2 k x0 x29 x30 x31 false ((rd_T50 x29 x31).f0) ((rd_T50 x29 x31).f1) ((rd_T50 x29 x31).f2) ((rd_T50 x29 x31).f3) ((rd_T50 x29 x31).f4) ((rd_T50 x29 x31).f5) ((rd_T50 x29 x31).f6) ((rd_T50 x29 x31).f7))) else (spec_l17Good.j2 k x0 x29 x30 x31 true ((rd_T50 x29 x31).f0) ((rd_T50 x29 x31).f1) ((rd_T50 x29 x31).f2) ((rd_T50 x29 x31).f3) ((rd_T50 x29 x31).f4) ((rd_T50 x29 x31).f5) ((rd_T50 x29 x31).f6) ((rd_T50 x29 x31).f7)))) else (none)) else (none)) else (some true)
def spec_l17Good.j2 : Nat → List (S50) → List (S50) → Int → Int → Bool → ByteArray → Int → Int → Int → Int → Int → Int → ByteArray → Option (Bool)
  | 0, _, _, _, _, _, _, _, _, _, _, _, _, _ => none
  | k + 1, x0, x29, x30, x31, x51, x190000, x190001, x190002, x190003, x190004, x190005, x190006, x190007 => if x51 = true then (some false) else (if 0 ≤ x190006 then (if x190006 < (x0.length : Int) then (if ((rd_T50 x0 x190006).f6) = x190006 then (if ((rd_T50 x0 x190006).f1) = x190001 then (spec_l17Good.l0 k x0 x29 x30 (wrap64 (x31 + 1))) else (some false)) else (some false)) else (none)) else (none))
end
def spec_l17Good.f (k : Nat) (l0 : List (S50)) : Option (Bool) := (spec_l1In.f (l0.length : Int) 1 40).bind fun t185 => (if t185 = true then (if 0 < (l0.length : Int) then (if ((rd_T50 l0 0).f0).toList = ([46] : List UInt8) then (if ((rd_T50 l0 0).f1) = 2 then (spec_l17Good.j0 k l0 false) else (spec_l17Good.j0 k l0 (decide ((l0.length : Int) > 1)))) else (spec_l17Good.j0 k l0 true)) else (none)) else (spec_l17Good.j0 k l0 true))
theorem spec_l17Good.mono_l : ∀ k, (∀ y0 y1, LeO (spec_l17Good.j0 k y0 y1) (spec_l17Good.j0 (k + 1) y0 y1)) ∧ (∀ y0 y1 y2 y3, LeO (spec_l17Good.l0 k y0 y1 y2 y3) (spec_l17Good.l0 (k + 1) y0 y1 y2 y3)) ∧ (∀ y0 y1 y2 y3 y4 y5 y6 y7 y8 y9 y10 y11 y12, LeO (spec_l17Good.j2 k y0 y1 y2 y3 y4 y5 y6 y7 y8 y9 y10 y11 y12) (spec_l17Good.j2 (k + 1) y0 y1 y2 y3 y4 y5 y6 y7 y8 y9 y10 y11 y12))
  | 0 => ⟨fun _ _ r h => by simp [spec_l17Good.j0] at h, fun _ _ _ _ r h => by simp [spec_l17Good.l0] at h, fun _ _ _ _ _ _ _ _ _ _ _ _ _ r h => by simp [spec_l17Good.j2] at h⟩
  | k + 1 => by
    obtain ⟨ih0, ih1, ih2⟩ := spec_l17Good.mono_l k
    refine ⟨?_, ?_, ?_⟩
    · intro y0 y1
      unfold spec_l17Good.j0
      repeat' first
      | (with_reducible exact ih0 _ _)
      | (with_reducible exact ih1 _ _ _ _)
      | (with_reducible exact ih2 _ _ _ _ _ _ _ _ _ _ _ _ _)
      | (with_reducible exact spec_l17Next.mono _ _ _ _ _ _ _ _ _ _)
      | (with_reducible exact LeO.refl _)
      | (with_reducible exact LeO.none _)
      | (with_reducible refine LeO.ite ?_ ?_)
      | (with_reducible refine LeO.bind ?_ (fun _ => ?_))
      | exact ih0 _ _
      | exact ih1 _ _ _ _
      | exact ih2 _ _ _ _ _ _ _ _ _ _ _ _ _
      | exact spec_l17Next.mono _ _ _ _ _ _ _ _ _ _
      | exact LeO.none _
      | refine LeO.ite ?_ ?_
      | refine LeO.bind ?_ (fun _ => ?_)
    · intro y0 y1 y2 y3
      unfold spec_l17Good.l0
      repeat' first
      | (with_reducible exact ih0 _ _)
      | (with_reducible exact ih1 _ _ _ _)
      | (with_reducible exact ih2 _ _ _ _ _ _ _ _ _ _ _ _ _)
      | (with_reducible exact spec_l17Next.mono _ _ _ _ _ _ _ _ _ _)
      | (with_reducible exact LeO.refl _)
      | (with_reducible exact LeO.none _)
      | (with_reducible refine LeO.ite ?_ ?_)
      | (with_reducible refine LeO.bind ?_ (fun _ => ?_))
      | exact ih0 _ _
      | exact ih1 _ _ _ _
      | exact ih2 _ _ _ _ _ _ _ _ _ _ _ _ _
      | exact spec_l17Next.mono _ _ _ _ _ _ _ _ _ _
      | exact LeO.none _
      | refine LeO.ite ?_ ?_
      | refine LeO.bind ?_ (fun _ => ?_)
    · intro y0 y1 y2 y3 y4 y5 y6 y7 y8 y9 y10 y11 y12
      unfold spec_l17Good.j2
      repeat' first
      | (with_reducible exact ih0 _ _)
      | (with_reducible exact ih1 _ _ _ _)
      | (with_reducible exact ih2 _ _ _ _ _ _ _ _ _ _ _ _ _)
      | (with_reducible exact spec_l17Next.mono _ _ _ _ _ _ _ _ _ _)
      | (with_reducible exact LeO.refl _)
      | (with_reducible exact LeO.none _)
      | (with_reducible refine LeO.ite ?_ ?_)
      | (with_reducible refine LeO.bind ?_ (fun _ => ?_))
      | exact ih0 _ _
      | exact ih1 _ _ _ _
      | exact ih2 _ _ _ _ _ _ _ _ _ _ _ _ _
      | exact spec_l17Next.mono _ _ _ _ _ _ _ _ _ _
      | exact LeO.none _
      | refine LeO.ite ?_ ?_
      | refine LeO.bind ?_ (fun _ => ?_)
theorem spec_l17Good.mono : ∀ a0 k, LeO (spec_l17Good.f k a0) (spec_l17Good.f (k + 1) a0) := by
  intro a0 k
  obtain ⟨ih0, ih1, ih2⟩ := spec_l17Good.mono_l k
  unfold spec_l17Good.f
  repeat' first
      | (with_reducible exact ih0 _ _)
      | (with_reducible exact ih1 _ _ _ _)
      | (with_reducible exact ih2 _ _ _ _ _ _ _ _ _ _ _ _ _)
      | (with_reducible exact spec_l17Next.mono _ _ _ _ _ _ _ _ _ _)
      | (with_reducible exact LeO.refl _)
      | (with_reducible exact LeO.none _)
      | (with_reducible refine LeO.ite ?_ ?_)
      | (with_reducible refine LeO.bind ?_ (fun _ => ?_))
      | exact ih0 _ _
      | exact ih1 _ _ _ _
      | exact ih2 _ _ _ _ _ _ _ _ _ _ _ _ _
      | exact spec_l17Next.mono _ _ _ _ _ _ _ _ _ _
      | exact LeO.none _
      | refine LeO.ite ?_ ?_
      | refine LeO.bind ?_ (fun _ => ?_)
def spec_l17Good.T6 : Bool × List (List Nat × List Nat) := (true, [([], []), ([], []), ([0, 1], [0, 1]), ([2], [2]), ([3, 2], [3]), ([4], [4]), ([5, 4], [4, 5]), ([6, 4, 4], [4, 6]), ([7], [7]), ([7], [7]), ([8, 9, 7], [7, 8, 9]), ([7], [7]), ([10, 11, 7, 7], [7, 10, 11]), ([12, 7], [7, 12]), ([7, 13, 4], [4, 7, 13]), ([4, 14], [4, 14])])
def spec_l17Good.B6 : List Nat := [0, 0, 3, 7, 15, 31, 63, 127, 255, 255, 1023, 255, 4095, 8191, 16383, 32767]
theorem spec_l17Good.tab6 : rtab .any (opsOf Tryd.f29 6) = spec_l17Good.T6 := by kernel_rfl
theorem spec_l17Good.bits6 : waitsOk spec_l17Good.T6.2 spec_l17Good.B6 = true := by kernel_rfl
set_option maxHeartbeats 8000000 in
set_option maxRecDepth 100000 in
theorem spec_l17Good.calls (k : Nat) (A0 : Option Addr) (c0 : Nat) (l0 : List (S50)) (r : Bool) (w : World) (hr0 : Kd.C k50 w A0 l0.length l0) (hc0 : l0.length ≤ c0) (h : spec_l17Good.f k l0 = some r) :
    Calls Tryd.prog 29 #[.slice A0 l0.length c0] w fun e w' => e = .returned (.bool r) ∧ Below w.heap.size w w' := by
  have hu50 := Tryd.underlying50
  have HR0 := Aside0.mk hr0
  have HC0 := Aside0.mk hc0
  clear hr0 hc0
  have HB := Aside0.mk (Below.refl w.heap.size w)
  have H : ((spec_l1In.f (l0.length : Int) 1 40).bind fun t185 => (if t185 = true then (if 0 < (l0.length : Int) then (if ((rd_T50 l0 0).f0).toList = ([46] : List UInt8) then (if ((rd_T50 l0 0).f1) = 2 then (spec_l17Good.j0 k l0 false) else (spec_l17Good.j0 k l0 (decide ((l0.length : Int) > 1)))) else (spec_l17Good.j0 k l0 true)) else (none)) else (spec_l17Good.j0 k l0 true))) = some r := h
  clear h
  have HC2 := Aside0.mk H
  clear H
  go_enter Tryd.func29, Tryd.ntmps29
  go_upto_region 1 with (fail)
  go_cut [28] (fun v28 wc => ∃ (kq : Nat) (x28_1 : Bool), v28 = .bool x28_1 ∧ Aside0 (spec_l17Good.j0 kq l0 x28_1 = some r) ∧ Aside0 (kq ≤ k) ∧ Aside0 (Below w.heap.size w wc))
  case first =>
    have H := HC2.out
    clear HC2
    replace H := Option.bind_eq_some_iff.mp H
    obtain ⟨t185, A30, H⟩ := H
    replace H : (if t185 = true then (if 0 < (l0.length : Int) then (if ((rd_T50 l0 0).f0).toList = ([46] : List UInt8) then (if ((rd_T50 l0 0).f1) = 2 then (spec_l17Good.j0 k l0 false) else (spec_l17Good.j0 k l0 (decide ((l0.length : Int) > 1)))) else (spec_l17Good.j0 k l0 true)) else (none)) else (spec_l17Good.j0 k l0 true)) = some r := H
    have A3 := Aside0.mk A30
    clear A30
    by_cases c4 : t185 = true
    · subst c4
      have H1 : (if 0 < (l0.length : Int) then (if ((rd_T50 l0 0).f0).toList = ([46] : List UInt8) then (if ((rd_T50 l0 0).f1) = 2 then (spec_l17Good.j0 k l0 false) else (spec_l17Good.j0 k l0 (decide ((l0.length : Int) > 1)))) else (spec_l17Good.j0 k l0 true)) else (none)) = some r := by rw [if_pos rfl] at H; exact H
      clear H
      have H := H1
      clear H1
      by_cases c5 : 0 < (l0.length : Int)
      · rw [if_pos c5] at H
        have c5b0 : decide (0 < (l0.length : Int)) = true := decide_eq_true c5
        have c5b1 : decide (0 < l0.length) = true := decide_eq_true (by omega)
        clear c5
        (first | rw [c5b0] | (simp only [i64_w, i32_w]; rw [c5b0]) | skip)
        by_cases c6 : ((rd_T50 l0 0).f0).toList = ([46] : List UInt8)
        · rw [if_pos c6] at H
          have c6b0 : (((rd_T50 l0 0).f0).toList == ([46] : List UInt8)) = true := beq_iff_eq.mpr c6
          have c6b1 : (((rd_T50 l0 0).f0).toList != ([46] : List UInt8)) = false := bne_eq_false_iff_eq.mpr c6
          clear c6
          by_cases c7 : ((rd_T50 l0 0).f1) = 2
          · rw [if_pos c7] at H
            have c7b0 : (((rd_T50 l0 0).f1) == 2) = true := beq_iff_eq.mpr c7
            have c7b1 : (((rd_T50 l0 0).f1) != 2) = false := bne_eq_false_iff_eq.mpr c7
            clear c7
            have H' := Aside0.mk H
            clear H
            go_wp2_with (first | ((with_reducible refine gate_callee (f := 46) rfl ?_); refine goesL_ (some 8) rfl rfl Tryd.func46 (by kernel_rfl) rfl #[.int .i64 (l0.length : Int), .int .i64 1, .int .i64 40] rfl (by (try simp only [List.map_toArray, List.map_cons, List.map_nil]); first | done | rfl | (simp only [List.length_drop, List.length_take]; rfl)) ?_; (with_reducible refine (spec_l1In.calls (l0.length : Int) 1 40 true _ A3.out).mono ?_); rintro e w' ⟨rfl, ⟨nd, rfl⟩⟩; refine ⟨_, rfl, ?_⟩; have p186 : 0 ≤ (0 : Int) := (by omega); have q186 : 0 < (l0.length : Int) := of_decide_eq_true (by first | (with_reducible assumption) | assumption); obtain ⟨ad186, e186, hx186_0, hx186_1, hx186_2, hx186_3, hx186_4, hx186_5, hx186_6, hx186_7⟩ := at_T50 HR0.out 0 p186 q186; cases e186; have qi186 : (0 < l0.length) = True := eq_true (by omega); (try rw [show ((0 : Int)).toNat = 0 from rfl] at hx186_0); (try rw [show 0 * 8 = 0 from rfl] at hx186_0); (try rw [Addr.add_zero'] at hx186_0); (try rw [show ((0 : Int)).toNat = 0 from rfl] at hx186_1); (try rw [show 0 * 8 = 0 from rfl] at hx186_1); (try rw [Addr.add_zero'] at hx186_1); (try rw [show ((0 : Int)).toNat = 0 from rfl] at hx186_2); (try rw [show 0 * 8 = 0 from rfl] at hx186_2); (try rw [Addr.add_zero'] at hx186_2); (try rw [show ((0 : Int)).toNat = 0 from rfl] at hx186_3); (try rw [show 0 * 8 = 0 from rfl] at hx186_3); (try rw [Addr.add_zero'] at hx186_3); (try rw [show ((0 : Int)).toNat = 0 from rfl] at hx186_4); (try rw [show 0 * 8 = 0 from rfl] at hx186_4); (try rw [Addr.add_zero'] at hx186_4); (try rw [show ((0 : Int)).toNat = 0 from rfl] at hx186_5); (try rw [show 0 * 8 = 0 from rfl] at hx186_5); (try rw [Addr.add_zero'] at hx186_5); (try rw [show ((0 : Int)).toNat = 0 from rfl] at hx186_6); (try rw [show 0 * 8 = 0 from rfl] at hx186_6); (try rw [Addr.add_zero'] at hx186_6); (try rw [show ((0 : Int)).toNat = 0 from rfl] at hx186_7); (try rw [show 0 * 8 = 0 from rfl] at hx186_7); (try rw [Addr.add_zero'] at hx186_7); replace hx186_0 := (HB.out.cell (World.block_lt_of_cell? w _ hx186_0)).trans hx186_0; replace hx186_1 := (HB.out.cell (World.block_lt_of_cell? w _ hx186_1)).trans hx186_1; replace hx186_2 := (HB.out.cell (World.block_lt_of_cell? w _ hx186_2)).trans hx186_2; replace hx186_3 := (HB.out.cell (World.block_lt_of_cell? w _ hx186_3)).trans hx186_3; replace hx186_4 := (HB.out.cell (World.block_lt_of_cell? w _ hx186_4)).trans hx186_4; replace hx186_5 := (HB.out.cell (World.block_lt_of_cell? w _ hx186_5)).trans hx186_5; replace hx186_6 := (HB.out.cell (World.block_lt_of_cell? w _ hx186_6)).trans hx186_6; replace hx186_7 := (HB.out.cell (World.block_lt_of_cell? w _ hx186_7)).trans hx186_7; replace p186 := eq_true p186; replace q186 := eq_true q186; have p187 : 0 ≤ (0 : Int) := (by omega); have q187 : 0 < (l0.length : Int) := of_decide_eq_true (by first | (with_reducible assumption) | assumption); obtain ⟨ad187, e187, hx187_0, hx187_1, hx187_2, hx187_3, hx187_4, hx187_5, hx187_6, hx187_7⟩ := at_T50 HR0.out 0 p187 q187; obtain rfl : ad186 = ad187 := (by injection e187); have qi187 : (0 < l0.length) = True := eq_true (by omega); (try rw [show ((0 : Int)).toNat = 0 from rfl] at hx187_0); (try rw [show 0 * 8 = 0 from rfl] at hx187_0); (try rw [Addr.add_zero'] at hx187_0); (try rw [show ((0 : Int)).toNat = 0 from rfl] at hx187_1); (try rw [show 0 * 8 = 0 from rfl] at hx187_1); (try rw [Addr.add_zero'] at hx187_1); (try rw [show ((0 : Int)).toNat = 0 from rfl] at hx187_2); (try rw [show 0 * 8 = 0 from rfl] at hx187_2); (try rw [Addr.add_zero'] at hx187_2); (try rw [show ((0 : Int)).toNat = 0 from rfl] at hx187_3); (try rw [show 0 * 8 = 0 from rfl] at hx187_3); (try rw [Addr.add_zero'] at hx187_3); (try rw [show ((0 : Int)).toNat = 0 from rfl] at hx187_4); (try rw [show 0 * 8 = 0 from rfl] at hx187_4); (try rw [Addr.add_zero'] at hx187_4); (try rw [show ((0 : Int)).toNat = 0 from rfl] at hx187_5); (try rw [show 0 * 8 = 0 from rfl] at hx187_5); (try rw [Addr.add_zero'] at hx187_5); (try rw [show ((0 : Int)).toNat = 0 from rfl] at hx187_6); (try rw [show 0 * 8 = 0 from rfl] at hx187_6); (try rw [Addr.add_zero'] at hx187_6); (try rw [show ((0 : Int)).toNat = 0 from rfl] at hx187_7); (try rw [show 0 * 8 = 0 from rfl] at hx187_7); (try rw [Addr.add_zero'] at hx187_7); replace hx187_0 := (HB.out.cell (World.block_lt_of_cell? w _ hx187_0)).trans hx187_0; replace hx187_1 := (HB.out.cell (World.block_lt_of_cell? w _ hx187_1)).trans hx187_1; replace hx187_2 := (HB.out.cell (World.block_lt_of_cell? w _ hx187_2)).trans hx187_2; replace hx187_3 := (HB.out.cell (World.block_lt_of_cell? w _ hx187_3)).trans hx187_3; replace hx187_4 := (HB.out.cell (World.block_lt_of_cell? w _ hx187_4)).trans hx187_4; replace hx187_5 := (HB.out.cell (World.block_lt_of_cell? w _ hx187_5)).trans hx187_5; replace hx187_6 := (HB.out.cell (World.block_lt_of_cell? w _ hx187_6)).trans hx187_6; replace hx187_7 := (HB.out.cell (World.block_lt_of_cell? w _ hx187_7)).trans hx187_7; replace p187 := eq_true p187; replace q187 := eq_true q187))
            go_meet
            case rel => exact ⟨_, (false), (by first | rfl | (simp; done) | (simp [*]; done)), H', ⟨by first | omega | exact Nat.le_refl _⟩, ⟨by repeat (first | (with_reducible first | exact HB.out | apply below_alloc | apply pw_below_drewN | apply below_drew1) | exact HB.out)⟩⟩
          · rw [if_neg c7] at H
            have c7b0 : (((rd_T50 l0 0).f1) == 2) = false := beq_eq_false_iff_ne.mpr c7
            have c7b1 : (((rd_T50 l0 0).f1) != 2) = true := bne_iff_ne.mpr c7
            have H' := Aside0.mk H
            clear H
            go_wp2_with (first | ((with_reducible refine gate_callee (f := 46) rfl ?_); refine goesL_ (some 8) rfl rfl Tryd.func46 (by kernel_rfl) rfl #[.int .i64 (l0.length : Int), .int .i64 1, .int .i64 40] rfl (by (try simp only [List.map_toArray, List.map_cons, List.map_nil]); first | done | rfl | (simp only [List.length_drop, List.length_take]; rfl)) ?_; (with_reducible refine (spec_l1In.calls (l0.length : Int) 1 40 true _ A3.out).mono ?_); rintro e w' ⟨rfl, ⟨nd, rfl⟩⟩; refine ⟨_, rfl, ?_⟩; have p186 : 0 ≤ (0 : Int) := (by omega); have q186 : 0 < (l0.length : Int) := of_decide_eq_true (by first | (with_reducible assumption) | assumption); obtain ⟨ad186, e186, hx186_0, hx186_1, hx186_2, hx186_3, hx186_4, hx186_5, hx186_6, hx186_7⟩ := at_T50 HR0.out 0 p186 q186; cases e186; have qi186 : (0 < l0.length) = True := eq_true (by omega); (try rw [show ((0 : Int)).toNat = 0 from rfl] at hx186_0); (try rw [show 0 * 8 = 0 from rfl] at hx186_0); (try rw [Addr.add_zero'] at hx186_0); (try rw [show ((0 : Int)).toNat = 0 from rfl] at hx186_1); (try rw [show 0 * 8 = 0 from rfl] at hx186_1); (try rw [Addr.add_zero'] at hx186_1); (try rw [show ((0 : Int)).toNat = 0 from rfl] at hx186_2); (try rw [show 0 * 8 = 0 from rfl] at hx186_2); (try rw [Addr.add_zero'] at hx186_2); (try rw [show ((0 : Int)).toNat = 0 from rfl] at hx186_3); (try rw [show 0 * 8 = 0 from rfl] at hx186_3); (try rw [Addr.add_zero'] at hx186_3); (try rw [show ((0 : Int)).toNat = 0 from rfl] at hx186_4); (try rw [show 0 * 8 = 0 from rfl] at hx186_4); (try rw [Addr.add_zero'] at hx186_4); (try rw [show ((0 : Int)).toNat = 0 from rfl] at hx186_5); (try rw [show 0 * 8 = 0 from rfl] at hx186_5); (try rw [Addr.add_zero'] at hx186_5); (try rw [show ((0 : Int)).toNat = 0 from rfl] at hx186_6); (try rw [show 0 * 8 = 0 from rfl] at hx186_6); (try rw [Addr.add_zero'] at hx186_6); (try rw [show ((0 : Int)).toNat = 0 from rfl] at hx186_7); (try rw [show 0 * 8 = 0 from rfl] at hx186_7); (try rw [Addr.add_zero'] at hx186_7); replace hx186_0 := (HB.out.cell (World.block_lt_of_cell? w _ hx186_0)).trans hx186_0; replace hx186_1 := (HB.out.cell (World.block_lt_of_cell? w _ hx186_1)).trans hx186_1; replace hx186_2 := (HB.out.cell (World.block_lt_of_cell? w _ hx186_2)).trans hx186_2; replace hx186_3 := (HB.out.cell (World.block_lt_of_cell? w _ hx186_3)).trans hx186_3; replace hx186_4 := (HB.out.cell (World.block_lt_of_cell? w _ hx186_4)).trans hx186_4; replace hx186_5 := (HB.out.cell (World.block_lt_of_cell? w _ hx186_5)).trans hx186_5; replace hx186_6 := (HB.out.cell (World.block_lt_of_cell? w _ hx186_6)).trans hx186_6; replace hx186_7 := (HB.out.cell (World.block_lt_of_cell? w _ hx186_7)).trans hx186_7; replace p186 := eq_true p186; replace q186 := eq_true q186; have p187 : 0 ≤ (0 : Int) := (by omega); have q187 : 0 < (l0.length : Int) := of_decide_eq_true (by first | (with_reducible assumption) | assumption); obtain ⟨ad187, e187, hx187_0, hx187_1, hx187_2, hx187_3, hx187_4, hx187_5, hx187_6, hx187_7⟩ := at_T50 HR0.out 0 p187 q187; obtain rfl : ad186 = ad187 := (by injection e187); have qi187 : (0 < l0.length) = True := eq_true (by omega); (try rw [show ((0 : Int)).toNat = 0 from rfl] at hx187_0); (try rw [show 0 * 8 = 0 from rfl] at hx187_0); (try rw [Addr.add_zero'] at hx187_0); (try rw [show ((0 : Int)).toNat = 0 from rfl] at hx187_1); (try rw [show 0 * 8 = 0 from rfl] at hx187_1); (try rw [Addr.add_zero'] at hx187_1); (try rw [show ((0 : Int)).toNat = 0 from rfl] at hx187_2); (try rw [show 0 * 8 = 0 from rfl] at hx187_2); (try rw [Addr.add_zero'] at hx187_2); (try rw [show ((0 : Int)).toNat = 0 from rfl] at hx187_3); (try rw [show 0 * 8 = 0 from rfl] at hx187_3); (try rw [Addr.add_zero'] at hx187_3); (try rw [show ((0 : Int)).toNat = 0 from rfl] at hx187_4); (try rw [show 0 * 8 = 0 from rfl] at hx187_4); (try rw [Addr.add_zero'] at hx187_4); (try rw [show ((0 : Int)).toNat = 0 from rfl] at hx187_5); (try rw [show 0 * 8 = 0 from rfl] at hx187_5); (try rw [Addr.add_zero'] at hx187_5); (try rw [show ((0 : Int)).toNat = 0 from rfl] at hx187_6); (try rw [show 0 * 8 = 0 from rfl] at hx187_6); (try rw [Addr.add_zero'] at hx187_6); (try rw [show ((0 : Int)).toNat = 0 from rfl] at hx187_7); (try rw [show 0 * 8 = 0 from rfl] at hx187_7); (try rw [Addr.add_zero'] at hx187_7); replace hx187_0 := (HB.out.cell (World.block_lt_of_cell? w _ hx187_0)).trans hx187_0; replace hx187_1 := (HB.out.cell (World.block_lt_of_cell? w _ hx187_1)).trans hx187_1; replace hx187_2 := (HB.out.cell (World.block_lt_of_cell? w _ hx187_2)).trans hx187_2; replace hx187_3 := (HB.out.cell (World.block_lt_of_cell? w _ hx187_3)).trans hx187_3; replace hx187_4 := (HB.out.cell (World.block_lt_of_cell? w _ hx187_4)).trans hx187_4; replace hx187_5 := (HB.out.cell (World.block_lt_of_cell? w _ hx187_5)).trans hx187_5; replace hx187_6 := (HB.out.cell (World.block_lt_of_cell? w _ hx187_6)).trans hx187_6; replace hx187_7 := (HB.out.cell (World.block_lt_of_cell? w _ hx187_7)).trans hx187_7; replace p187 := eq_true p187; replace q187 := eq_true q187))
            go_meet
            case rel => exact ⟨_, (decide ((l0.length : Int) > 1)), (by first | rfl | (simp; done) | (simp [*]; done)), H', ⟨by first | omega | exact Nat.le_refl _⟩, ⟨by repeat (first | (with_reducible first | exact HB.out | apply below_alloc | apply pw_below_drewN | apply below_drew1) | exact HB.out)⟩⟩
        · rw [if_neg c6] at H
          have c6b0 : (((rd_T50 l0 0).f0).toList == ([46] : List UInt8)) = false := beq_eq_false_iff_ne.mpr c6
          have c6b1 : (((rd_T50 l0 0).f0).toList != ([46] : List UInt8)) = true := bne_iff_ne.mpr c6
          have H' := Aside0.mk H
          clear H
          go_wp2_with (first | ((with_reducible refine gate_callee (f := 46) rfl ?_); refine goesL_ (some 8) rfl rfl Tryd.func46 (by kernel_rfl) rfl #[.int .i64 (l0.length : Int), .int .i64 1, .int .i64 40] rfl (by (try simp only [List.map_toArray, List.map_cons, List.map_nil]); first | done | rfl | (simp only [List.length_drop, List.length_take]; rfl)) ?_; (with_reducible refine (spec_l1In.calls (l0.length : Int) 1 40 true _ A3.out).mono ?_); rintro e w' ⟨rfl, ⟨nd, rfl⟩⟩; refine ⟨_, rfl, ?_⟩; have p186 : 0 ≤ (0 : Int) := (by omega); have q186 : 0 < (l0.length : Int) := of_decide_eq_true (by first | (with_reducible assumption) | assumption); obtain ⟨ad186, e186, hx186_0, hx186_1, hx186_2, hx186_3, hx186_4, hx186_5, hx186_6, hx186_7⟩ := at_T50 HR0.out 0 p186 q186; cases e186; have qi186 : (0 < l0.length) = True := eq_true (by omega); (try rw [show ((0 : Int)).toNat = 0 from rfl] at hx186_0); (try rw [show 0 * 8 = 0 from rfl] at hx186_0); (try rw [Addr.add_zero'] at hx186_0); (try rw [show ((0 : Int)).toNat = 0 from rfl] at hx186_1); (try rw [show 0 * 8 = 0 from rfl] at hx186_1); (try rw [Addr.add_zero'] at hx186_1); (try rw [show ((0 : Int)).toNat = 0 from rfl] at hx186_2); (try rw [show 0 * 8 = 0 from rfl] at hx186_2); (try rw [Addr.add_zero'] at hx186_2); (try rw [show ((0 : Int)).toNat = 0 from rfl] at hx186_3); (try rw [show 0 * 8 = 0 from rfl] at hx186_3); (try rw [Addr.add_zero'] at hx186_3); (try rw [show ((0 : Int)).toNat = 0 from rfl] at hx186_4); (try rw [show 0 * 8 = 0 from rfl] at hx186_4); (try rw [Addr.add_zero'] at hx186_4); (try rw [show ((0 : Int)).toNat = 0 from rfl] at hx186_5); (try rw [show 0 * 8 = 0 from rfl] at hx186_5); (try rw [Addr.add_zero'] at hx186_5); (try rw [show ((0 : Int)).toNat = 0 from rfl] at hx186_6); (try rw [show 0 * 8 = 0 from rfl] at hx186_6); (try rw [Addr.add_zero'] at hx186_6); (try rw [show ((0 : Int)).toNat = 0 from rfl] at hx186_7); (try rw [show 0 * 8 = 0 from rfl] at hx186_7); (try rw [Addr.add_zero'] at hx186_7); replace hx186_0 := (HB.out.cell (World.block_lt_of_cell? w _ hx186_0)).trans hx186_0; replace hx186_1 := (HB.out.cell (World.block_lt_of_cell? w _ hx186_1)).trans hx186_1; replace hx186_2 := (HB.out.cell (World.block_lt_of_cell? w _ hx186_2)).trans hx186_2; replace hx186_3 := (HB.out.cell (World.block_lt_of_cell? w _ hx186_3)).trans hx186_3; replace hx186_4 := (HB.out.cell (World.block_lt_of_cell? w _ hx186_4)).trans hx186_4; replace hx186_5 := (HB.out.cell (World.block_lt_of_cell? w _ hx186_5)).trans hx186_5; replace hx186_6 := (HB.out.cell (World.block_lt_of_cell? w _ hx186_6)).trans hx186_6; replace hx186_7 := (HB.out.cell (World.block_lt_of_cell? w _ hx186_7)).trans hx186_7; replace p186 := eq_true p186; replace q186 := eq_true q186))
          go_meet
          case rel => exact ⟨_, (true), (by first | rfl | (simp; done) | (simp [*]; done)), H', ⟨by first | omega | exact Nat.le_refl _⟩, ⟨by repeat (first | (with_reducible first | exact HB.out | apply below_alloc | apply pw_below_drewN | apply below_drew1) | exact HB.out)⟩⟩
      · rw [if_neg c5] at H
        exact absurd H (by simp)
    · replace c4 := Bool.eq_false_iff.mpr c4
      subst c4
      have H1 : (spec_l17Good.j0 k l0 true) = some r := by rw [if_neg (show ¬ (false = true) by decide)] at H; exact H
      clear H
      have H := H1
      clear H1
      have H' := Aside0.mk H
      clear H
      go_wp2_with (first | ((with_reducible refine gate_callee (f := 46) rfl ?_); refine goesL_ (some 8) rfl rfl Tryd.func46 (by kernel_rfl) rfl #[.int .i64 (l0.length : Int), .int .i64 1, .int .i64 40] rfl (by (try simp only [List.map_toArray, List.map_cons, List.map_nil]); first | done | rfl | (simp only [List.length_drop, List.length_take]; rfl)) ?_; (with_reducible refine (spec_l1In.calls (l0.length : Int) 1 40 false _ A3.out).mono ?_); rintro e w' ⟨rfl, ⟨nd, rfl⟩⟩; refine ⟨_, rfl, ?_⟩))
      go_meet
      case rel => exact ⟨_, (true), (by first | rfl | (simp; done) | (simp [*]; done)), H', ⟨by first | omega | exact Nat.le_refl _⟩, ⟨by repeat (first | (with_reducible first | exact HB.out | apply below_alloc | apply pw_below_drewN | apply below_drew1) | exact HB.out)⟩⟩
  case rest =>
    clear HC2
    try clear p1
    try clear q1
    try clear hx1
    try clear qi1
    try clear c2
    try clear p2
    try clear c4
    try clear c5
    try clear c5b0
    try clear c5b1
    try clear c6
    try clear c6b0
    try clear c6b1
    try clear c7
    try clear c7b0
    try clear c7b1
    try clear hx186_0
    try clear hx186_1
    try clear hx186_2
    try clear hx186_3
    try clear hx186_4
    try clear hx186_5
    try clear hx186_6
    try clear hx186_7
    try clear hx187_0
    try clear hx187_1
    try clear hx187_2
    try clear hx187_3
    try clear hx187_4
    try clear hx187_5
    try clear hx187_6
    try clear hx187_7
    try clear p186
    try clear p187
    try clear q186
    try clear q187
    obtain ⟨kq, x28_1, rfl, HA, HJ1, HB⟩ := hcut
    cases kq with
    | zero => exact absurd HA.out (by simp [spec_l17Good.j0])
    | succ kj1 =>
      have H := HA.out
      clear HA
      simp only [spec_l17Good.j0] at H
      by_cases c8 : x28_1 = true
      · subst c8
        have H1 : (some false) = some r := by rw [if_pos rfl] at H; exact H
        clear H
        have H := H1
        clear H1
        obtain rfl := Option.some.inj H
        go_wp2
        go_ret
        exact ⟨by first | rfl | (simp [errW_none, errW_some] <;> rfl) | (simp [*, errW_none, errW_some] <;> rfl), by repeat (first | (with_reducible first | exact HB.out | apply below_alloc | apply pw_below_drewN | apply below_drew1) | exact HB.out)⟩
      · replace c8 := Bool.eq_false_iff.mpr c8
        subst c8
        have H1 : (spec_l17Good.l0 kj1 l0 l0 (l0.length : Int) 0) = some r := by rw [if_neg (show ¬ (false = true) by decide)] at H; exact H
        clear H
        have H := H1
        clear H1
        have H' := Aside0.mk H
        clear H
        go_wp2
        go_loopg [31] kj1 (fun kq v31 w' => ∃ (x31_2 : Int), v31 = .int .i64 x31_2 ∧ Aside0 (spec_l17Good.l0 kq l0 l0 (l0.length : Int) x31_2 = some r) ∧ Aside0 (kq ≤ kj1) ∧ Aside0 (Below w.heap.size w w'))
        case atStart => exact ⟨(0), (by first | rfl | (simp; done) | (simp [*]; done)), H', ⟨Nat.le_refl _⟩, ⟨by repeat (first | (with_reducible first | exact HB.out | apply below_alloc | apply pw_below_drewN | apply below_drew1) | exact HB.out)⟩⟩
        case round =>
          clear H'
          try clear p1
          try clear q1
          try clear hx1
          try clear qi1
          try clear c2
          try clear p2
          try clear c4
          try clear c5
          try clear c5b0
          try clear c5b1
          try clear c6
          try clear c6b0
          try clear c6b1
          try clear c7
          try clear c7b0
          try clear c7b1
          try clear c8
          try clear hx186_0
          try clear hx186_1
          try clear hx186_2
          try clear hx186_3
          try clear hx186_4
          try clear hx186_5
          try clear hx186_6
          try clear hx186_7
          try clear hx187_0
          try clear hx187_1
          try clear hx187_2
          try clear hx187_3
          try clear hx187_4
          try clear hx187_5
          try clear hx187_6
          try clear hx187_7
          try clear p1
          try clear p186
          try clear p187
          try clear p2
          try clear q1
          try clear q186
          try clear q187
          obtain ⟨x31_2, rfl, HA, HK2, HB⟩ := hrel
          cases gk with
          | zero => exact absurd HA.out (by simp [spec_l17Good.l0])
          | succ k2 =>
            have H := HA.out
            clear HA
            simp only [spec_l17Good.l0] at H
            by_cases c9 : x31_2 < (l0.length : Int)
            · rw [if_pos c9] at H
              have c9b0 : decide (x31_2 < (l0.length : Int)) = true := decide_eq_true c9
              clear c9
              by_cases c10 : 0 ≤ x31_2
              · rw [if_pos c10] at H
                have c10b0 : decide (0 ≤ x31_2) = true := decide_eq_true c10
                clear c10
                by_cases c11 : x31_2 < (l0.length : Int)
                · rw [if_pos c11] at H
                  have c11b0 : decide (x31_2 < (l0.length : Int)) = true := decide_eq_true c11
                  clear c11
                  have HC12 := Aside0.mk H
                  clear H
                  have p188 : 0 ≤ (x31_2 : Int) := of_decide_eq_true (by first | (with_reducible assumption) | assumption)
                  have q188 : x31_2 < (l0.length : Int) := of_decide_eq_true (by first | (with_reducible assumption) | assumption)
                  obtain ⟨ad188, e188, hx188_0, hx188_1, hx188_2, hx188_3, hx188_4, hx188_5, hx188_6, hx188_7⟩ := at_T50 HR0.out x31_2 p188 q188
                  cases e188
                  replace hx188_0 := (HB.out.cell (World.block_lt_of_cell? w _ hx188_0)).trans hx188_0
                  replace hx188_1 := (HB.out.cell (World.block_lt_of_cell? w _ hx188_1)).trans hx188_1
                  replace hx188_2 := (HB.out.cell (World.block_lt_of_cell? w _ hx188_2)).trans hx188_2
                  replace hx188_3 := (HB.out.cell (World.block_lt_of_cell? w _ hx188_3)).trans hx188_3
                  replace hx188_4 := (HB.out.cell (World.block_lt_of_cell? w _ hx188_4)).trans hx188_4
                  replace hx188_5 := (HB.out.cell (World.block_lt_of_cell? w _ hx188_5)).trans hx188_5
                  replace hx188_6 := (HB.out.cell (World.block_lt_of_cell? w _ hx188_6)).trans hx188_6
                  replace hx188_7 := (HB.out.cell (World.block_lt_of_cell? w _ hx188_7)).trans hx188_7
                  replace p188 := eq_true p188
                  replace q188 := eq_true q188
                  go_upto_region 6 with (first | ((with_reducible refine gate_dst (N := 4) rfl ?_); (try (refine gate_guard (by rfl) ?_; dsimp only)); refine box_event ?hg (N := 4) ?hd (cs := #[.string (⟨#[]⟩ : ByteArray), .int .i64 0, .int .i64 0, .int .i64 0, .int .i64 0, .int .i64 0, .int .i64 0, .string (⟨#[]⟩ : ByteArray)]) (t := 50) ?hr ?_; (case hd => rfl); (case hg => rfl); (case hr => first | (go_simp; done) | (go_simp; rfl)); intro gb189 hg w13 hbox hb; have n0_ := Aside0.mk (below_step (by repeat (first | (with_reducible first | exact HB.out | apply below_alloc | apply pw_below_drewN | apply below_drew1) | exact HB.out)) hb); have n1_ := Aside0.mk (hbox); have n2_ := Aside0.mk ((by rw [hg]; exact (below_size (by repeat (first | (with_reducible first | exact HB.out | apply below_alloc | apply pw_below_drewN | apply below_drew1) | exact HB.out))) : w.heap.size ≤ gb189)); have n3_ := Aside0.mk ((by rw [hg]; exact (below_size (by repeat (first | (with_reducible first | exact HB.out | apply below_alloc | apply pw_below_drewN | apply below_drew1) | exact HB.out))) : w.heap.size ≤ gb189)); clear HB; have HB := n0_; have BK189 := n1_; have GW189 := n2_; have GE189 := n3_; clear n0_ n1_ n2_ n3_; clear hb hbox hg; have hcz14_0 : w13.cell? ⟨gb189, 0, none⟩ = some (.string (⟨#[]⟩ : ByteArray)) := (blk_cell BK189.out 0).trans rfl; have hcz14_1 : w13.cell? ⟨gb189, 1, none⟩ = some (.int .i64 0) := (blk_cell BK189.out 1).trans rfl; have hcz14_2 : w13.cell? ⟨gb189, 2, none⟩ = some (.int .i64 0) := (blk_cell BK189.out 2).trans rfl; have hcz14_3 : w13.cell? ⟨gb189, 3, none⟩ = some (.int .i64 0) := (blk_cell BK189.out 3).trans rfl; have hcz14_4 : w13.cell? ⟨gb189, 4, none⟩ = some (.int .i64 0) := (blk_cell BK189.out 4).trans rfl; have hcz14_5 : w13.cell? ⟨gb189, 5, none⟩ = some (.int .i64 0) := (blk_cell BK189.out 5).trans rfl; have hcz14_6 : w13.cell? ⟨gb189, 6, none⟩ = some (.int .i64 0) := (blk_cell BK189.out 6).trans rfl; have hcz14_7 : w13.cell? ⟨gb189, 7, none⟩ = some (.string (⟨#[]⟩ : ByteArray)) := (blk_cell BK189.out 7).trans rfl; have hfz14_0 := blk_frozen BK189.out 0; have hfz14_1 := blk_frozen BK189.out 1; have hfz14_2 := blk_frozen BK189.out 2; have hfz14_3 := blk_frozen BK189.out 3; have hfz14_4 := blk_frozen BK189.out 4; have hfz14_5 := blk_frozen BK189.out 5; have hfz14_6 := blk_frozen BK189.out 6; have hfz14_7 := blk_frozen BK189.out 7))
                  (try simp only [Act.put, List.setIfInBounds_toArray, List.set_cons_zero, List.set_cons_succ])
                  go_cut [51] (fun v51 wc => ∃ (kq : Nat) (x51_11 : Bool), v51 = .bool x51_11 ∧ Aside0 (spec_l17Good.j2 kq l0 l0 (l0.length : Int) x31_2 x51_11 ((rd_T50 l0 x31_2).f0) ((rd_T50 l0 x31_2).f1) ((rd_T50 l0 x31_2).f2) ((rd_T50 l0 x31_2).f3) ((rd_T50 l0 x31_2).f4) ((rd_T50 l0 x31_2).f5) ((rd_T50 l0 x31_2).f6) ((rd_T50 l0 x31_2).f7) = some r) ∧ Aside0 (kq ≤ k2) ∧ Aside0 (wc.heap[gb189]? = some (.cells #[.string ((rd_T50 l0 x31_2).f0), .int .i64 ((rd_T50 l0 x31_2).f1), .int .i64 ((rd_T50 l0 x31_2).f2), .int .i64 ((rd_T50 l0 x31_2).f3), .int .i64 ((rd_T50 l0 x31_2).f4), .int .i64 ((rd_T50 l0 x31_2).f5), .int .i64 ((rd_T50 l0 x31_2).f6), .string ((rd_T50 l0 x31_2).f7)] 50 (0, 0))) ∧ Aside0 (Below w.heap.size w wc))
                  case first =>
                    have H := HC12.out
                    clear HC12
                    replace H := Option.bind_eq_some_iff.mp H
                    obtain ⟨t190, A150, H⟩ := H
                    replace H : (if t190 = true then (if x31_2 > 0 then (if x31_2 ≤ (l0.length : Int) then ((spec_l17Next.f k2 (l0.take (x31_2 : Int).toNat) ((rd_T50 l0 x31_2).f0) ((rd_T50 l0 x31_2).f1) ((rd_T50 l0 x31_2).f2) ((rd_T50 l0 x31_2).f3) ((rd_T50 l0 x31_2).f4) ((rd_T50 l0 x31_2).f5) ((rd_T50 l0 x31_2).f6) ((rd_T50 l0 x31_2).f7)).bind fun t195 => (spec_l17Good.j2 k2 l0 l0 (l0.length : Int) x31_2 (!t195) ((rd_T50 l0 x31_2).f0) ((rd_T50 l0 x31_2).f1) ((rd_T50 l0 x31_2).f2) ((rd_T50 l0 x31_2).f3) ((rd_T50 l0 x31_2).f4) ((rd_T50 l0 x31_2).f5) ((rd_T50 l0 x31_2).f6) ((rd_T50 l0 x31_2).f7))) else (none)) else (spec_l17Good.j2 k2 l0 l0 (l0.length : Int) x31_2 false ((rd_T50 l0 x31_2).f0) ((rd_T50 l0 x31_2).f1) ((rd_T50 l0 x31_2).f2) ((rd_T50 l0 x31_2).f3) ((rd_T50 l0 x31_2).f4) ((rd_T50 l0 x31_2).f5) ((rd_T50 l0 x31_2).f6) ((rd_T50 l0 x31_2).f7))) else (spec_l17Good.j2 k2 l0 l0 (l0.length : Int) x31_2 true ((rd_T50 l0 x31_2).f0) ((rd_T50 l0 x31_2).f1) ((rd_T50 l0 x31_2).f2) ((rd_T50 l0 x31_2).f3) ((rd_T50 l0 x31_2).f4) ((rd_T50 l0 x31_2).f5) ((rd_T50 l0 x31_2).f6) ((rd_T50 l0 x31_2).f7))) = some r := H
                    have A15 := Aside0.mk A150
                    clear A150
                    by_cases c16 : t190 = true
                    · subst c16
                      have H1 : (if x31_2 > 0 then (if x31_2 ≤ (l0.length : Int) then ((spec_l17Next.f k2 (l0.take (x31_2 : Int).toNat) ((rd_T50 l0 x31_2).f0) ((rd_T50 l0 x31_2).f1) ((rd_T50 l0 x31_2).f2) ((rd_T50 l0 x31_2).f3) ((rd_T50 l0 x31_2).f4) ((rd_T50 l0 x31_2).f5) ((rd_T50 l0 x31_2).f6) ((rd_T50 l0 x31_2).f7)).bind fun t195 => (spec_l17Good.j2 k2 l0 l0 (l0.length : Int) x31_2 (!t195) ((rd_T50 l0 x31_2).f0) ((rd_T50 l0 x31_2).f1) ((rd_T50 l0 x31_2).f2) ((rd_T50 l0 x31_2).f3) ((rd_T50 l0 x31_2).f4) ((rd_T50 l0 x31_2).f5) ((rd_T50 l0 x31_2).f6) ((rd_T50 l0 x31_2).f7))) else (none)) else (spec_l17Good.j2 k2 l0 l0 (l0.length : Int) x31_2 false ((rd_T50 l0 x31_2).f0) ((rd_T50 l0 x31_2).f1) ((rd_T50 l0 x31_2).f2) ((rd_T50 l0 x31_2).f3) ((rd_T50 l0 x31_2).f4) ((rd_T50 l0 x31_2).f5) ((rd_T50 l0 x31_2).f6) ((rd_T50 l0 x31_2).f7))) = some r := by rw [if_pos rfl] at H; exact H
                      clear H
                      have H := H1
                      clear H1
                      by_cases c17 : x31_2 > 0
                      · rw [if_pos c17] at H
                        have c17b0 : decide (0 < x31_2) = true := decide_eq_true c17
                        clear c17
                        (first | rw [c17b0] | (simp only [i64_w, i32_w]; rw [c17b0]) | skip)
                        have c18b0 := eq_true (of_decide_eq_true (by first | (with_reducible assumption) | assumption) : 0 ≤ x31_2)
                        by_cases c19 : x31_2 ≤ (l0.length : Int)
                        · rw [if_pos c19] at H
                          have c19b0 := eq_true c19
                          have c19b1 : decide (x31_2 ≤ (l0.length : Int)) = true := decide_eq_true c19
                          clear c19
                          obtain ⟨y191, hy191⟩ : ∃ y_ : List (S50), y_ = (l0.take (x31_2 : Int).toNat) := ⟨_, rfl⟩
                          replace H : ((spec_l17Next.f k2 y191 ((rd_T50 l0 x31_2).f0) ((rd_T50 l0 x31_2).f1) ((rd_T50 l0 x31_2).f2) ((rd_T50 l0 x31_2).f3) ((rd_T50 l0 x31_2).f4) ((rd_T50 l0 x31_2).f5) ((rd_T50 l0 x31_2).f6) ((rd_T50 l0 x31_2).f7)).bind fun t195 => (spec_l17Good.j2 k2 l0 l0 (l0.length : Int) x31_2 (!t195) ((rd_T50 l0 x31_2).f0) ((rd_T50 l0 x31_2).f1) ((rd_T50 l0 x31_2).f2) ((rd_T50 l0 x31_2).f3) ((rd_T50 l0 x31_2).f4) ((rd_T50 l0 x31_2).f5) ((rd_T50 l0 x31_2).f6) ((rd_T50 l0 x31_2).f7))) = some r := by first | (rw [hy191]; with_reducible exact H) | (have H2_ := (Option.bind_some _ _).symm.trans H; rw [hy191]; with_reducible exact H2_) | (have H2_ := (Option.bind_some _ _).symm.trans H; with_reducible exact H2_) | with_reducible exact H | (rw [hy191]; exact H) | exact H
                          have Ny191 := Aside0.mk hy191
                          clear hy191
                          replace H := Option.bind_eq_some_iff.mp H
                          obtain ⟨t195, A200, H⟩ := H
                          replace H : (spec_l17Good.j2 k2 l0 l0 (l0.length : Int) x31_2 (!t195) ((rd_T50 l0 x31_2).f0) ((rd_T50 l0 x31_2).f1) ((rd_T50 l0 x31_2).f2) ((rd_T50 l0 x31_2).f3) ((rd_T50 l0 x31_2).f4) ((rd_T50 l0 x31_2).f5) ((rd_T50 l0 x31_2).f6) ((rd_T50 l0 x31_2).f7)) = some r := H
                          have A20 := Aside0.mk A200
                          clear A200
                          have H' := Aside0.mk H
                          clear H
                          try go_wp2
                          have n0_ : Aside0 (((((((((w13.setCell ⟨gb189, 0, none⟩ (.string ((rd_T50 l0 x31_2).f0))).setCell ⟨gb189, 1, none⟩ (.int .i64 ((rd_T50 l0 x31_2).f1))).setCell ⟨gb189, 2, none⟩ (.int .i64 ((rd_T50 l0 x31_2).f2))).setCell ⟨gb189, 3, none⟩ (.int .i64 ((rd_T50 l0 x31_2).f3))).setCell ⟨gb189, 4, none⟩ (.int .i64 ((rd_T50 l0 x31_2).f4))).setCell ⟨gb189, 5, none⟩ (.int .i64 ((rd_T50 l0 x31_2).f5))).setCell ⟨gb189, 6, none⟩ (.int .i64 ((rd_T50 l0 x31_2).f6))).setCell ⟨gb189, 7, none⟩ (.string ((rd_T50 l0 x31_2).f7))).heap[gb189]? = some (.cells #[.string ((rd_T50 l0 x31_2).f0), .int .i64 ((rd_T50 l0 x31_2).f1), .int .i64 ((rd_T50 l0 x31_2).f2), .int .i64 ((rd_T50 l0 x31_2).f3), .int .i64 ((rd_T50 l0 x31_2).f4), .int .i64 ((rd_T50 l0 x31_2).f5), .int .i64 ((rd_T50 l0 x31_2).f6), .string ((rd_T50 l0 x31_2).f7)] 50 (0, 0))) := ⟨by (with_reducible repeat (first | refine blk_drewN ?_ _ | refine blk_drew ?_ | refine blk_alloc ?_ _)); refine blk_put (cs := #[.string ((rd_T50 l0 x31_2).f0), .int .i64 ((rd_T50 l0 x31_2).f1), .int .i64 ((rd_T50 l0 x31_2).f2), .int .i64 ((rd_T50 l0 x31_2).f3), .int .i64 ((rd_T50 l0 x31_2).f4), .int .i64 ((rd_T50 l0 x31_2).f5), .int .i64 ((rd_T50 l0 x31_2).f6), .string (⟨#[]⟩ : ByteArray)]) ?_ 7 _ rfl; (with_reducible repeat (first | refine blk_drewN ?_ _ | refine blk_drew ?_ | refine blk_alloc ?_ _)); refine blk_put (cs := #[.string ((rd_T50 l0 x31_2).f0), .int .i64 ((rd_T50 l0 x31_2).f1), .int .i64 ((rd_T50 l0 x31_2).f2), .int .i64 ((rd_T50 l0 x31_2).f3), .int .i64 ((rd_T50 l0 x31_2).f4), .int .i64 ((rd_T50 l0 x31_2).f5), .int .i64 0, .string (⟨#[]⟩ : ByteArray)]) ?_ 6 _ rfl; (with_reducible repeat (first | refine blk_drewN ?_ _ | refine blk_drew ?_ | refine blk_alloc ?_ _)); refine blk_put (cs := #[.string ((rd_T50 l0 x31_2).f0), .int .i64 ((rd_T50 l0 x31_2).f1), .int .i64 ((rd_T50 l0 x31_2).f2), .int .i64 ((rd_T50 l0 x31_2).f3), .int .i64 ((rd_T50 l0 x31_2).f4), .int .i64 0, .int .i64 0, .string (⟨#[]⟩ : ByteArray)]) ?_ 5 _ rfl; (with_reducible repeat (first | refine blk_drewN ?_ _ | refine blk_drew ?_ | refine blk_alloc ?_ _)); refine blk_put (cs := #[.string ((rd_T50 l0 x31_2).f0), .int .i64 ((rd_T50 l0 x31_2).f1), .int .i64 ((rd_T50 l0 x31_2).f2), .int .i64 ((rd_T50 l0 x31_2).f3), .int .i64 0, .int .i64 0, .int .i64 0, .string (⟨#[]⟩ : ByteArray)]) ?_ 4 _ rfl; (with_reducible repeat (first | refine blk_drewN ?_ _ | refine blk_drew ?_ | refine blk_alloc ?_ _)); refine blk_put (cs := #[.string ((rd_T50 l0 x31_2).f0), .int .i64 ((rd_T50 l0 x31_2).f1), .int .i64 ((rd_T50 l0 x31_2).f2), .int .i64 0, .int .i64 0, .int .i64 0, .int .i64 0, .string (⟨#[]⟩ : ByteArray)]) ?_ 3 _ rfl; (with_reducible repeat (first | refine blk_drewN ?_ _ | refine blk_drew ?_ | refine blk_alloc ?_ _)); refine blk_put (cs := #[.string ((rd_T50 l0 x31_2).f0), .int .i64 ((rd_T50 l0 x31_2).f1), .int .i64 0, .int .i64 0, .int .i64 0, .int .i64 0, .int .i64 0, .string (⟨#[]⟩ : ByteArray)]) ?_ 2 _ rfl; (with_reducible repeat (first | refine blk_drewN ?_ _ | refine blk_drew ?_ | refine blk_alloc ?_ _)); refine blk_put (cs := #[.string ((rd_T50 l0 x31_2).f0), .int .i64 0, .int .i64 0, .int .i64 0, .int .i64 0, .int .i64 0, .int .i64 0, .string (⟨#[]⟩ : ByteArray)]) ?_ 1 _ rfl; (with_reducible repeat (first | refine blk_drewN ?_ _ | refine blk_drew ?_ | refine blk_alloc ?_ _)); refine blk_put (cs := #[.string (⟨#[]⟩ : ByteArray), .int .i64 0, .int .i64 0, .int .i64 0, .int .i64 0, .int .i64 0, .int .i64 0, .string (⟨#[]⟩ : ByteArray)]) ?_ 0 _ rfl; (with_reducible repeat (first | refine blk_drewN ?_ _ | refine blk_drew ?_ | refine blk_alloc ?_ _)); exact BK189.out⟩
                          have n1_ : Aside0 (Below w.heap.size w ((((((((w13.setCell ⟨gb189, 0, none⟩ (.string ((rd_T50 l0 x31_2).f0))).setCell ⟨gb189, 1, none⟩ (.int .i64 ((rd_T50 l0 x31_2).f1))).setCell ⟨gb189, 2, none⟩ (.int .i64 ((rd_T50 l0 x31_2).f2))).setCell ⟨gb189, 3, none⟩ (.int .i64 ((rd_T50 l0 x31_2).f3))).setCell ⟨gb189, 4, none⟩ (.int .i64 ((rd_T50 l0 x31_2).f4))).setCell ⟨gb189, 5, none⟩ (.int .i64 ((rd_T50 l0 x31_2).f5))).setCell ⟨gb189, 6, none⟩ (.int .i64 ((rd_T50 l0 x31_2).f6))).setCell ⟨gb189, 7, none⟩ (.string ((rd_T50 l0 x31_2).f7)))) := ⟨by repeat (first | (with_reducible first | exact HB.out | apply below_alloc | apply pw_below_drewN | apply below_drew1 | refine below_set ?_ GE189.out) | exact HB.out)⟩
                          (try clear BK189)
                          (try clear HB)
                          generalize ((((((((w13.setCell ⟨gb189, 0, none⟩ (.string ((rd_T50 l0 x31_2).f0))).setCell ⟨gb189, 1, none⟩ (.int .i64 ((rd_T50 l0 x31_2).f1))).setCell ⟨gb189, 2, none⟩ (.int .i64 ((rd_T50 l0 x31_2).f2))).setCell ⟨gb189, 3, none⟩ (.int .i64 ((rd_T50 l0 x31_2).f3))).setCell ⟨gb189, 4, none⟩ (.int .i64 ((rd_T50 l0 x31_2).f4))).setCell ⟨gb189, 5, none⟩ (.int .i64 ((rd_T50 l0 x31_2).f5))).setCell ⟨gb189, 6, none⟩ (.int .i64 ((rd_T50 l0 x31_2).f6))).setCell ⟨gb189, 7, none⟩ (.string ((rd_T50 l0 x31_2).f7))) = w21 at n0_ n1_ ⊢
                          have BK189 := n0_
                          have HB := n1_
                          clear n0_ n1_
                          have n0_ := Aside0.mk (blk_drew BK189.out)
                          have n1_ := Aside0.mk (below_drew1 HB.out)
                          clear BK189
                          clear HB
                          have BK189 := n0_
                          have HB := n1_
                          clear n0_ n1_
                          refine start_ (n := 16) (S := fun w' => w'.cell? ⟨gb189, 0, none⟩ = some (.string ((rd_T50 l0 x31_2).f0)) ∧ w'.cell? ⟨gb189, 1, none⟩ = some (.int .i64 ((rd_T50 l0 x31_2).f1)) ∧ w'.cell? ⟨gb189, 2, none⟩ = some (.int .i64 ((rd_T50 l0 x31_2).f2)) ∧ w'.cell? ⟨gb189, 3, none⟩ = some (.int .i64 ((rd_T50 l0 x31_2).f3)) ∧ w'.cell? ⟨gb189, 4, none⟩ = some (.int .i64 ((rd_T50 l0 x31_2).f4)) ∧ w'.cell? ⟨gb189, 5, none⟩ = some (.int .i64 ((rd_T50 l0 x31_2).f5)) ∧ w'.cell? ⟨gb189, 6, none⟩ = some (.int .i64 ((rd_T50 l0 x31_2).f6)) ∧ w'.cell? ⟨gb189, 7, none⟩ = some (.string ((rd_T50 l0 x31_2).f7))) (ds := []) #[false, false, false, false, false, false, false, false, false, false, false, false, false, false, false, false] (by kernel_rfl) rfl rfl ⟨(blk_cell BK189.out 0).trans rfl, (blk_cell BK189.out 1).trans rfl, (blk_cell BK189.out 2).trans rfl, (blk_cell BK189.out 3).trans rfl, (blk_cell BK189.out 4).trans rfl, (blk_cell BK189.out 5).trans rfl, (blk_cell BK189.out 6).trans rfl, (blk_cell BK189.out 7).trans rfl⟩ (fun hHeld => ?_); refine with_tabW spec_l17Good.tab6 spec_l17Good.bits6 (fun HT_ HW_ => ?_)
                          generalize w21.drew = w22 at BK189 HB hHeld ⊢
                          refine pure_ (i := 1) (N := some 37) (v := ?_) (a' := ?_) #[false, true, false, false, false, false, false, false, false, false, false, false, false, false, false, false] rfl rfl (any_of HT_.out (by kernel_rfl)) (fun _ _ _ h => h) (Or.inl ⟨by rfl, ?_⟩) ?_ ?_
                          rotate_left
                          · intro w'
                            go_simp
                            with_reducible rfl
                          rotate_left
                          · simp only [Act.put, List.setIfInBounds_toArray, List.set_cons_zero, List.set_cons_succ, i64_w, i32_w]
                            rfl
                          refine take_ (i := 0) (N := some 36) (v := ?_) (a' := ?_) #[true, true, false, false, false, false, false, false, false, false, false, false, false, false, false, false] rfl rfl (take_ofW HT_.out HW_.out (by kernel_rfl)) (fun _ _ _ h => h) (Or.inl ⟨by rfl, ?_⟩) hHeld ?_ ?_
                          rotate_left
                          · rintro w' ⟨s0, s1, s2, s3, s4, s5, s6, s7⟩
                            go_simp
                            with_reducible rfl
                          rotate_left
                          · simp only [Act.put, List.setIfInBounds_toArray, List.set_cons_zero, List.set_cons_succ, i64_w, i32_w]
                            rfl
                          refine one_ (i := 2) (N := some 38) #[true, true, true, false, false, false, false, false, false, false, false, false, false, false, false, false] rfl rfl (one_of HT_.out (by kernel_rfl)) (by decide) (fun K hK => ?_)
                          refine goes_ Tryd.func59 (by kernel_rfl) rfl #[.agg #[.string ((rd_T50 l0 x31_2).f0), .int .i64 ((rd_T50 l0 x31_2).f1), .int .i64 ((rd_T50 l0 x31_2).f2), .int .i64 ((rd_T50 l0 x31_2).f3), .int .i64 ((rd_T50 l0 x31_2).f4), .int .i64 ((rd_T50 l0 x31_2).f5), .int .i64 ((rd_T50 l0 x31_2).f6), .string ((rd_T50 l0 x31_2).f7)], .int .i64 x31_2] (by rfl) rfl rfl (by (try simp only [List.map_toArray, List.map_cons, List.map_nil]); first | done | rfl | (simp only [List.length_drop, List.length_take]; rfl)) ?_
                          with_reducible refine (spec_l17Alone.calls ((rd_T50 l0 x31_2).f0) ((rd_T50 l0 x31_2).f1) ((rd_T50 l0 x31_2).f2) ((rd_T50 l0 x31_2).f3) ((rd_T50 l0 x31_2).f4) ((rd_T50 l0 x31_2).f5) ((rd_T50 l0 x31_2).f6) ((rd_T50 l0 x31_2).f7) x31_2 true _ A15.out).mono ?_
                          rintro e w23 ⟨rfl, hb⟩
                          refine ⟨_, rfl, ?_⟩
                          have n0_ := Aside0.mk (blk_below (g := gb189) (o := .cells #[.string ((rd_T50 l0 x31_2).f0), .int .i64 ((rd_T50 l0 x31_2).f1), .int .i64 ((rd_T50 l0 x31_2).f2), .int .i64 ((rd_T50 l0 x31_2).f3), .int .i64 ((rd_T50 l0 x31_2).f4), .int .i64 ((rd_T50 l0 x31_2).f5), .int .i64 ((rd_T50 l0 x31_2).f6), .string ((rd_T50 l0 x31_2).f7)] 50 (0, 0)) (by (with_reducible repeat (first | refine blk_drewN ?_ _ | refine blk_drew ?_ | refine blk_alloc ?_ _)); exact BK189.out) hb)
                          have n1_ := Aside0.mk (below_step (by repeat (first | (with_reducible first | exact HB.out | apply below_alloc | apply pw_below_drewN | apply below_drew1 | refine below_set ?_ GE189.out) | exact HB.out)) hb)
                          clear BK189
                          clear HB
                          have BK189 := n0_
                          have HB := n1_
                          clear n0_ n1_
                          (try clear hb)
                          (try clear hb2)
                          (try clear hk)
                          (try clear hi)
                          have q24 : (x31_2 : Int) ≤ ((l0.length : Int) : Int) := of_decide_eq_true (by first | (with_reducible assumption) | assumption)
                          obtain ⟨i024, hi024, _, hsz24, _⟩ := info_parts info50
                          have hroom24 : l0.length ≤ c0 := HC0.out
                          have hC24 : Kd.C k50 _ (some ad188) l0.length l0 := HR0.out
                          have hcut24 := cut_to (P := Tryd.prog) 25 50 .i64 Tryd.underlying25 hi024 (some ad188) l0.length c0 x31_2 (of_decide_eq_true (by first | (with_reducible assumption) | assumption)) q24 hroom24
                          have hr24 := Kd.C_take (m := (x31_2 : Int).toNat) hC24 (by omega)
                          have hy24 : y191.length = (x31_2 : Int).toNat := (by rw [Ny191.out, List.length_take]; omega)
                          rw [← Ny191.out] at hr24
                          rw [← hy24] at hcut24
                          have HR194 := Aside0.mk hr24
                          have HC194 := Aside0.mk (show y191.length ≤ c0 from by omega)
                          clear hr24 hC24 hroom24 hi024 hsz24
                          have KY24 := Aside0.mk hy24
                          clear hy24
                          replace q24 := eq_true q24
                          refine hK.out _ _ ⟨(blk_cell BK189.out 0).trans rfl, (blk_cell BK189.out 1).trans rfl, (blk_cell BK189.out 2).trans rfl, (blk_cell BK189.out 3).trans rfl, (blk_cell BK189.out 4).trans rfl, (blk_cell BK189.out 5).trans rfl, (blk_cell BK189.out 6).trans rfl, (blk_cell BK189.out 7).trans rfl⟩ (fun hHeld => ?_)
                          clear hK K
                          refine norm_ (a' := ?_) ?_ ?_
                          rotate_left
                          · show Act.put _ (some 38) _ = _
                            simp only [Act.put, List.setIfInBounds_toArray, List.set_cons_zero, List.set_cons_succ, i64_w, i32_w]
                            rfl
                          refine pure_ (i := 3) (N := some 39) (v := ?_) (a' := ?_) #[true, true, true, true, false, false, false, false, false, false, false, false, false, false, false, false] rfl rfl (any_of HT_.out (by kernel_rfl)) (fun _ _ _ h => h) (Or.inl ⟨by rfl, ?_⟩) ?_ ?_
                          rotate_left
                          · intro w'
                            go_simp
                            with_reducible rfl
                          rotate_left
                          · simp only [Act.put, List.setIfInBounds_toArray, List.set_cons_zero, List.set_cons_succ, i64_w, i32_w]
                            rfl
                          refine pure_ (i := 4) (N := some 40) (v := ?_) (a' := ?_) #[true, true, true, true, true, false, false, false, false, false, false, false, false, false, false, false] rfl rfl (any_of HT_.out (by kernel_rfl)) (fun _ _ _ h => h) (Or.inl ⟨by rfl, ?_⟩) ?_ ?_
                          rotate_left
                          · intro w'
                            go_simp
                            with_reducible rfl
                          rotate_left
                          · simp only [Act.put, List.setIfInBounds_toArray, List.set_cons_zero, List.set_cons_succ, i64_w, i32_w]
                            rfl
                          refine pure_ (i := 5) (N := some 41) (v := ?_) (a' := ?_) #[true, true, true, true, true, true, false, false, false, false, false, false, false, false, false, false] rfl rfl (any_of HT_.out (by kernel_rfl)) (fun _ _ _ h => h) (Or.inl ⟨by rfl, ?_⟩) ?_ ?_
                          rotate_left
                          · intro w'
                            go_simp
                            with_reducible rfl
                          rotate_left
                          · simp only [Act.put, List.setIfInBounds_toArray, List.set_cons_zero, List.set_cons_succ, i64_w, i32_w]
                            rfl
                          refine pure_ (i := 6) (N := some 42) (v := ?_) (a' := ?_) #[true, true, true, true, true, true, true, false, false, false, false, false, false, false, false, false] rfl rfl (any_of HT_.out (by kernel_rfl)) (fun _ _ _ h => h) (Or.inl ⟨by rfl, ?_⟩) ?_ ?_
                          rotate_left
                          · intro w'
                            go_simp
                            with_reducible rfl
                          rotate_left
                          · simp only [Act.put, List.setIfInBounds_toArray, List.set_cons_zero, List.set_cons_succ, i64_w, i32_w]
                            rfl
                          refine pure_ (i := 7) (N := some 43) (v := ?_) (a' := ?_) #[true, true, true, true, true, true, true, true, false, false, false, false, false, false, false, false] rfl rfl (any_of HT_.out (by kernel_rfl)) (fun _ _ _ h => h) (Or.inl ⟨by rfl, ?_⟩) ?_ ?_
                          rotate_left
                          · intro w'
                            go_simp
                            with_reducible rfl
                          rotate_left
                          · simp only [Act.put, List.setIfInBounds_toArray, List.set_cons_zero, List.set_cons_succ, i64_w, i32_w]
                            rfl
                          refine pure_ (i := 8) (N := some 44) (v := ?_) (a' := ?_) #[true, true, true, true, true, true, true, true, true, false, false, false, false, false, false, false] rfl rfl (any_of HT_.out (by kernel_rfl)) (fun _ _ _ h => h) (Or.inl ⟨by rfl, ?_⟩) ?_ ?_
                          rotate_left
                          · intro w'
                            go_simp
                            with_reducible rfl
                          rotate_left
                          · simp only [Act.put, List.setIfInBounds_toArray, List.set_cons_zero, List.set_cons_succ, i64_w, i32_w]
                            rfl
                          refine pure_ (i := 9) (N := some 45) (v := ?_) (a' := ?_) #[true, true, true, true, true, true, true, true, true, true, false, false, false, false, false, false] rfl rfl (any_of HT_.out (by kernel_rfl)) (fun _ _ _ h => h) (Or.inl ⟨by rfl, ?_⟩) ?_ ?_
                          rotate_left
                          · intro w'
                            go_simp
                            with_reducible rfl
                          rotate_left
                          · simp only [Act.put, List.setIfInBounds_toArray, List.set_cons_zero, List.set_cons_succ, i64_w, i32_w]
                            rfl
                          refine pure_ (i := 10) (N := some 46) (v := ?_) (a' := ?_) #[true, true, true, true, true, true, true, true, true, true, true, false, false, false, false, false] rfl rfl (any_of HT_.out (by kernel_rfl)) (fun _ _ _ h => h) (Or.inl ⟨by rfl, ?_⟩) ?_ ?_
                          rotate_left
                          · intro w'
                            go_simp
                            with_reducible rfl
                          rotate_left
                          · simp only [Act.put, List.setIfInBounds_toArray, List.set_cons_zero, List.set_cons_succ, i64_w, i32_w]
                            rfl
                          refine take_ (i := 11) (N := some 47) (v := ?_) (a' := ?_) #[true, true, true, true, true, true, true, true, true, true, true, true, false, false, false, false] rfl rfl (take_ofW HT_.out HW_.out (by kernel_rfl)) (fun _ _ _ h => h) (Or.inl ⟨by rfl, ?_⟩) hHeld ?_ ?_
                          rotate_left
                          · rintro w' ⟨s0, s1, s2, s3, s4, s5, s6, s7⟩
                            go_simp
                            with_reducible rfl
                          rotate_left
                          · simp only [Act.put, List.setIfInBounds_toArray, List.set_cons_zero, List.set_cons_succ, i64_w, i32_w]
                            rfl
                          refine one_ (i := 12) (N := some 48) #[true, true, true, true, true, true, true, true, true, true, true, true, true, false, false, false] rfl rfl (one_of HT_.out (by kernel_rfl)) (by decide) (fun K hK => ?_)
                          refine goes_ Tryd.func60 (by kernel_rfl) rfl #[.slice (some ad188) y191.length c0, .agg #[.string ((rd_T50 l0 x31_2).f0), .int .i64 ((rd_T50 l0 x31_2).f1), .int .i64 ((rd_T50 l0 x31_2).f2), .int .i64 ((rd_T50 l0 x31_2).f3), .int .i64 ((rd_T50 l0 x31_2).f4), .int .i64 ((rd_T50 l0 x31_2).f5), .int .i64 ((rd_T50 l0 x31_2).f6), .string ((rd_T50 l0 x31_2).f7)]] (by rfl) rfl rfl (by (try simp only [List.map_toArray, List.map_cons, List.map_nil]); first | done | rfl | (simp only [List.length_drop, List.length_take]; rfl)) ?_
                          with_reducible refine (spec_l17Next.calls k2 _ _ y191 ((rd_T50 l0 x31_2).f0) ((rd_T50 l0 x31_2).f1) ((rd_T50 l0 x31_2).f2) ((rd_T50 l0 x31_2).f3) ((rd_T50 l0 x31_2).f4) ((rd_T50 l0 x31_2).f5) ((rd_T50 l0 x31_2).f6) ((rd_T50 l0 x31_2).f7) t195 _ ?side1 ?side2 A20.out).mono ?_
                          (case side1 => repeat (first | exact (Kd.C_below HR194.out HB.out) | (with_reducible refine Kd.C_alloc ?_ _) | (with_reducible refine Kd.C_drewN ?_ _) | (with_reducible refine Kd.C_drew ?_)))
                          (case side2 => exact HC194.out)
                          rintro e w25 ⟨rfl, hb⟩
                          refine ⟨_, rfl, ?_⟩
                          have n0_ := Aside0.mk (blk_below (g := gb189) (o := .cells #[.string ((rd_T50 l0 x31_2).f0), .int .i64 ((rd_T50 l0 x31_2).f1), .int .i64 ((rd_T50 l0 x31_2).f2), .int .i64 ((rd_T50 l0 x31_2).f3), .int .i64 ((rd_T50 l0 x31_2).f4), .int .i64 ((rd_T50 l0 x31_2).f5), .int .i64 ((rd_T50 l0 x31_2).f6), .string ((rd_T50 l0 x31_2).f7)] 50 (0, 0)) (by (with_reducible repeat (first | refine blk_drewN ?_ _ | refine blk_drew ?_ | refine blk_alloc ?_ _)); exact BK189.out) hb)
                          have n1_ := Aside0.mk (below_step (by repeat (first | (with_reducible first | exact HB.out | apply below_alloc | apply pw_below_drewN | apply below_drew1 | refine below_set ?_ GE189.out) | exact HB.out)) hb)
                          clear BK189
                          clear HB
                          have BK189 := n0_
                          have HB := n1_
                          clear n0_ n1_
                          (try clear hb)
                          (try clear hb2)
                          (try clear hk)
                          (try clear hi)
                          refine hK.out _ _ ⟨(blk_cell BK189.out 0).trans rfl, (blk_cell BK189.out 1).trans rfl, (blk_cell BK189.out 2).trans rfl, (blk_cell BK189.out 3).trans rfl, (blk_cell BK189.out 4).trans rfl, (blk_cell BK189.out 5).trans rfl, (blk_cell BK189.out 6).trans rfl, (blk_cell BK189.out 7).trans rfl⟩ (fun hHeld => ?_)
                          clear hK K
                          refine norm_ (a' := ?_) ?_ ?_
                          rotate_left
                          · show Act.put _ (some 48) _ = _
                            simp only [Act.put, List.setIfInBounds_toArray, List.set_cons_zero, List.set_cons_succ, i64_w, i32_w]
                            rfl
                          refine pure_ (i := 13) (N := some 49) (v := ?_) (a' := ?_) #[true, true, true, true, true, true, true, true, true, true, true, true, true, true, false, false] rfl rfl (any_of HT_.out (by kernel_rfl)) (fun _ _ _ h => h) (Or.inl ⟨by rfl, ?_⟩) ?_ ?_
                          rotate_left
                          · intro w'
                            go_simp
                            with_reducible rfl
                          rotate_left
                          · simp only [Act.put, List.setIfInBounds_toArray, List.set_cons_zero, List.set_cons_succ, i64_w, i32_w]
                            rfl
                          refine pure_ (i := 14) (N := some 50) (v := ?_) (a' := ?_) #[true, true, true, true, true, true, true, true, true, true, true, true, true, true, true, false] rfl rfl (any_of HT_.out (by kernel_rfl)) (fun _ _ _ h => h) (Or.inl ⟨by rfl, ?_⟩) ?_ ?_
                          rotate_left
                          · intro w'
                            go_simp
                            with_reducible rfl
                          rotate_left
                          · simp only [Act.put, List.setIfInBounds_toArray, List.set_cons_zero, List.set_cons_succ, i64_w, i32_w]
                            rfl
                          refine pure_ (i := 15) (N := some 51) (v := ?_) (a' := ?_) #[true, true, true, true, true, true, true, true, true, true, true, true, true, true, true, true] rfl rfl (any_of HT_.out (by kernel_rfl)) (fun _ _ _ h => h) (Or.inl ⟨by rfl, ?_⟩) ?_ ?_
                          rotate_left
                          · intro w'
                            go_simp
                            with_reducible rfl
                          rotate_left
                          · simp only [Act.put, List.setIfInBounds_toArray, List.set_cons_zero, List.set_cons_succ, i64_w, i32_w]
                            rfl
                          refine done_ (done_of HT_.out (by kernel_rfl)) ?_
                          try go_wp2
                          go_meet
                          case rel => exact ⟨_, (!t195), (by first | rfl | (simp; done) | (simp [*]; done)), H', ⟨by have := HJ1.out; have := HK2.out; first | omega | exact Nat.le_refl _⟩, ⟨by (with_reducible repeat (first | refine blk_drewN ?_ _ | refine blk_drew ?_ | refine blk_alloc ?_ _)); exact BK189.out⟩, ⟨by repeat (first | (with_reducible first | exact HB.out | apply below_alloc | apply pw_below_drewN | apply below_drew1 | refine below_set ?_ GE189.out) | exact HB.out)⟩⟩
                        · rw [if_neg c19] at H
                          exact absurd H (by simp)
                      · rw [if_neg c17] at H
                        have c17b0 : decide (0 < x31_2) = false := decide_eq_false c17
                        clear c17
                        (first | rw [c17b0] | (simp only [i64_w, i32_w]; rw [c17b0]) | skip)
                        have H' := Aside0.mk H
                        clear H
                        try go_wp2
                        have n0_ : Aside0 (((((((((w13.setCell ⟨gb189, 0, none⟩ (.string ((rd_T50 l0 x31_2).f0))).setCell ⟨gb189, 1, none⟩ (.int .i64 ((rd_T50 l0 x31_2).f1))).setCell ⟨gb189, 2, none⟩ (.int .i64 ((rd_T50 l0 x31_2).f2))).setCell ⟨gb189, 3, none⟩ (.int .i64 ((rd_T50 l0 x31_2).f3))).setCell ⟨gb189, 4, none⟩ (.int .i64 ((rd_T50 l0 x31_2).f4))).setCell ⟨gb189, 5, none⟩ (.int .i64 ((rd_T50 l0 x31_2).f5))).setCell ⟨gb189, 6, none⟩ (.int .i64 ((rd_T50 l0 x31_2).f6))).setCell ⟨gb189, 7, none⟩ (.string ((rd_T50 l0 x31_2).f7))).heap[gb189]? = some (.cells #[.string ((rd_T50 l0 x31_2).f0), .int .i64 ((rd_T50 l0 x31_2).f1), .int .i64 ((rd_T50 l0 x31_2).f2), .int .i64 ((rd_T50 l0 x31_2).f3), .int .i64 ((rd_T50 l0 x31_2).f4), .int .i64 ((rd_T50 l0 x31_2).f5), .int .i64 ((rd_T50 l0 x31_2).f6), .string ((rd_T50 l0 x31_2).f7)] 50 (0, 0))) := ⟨by (with_reducible repeat (first | refine blk_drewN ?_ _ | refine blk_drew ?_ | refine blk_alloc ?_ _)); refine blk_put (cs := #[.string ((rd_T50 l0 x31_2).f0), .int .i64 ((rd_T50 l0 x31_2).f1), .int .i64 ((rd_T50 l0 x31_2).f2), .int .i64 ((rd_T50 l0 x31_2).f3), .int .i64 ((rd_T50 l0 x31_2).f4), .int .i64 ((rd_T50 l0 x31_2).f5), .int .i64 ((rd_T50 l0 x31_2).f6), .string (⟨#[]⟩ : ByteArray)]) ?_ 7 _ rfl; (with_reducible repeat (first | refine blk_drewN ?_ _ | refine blk_drew ?_ | refine blk_alloc ?_ _)); refine blk_put (cs := #[.string ((rd_T50 l0 x31_2).f0), .int .i64 ((rd_T50 l0 x31_2).f1), .int .i64 ((rd_T50 l0 x31_2).f2), .int .i64 ((rd_T50 l0 x31_2).f3), .int .i64 ((rd_T50 l0 x31_2).f4), .int .i64 ((rd_T50 l0 x31_2).f5), .int .i64 0, .string (⟨#[]⟩ : ByteArray)]) ?_ 6 _ rfl; (with_reducible repeat (first | refine blk_drewN ?_ _ | refine blk_drew ?_ | refine blk_alloc ?_ _)); refine blk_put (cs := #[.string ((rd_T50 l0 x31_2).f0), .int .i64 ((rd_T50 l0 x31_2).f1), .int .i64 ((rd_T50 l0 x31_2).f2), .int .i64 ((rd_T50 l0 x31_2).f3), .int .i64 ((rd_T50 l0 x31_2).f4), .int .i64 0, .int .i64 0, .string (⟨#[]⟩ : ByteArray)]) ?_ 5 _ rfl; (with_reducible repeat (first | refine blk_drewN ?_ _ | refine blk_drew ?_ | refine blk_alloc ?_ _)); refine blk_put (cs := #[.string ((rd_T50 l0 x31_2).f0), .int .i64 ((rd_T50 l0 x31_2).f1), .int .i64 ((rd_T50 l0 x31_2).f2), .int .i64 ((rd_T50 l0 x31_2).f3), .int .i64 0, .int .i64 0, .int .i64 0, .string (⟨#[]⟩ : ByteArray)]) ?_ 4 _ rfl; (with_reducible repeat (first | refine blk_drewN ?_ _ | refine blk_drew ?_ | refine blk_alloc ?_ _)); refine blk_put (cs := #[.string ((rd_T50 l0 x31_2).f0), .int .i64 ((rd_T50 l0 x31_2).f1), .int .i64 ((rd_T50 l0 x31_2).f2), .int .i64 0, .int .i64 0, .int .i64 0, .int .i64 0, .string (⟨#[]⟩ : ByteArray)]) ?_ 3 _ rfl; (with_reducible repeat (first | refine blk_drewN ?_ _ | refine blk_drew ?_ | refine blk_alloc ?_ _)); refine blk_put (cs := #[.string ((rd_T50 l0 x31_2).f0), .int .i64 ((rd_T50 l0 x31_2).f1), .int .i64 0, .int .i64 0, .int .i64 0, .int .i64 0, .int .i64 0, .string (⟨#[]⟩ : ByteArray)]) ?_ 2 _ rfl; (with_reducible repeat (first | refine blk_drewN ?_ _ | refine blk_drew ?_ | refine blk_alloc ?_ _)); refine blk_put (cs := #[.string ((rd_T50 l0 x31_2).f0), .int .i64 0, .int .i64 0, .int .i64 0, .int .i64 0, .int .i64 0, .int .i64 0, .string (⟨#[]⟩ : ByteArray)]) ?_ 1 _ rfl; (with_reducible repeat (first | refine blk_drewN ?_ _ | refine blk_drew ?_ | refine blk_alloc ?_ _)); refine blk_put (cs := #[.string (⟨#[]⟩ : ByteArray), .int .i64 0, .int .i64 0, .int .i64 0, .int .i64 0, .int .i64 0, .int .i64 0, .string (⟨#[]⟩ : ByteArray)]) ?_ 0 _ rfl; (with_reducible repeat (first | refine blk_drewN ?_ _ | refine blk_drew ?_ | refine blk_alloc ?_ _)); exact BK189.out⟩
                        have n1_ : Aside0 (Below w.heap.size w ((((((((w13.setCell ⟨gb189, 0, none⟩ (.string ((rd_T50 l0 x31_2).f0))).setCell ⟨gb189, 1, none⟩ (.int .i64 ((rd_T50 l0 x31_2).f1))).setCell ⟨gb189, 2, none⟩ (.int .i64 ((rd_T50 l0 x31_2).f2))).setCell ⟨gb189, 3, none⟩ (.int .i64 ((rd_T50 l0 x31_2).f3))).setCell ⟨gb189, 4, none⟩ (.int .i64 ((rd_T50 l0 x31_2).f4))).setCell ⟨gb189, 5, none⟩ (.int .i64 ((rd_T50 l0 x31_2).f5))).setCell ⟨gb189, 6, none⟩ (.int .i64 ((rd_T50 l0 x31_2).f6))).setCell ⟨gb189, 7, none⟩ (.string ((rd_T50 l0 x31_2).f7)))) := ⟨by repeat (first | (with_reducible first | exact HB.out | apply below_alloc | apply pw_below_drewN | apply below_drew1 | refine below_set ?_ GE189.out) | exact HB.out)⟩
                        (try clear BK189)
                        (try clear HB)
                        generalize ((((((((w13.setCell ⟨gb189, 0, none⟩ (.string ((rd_T50 l0 x31_2).f0))).setCell ⟨gb189, 1, none⟩ (.int .i64 ((rd_T50 l0 x31_2).f1))).setCell ⟨gb189, 2, none⟩ (.int .i64 ((rd_T50 l0 x31_2).f2))).setCell ⟨gb189, 3, none⟩ (.int .i64 ((rd_T50 l0 x31_2).f3))).setCell ⟨gb189, 4, none⟩ (.int .i64 ((rd_T50 l0 x31_2).f4))).setCell ⟨gb189, 5, none⟩ (.int .i64 ((rd_T50 l0 x31_2).f5))).setCell ⟨gb189, 6, none⟩ (.int .i64 ((rd_T50 l0 x31_2).f6))).setCell ⟨gb189, 7, none⟩ (.string ((rd_T50 l0 x31_2).f7))) = w26 at n0_ n1_ ⊢
                        have BK189 := n0_
                        have HB := n1_
                        clear n0_ n1_
                        have n0_ := Aside0.mk (blk_drew BK189.out)
                        have n1_ := Aside0.mk (below_drew1 HB.out)
                        clear BK189
                        clear HB
                        have BK189 := n0_
                        have HB := n1_
                        clear n0_ n1_
                        refine start_ (n := 16) (S := fun w' => w'.cell? ⟨gb189, 0, none⟩ = some (.string ((rd_T50 l0 x31_2).f0)) ∧ w'.cell? ⟨gb189, 1, none⟩ = some (.int .i64 ((rd_T50 l0 x31_2).f1)) ∧ w'.cell? ⟨gb189, 2, none⟩ = some (.int .i64 ((rd_T50 l0 x31_2).f2)) ∧ w'.cell? ⟨gb189, 3, none⟩ = some (.int .i64 ((rd_T50 l0 x31_2).f3)) ∧ w'.cell? ⟨gb189, 4, none⟩ = some (.int .i64 ((rd_T50 l0 x31_2).f4)) ∧ w'.cell? ⟨gb189, 5, none⟩ = some (.int .i64 ((rd_T50 l0 x31_2).f5)) ∧ w'.cell? ⟨gb189, 6, none⟩ = some (.int .i64 ((rd_T50 l0 x31_2).f6)) ∧ w'.cell? ⟨gb189, 7, none⟩ = some (.string ((rd_T50 l0 x31_2).f7))) (ds := []) #[false, false, false, false, false, false, false, false, false, false, false, false, false, false, false, false] (by kernel_rfl) rfl rfl ⟨(blk_cell BK189.out 0).trans rfl, (blk_cell BK189.out 1).trans rfl, (blk_cell BK189.out 2).trans rfl, (blk_cell BK189.out 3).trans rfl, (blk_cell BK189.out 4).trans rfl, (blk_cell BK189.out 5).trans rfl, (blk_cell BK189.out 6).trans rfl, (blk_cell BK189.out 7).trans rfl⟩ (fun hHeld => ?_); refine with_tabW spec_l17Good.tab6 spec_l17Good.bits6 (fun HT_ HW_ => ?_)
                        generalize w26.drew = w27 at BK189 HB hHeld ⊢
                        refine pure_ (i := 1) (N := some 37) (v := ?_) (a' := ?_) #[false, true, false, false, false, false, false, false, false, false, false, false, false, false, false, false] rfl rfl (any_of HT_.out (by kernel_rfl)) (fun _ _ _ h => h) (Or.inl ⟨by rfl, ?_⟩) ?_ ?_
                        rotate_left
                        · intro w'
                          go_simp
                          with_reducible rfl
                        rotate_left
                        · simp only [Act.put, List.setIfInBounds_toArray, List.set_cons_zero, List.set_cons_succ, i64_w, i32_w]
                          rfl
                        refine take_ (i := 0) (N := some 36) (v := ?_) (a' := ?_) #[true, true, false, false, false, false, false, false, false, false, false, false, false, false, false, false] rfl rfl (take_ofW HT_.out HW_.out (by kernel_rfl)) (fun _ _ _ h => h) (Or.inl ⟨by rfl, ?_⟩) hHeld ?_ ?_
                        rotate_left
                        · rintro w' ⟨s0, s1, s2, s3, s4, s5, s6, s7⟩
                          go_simp
                          with_reducible rfl
                        rotate_left
                        · simp only [Act.put, List.setIfInBounds_toArray, List.set_cons_zero, List.set_cons_succ, i64_w, i32_w]
                          rfl
                        refine one_ (i := 2) (N := some 38) #[true, true, true, false, false, false, false, false, false, false, false, false, false, false, false, false] rfl rfl (one_of HT_.out (by kernel_rfl)) (by decide) (fun K hK => ?_)
                        refine goes_ Tryd.func59 (by kernel_rfl) rfl #[.agg #[.string ((rd_T50 l0 x31_2).f0), .int .i64 ((rd_T50 l0 x31_2).f1), .int .i64 ((rd_T50 l0 x31_2).f2), .int .i64 ((rd_T50 l0 x31_2).f3), .int .i64 ((rd_T50 l0 x31_2).f4), .int .i64 ((rd_T50 l0 x31_2).f5), .int .i64 ((rd_T50 l0 x31_2).f6), .string ((rd_T50 l0 x31_2).f7)], .int .i64 x31_2] (by rfl) rfl rfl (by (try simp only [List.map_toArray, List.map_cons, List.map_nil]); first | done | rfl | (simp only [List.length_drop, List.length_take]; rfl)) ?_
                        with_reducible refine (spec_l17Alone.calls ((rd_T50 l0 x31_2).f0) ((rd_T50 l0 x31_2).f1) ((rd_T50 l0 x31_2).f2) ((rd_T50 l0 x31_2).f3) ((rd_T50 l0 x31_2).f4) ((rd_T50 l0 x31_2).f5) ((rd_T50 l0 x31_2).f6) ((rd_T50 l0 x31_2).f7) x31_2 true _ A15.out).mono ?_
                        rintro e w28 ⟨rfl, hb⟩
                        refine ⟨_, rfl, ?_⟩
                        have n0_ := Aside0.mk (blk_below (g := gb189) (o := .cells #[.string ((rd_T50 l0 x31_2).f0), .int .i64 ((rd_T50 l0 x31_2).f1), .int .i64 ((rd_T50 l0 x31_2).f2), .int .i64 ((rd_T50 l0 x31_2).f3), .int .i64 ((rd_T50 l0 x31_2).f4), .int .i64 ((rd_T50 l0 x31_2).f5), .int .i64 ((rd_T50 l0 x31_2).f6), .string ((rd_T50 l0 x31_2).f7)] 50 (0, 0)) (by (with_reducible repeat (first | refine blk_drewN ?_ _ | refine blk_drew ?_ | refine blk_alloc ?_ _)); exact BK189.out) hb)
                        have n1_ := Aside0.mk (below_step (by repeat (first | (with_reducible first | exact HB.out | apply below_alloc | apply pw_below_drewN | apply below_drew1 | refine below_set ?_ GE189.out) | exact HB.out)) hb)
                        clear BK189
                        clear HB
                        have BK189 := n0_
                        have HB := n1_
                        clear n0_ n1_
                        (try clear hb)
                        (try clear hb2)
                        (try clear hk)
                        (try clear hi)
                        refine hK.out _ _ ⟨(blk_cell BK189.out 0).trans rfl, (blk_cell BK189.out 1).trans rfl, (blk_cell BK189.out 2).trans rfl, (blk_cell BK189.out 3).trans rfl, (blk_cell BK189.out 4).trans rfl, (blk_cell BK189.out 5).trans rfl, (blk_cell BK189.out 6).trans rfl, (blk_cell BK189.out 7).trans rfl⟩ (fun hHeld => ?_)
                        clear hK K
                        refine norm_ (a' := ?_) ?_ ?_
                        rotate_left
                        · show Act.put _ (some 38) _ = _
                          simp only [Act.put, List.setIfInBounds_toArray, List.set_cons_zero, List.set_cons_succ, i64_w, i32_w]
                          rfl
                        refine pure_ (i := 3) (N := some 39) (v := ?_) (a' := ?_) #[true, true, true, true, false, false, false, false, false, false, false, false, false, false, false, false] rfl rfl (any_of HT_.out (by kernel_rfl)) (fun _ _ _ h => h) (Or.inl ⟨by rfl, ?_⟩) ?_ ?_
                        rotate_left
                        · intro w'
                          go_simp
                          with_reducible rfl
                        rotate_left
                        · simp only [Act.put, List.setIfInBounds_toArray, List.set_cons_zero, List.set_cons_succ, i64_w, i32_w]
                          rfl
                        refine pure_ (i := 4) (N := some 40) (v := ?_) (a' := ?_) #[true, true, true, true, true, false, false, false, false, false, false, false, false, false, false, false] rfl rfl (any_of HT_.out (by kernel_rfl)) (fun _ _ _ h => h) (Or.inl ⟨by rfl, ?_⟩) ?_ ?_
                        rotate_left
                        · intro w'
                          go_simp
                          with_reducible rfl
                        rotate_left
                        · simp only [Act.put, List.setIfInBounds_toArray, List.set_cons_zero, List.set_cons_succ, i64_w, i32_w]
                          rfl
                        refine pure_ (i := 5) (N := some 41) (v := ?_) (a' := ?_) #[true, true, true, true, true, true, false, false, false, false, false, false, false, false, false, false] rfl rfl (any_of HT_.out (by kernel_rfl)) (fun _ _ _ h => h) (Or.inl ⟨by rfl, ?_⟩) ?_ ?_
                        rotate_left
                        · intro w'
                          go_simp
                          with_reducible rfl
                        rotate_left
                        · simp only [Act.put, List.setIfInBounds_toArray, List.set_cons_zero, List.set_cons_succ, i64_w, i32_w]
                          rfl
                        refine pure_ (i := 6) (N := some 42) (v := ?_) (a' := ?_) #[true, true, true, true, true, true, true, false, false, false, false, false, false, false, false, false] rfl rfl (any_of HT_.out (by kernel_rfl)) (fun _ _ _ h => h) (Or.inl ⟨by rfl, ?_⟩) ?_ ?_
                        rotate_left
                        · intro w'
                          go_simp
                          with_reducible rfl
                        rotate_left
                        · simp only [Act.put, List.setIfInBounds_toArray, List.set_cons_zero, List.set_cons_succ, i64_w, i32_w]
                          rfl
                        refine pure_ (i := 7) (N := some 43) (v := ?_) (a' := ?_) #[true, true, true, true, true, true, true, true, false, false, false, false, false, false, false, false] rfl rfl (any_of HT_.out (by kernel_rfl)) (fun _ _ _ h => h) (Or.inl ⟨by rfl, ?_⟩) ?_ ?_
                        rotate_left
                        · intro w'
                          go_simp
                          with_reducible rfl
                        rotate_left
                        · simp only [Act.put, List.setIfInBounds_toArray, List.set_cons_zero, List.set_cons_succ, i64_w, i32_w]
                          rfl
                        refine pure_ (i := 8) (N := some 44) (v := undef) (a' := ?_) #[true, true, true, true, true, true, true, true, true, false, false, false, false, false, false, false] rfl rfl (any_of HT_.out (by kernel_rfl)) (fun _ _ _ h => h) (Or.inr ⟨by rfl, rfl⟩) ?_ ?_
                        rotate_left
                        · simp only [Act.put, List.setIfInBounds_toArray, List.set_cons_zero, List.set_cons_succ, i64_w, i32_w]
                          rfl
                        refine pure_ (i := 9) (N := some 45) (v := undef) (a' := ?_) #[true, true, true, true, true, true, true, true, true, true, false, false, false, false, false, false] rfl rfl (any_of HT_.out (by kernel_rfl)) (fun _ _ _ h => h) (Or.inr ⟨by rfl, rfl⟩) ?_ ?_
                        rotate_left
                        · simp only [Act.put, List.setIfInBounds_toArray, List.set_cons_zero, List.set_cons_succ, i64_w, i32_w]
                          rfl
                        refine pure_ (i := 10) (N := some 46) (v := undef) (a' := ?_) #[true, true, true, true, true, true, true, true, true, true, true, false, false, false, false, false] rfl rfl (any_of HT_.out (by kernel_rfl)) (fun _ _ _ h => h) (Or.inr ⟨by rfl, rfl⟩) ?_ ?_
                        rotate_left
                        · simp only [Act.put, List.setIfInBounds_toArray, List.set_cons_zero, List.set_cons_succ, i64_w, i32_w]
                          rfl
                        refine pure_ (i := 11) (N := some 47) (v := undef) (a' := ?_) #[true, true, true, true, true, true, true, true, true, true, true, true, false, false, false, false] rfl rfl (any_of HT_.out (by kernel_rfl)) (fun _ _ _ h => h) (Or.inr ⟨by rfl, rfl⟩) ?_ ?_
                        rotate_left
                        · simp only [Act.put, List.setIfInBounds_toArray, List.set_cons_zero, List.set_cons_succ, i64_w, i32_w]
                          rfl
                        refine pure_ (i := 12) (N := some 48) (v := undef) (a' := ?_) #[true, true, true, true, true, true, true, true, true, true, true, true, true, false, false, false] rfl rfl (any_of HT_.out (by kernel_rfl)) (fun _ _ _ h => h) (Or.inr ⟨by rfl, rfl⟩) ?_ ?_
                        rotate_left
                        · simp only [Act.put, List.setIfInBounds_toArray, List.set_cons_zero, List.set_cons_succ, i64_w, i32_w]
                          rfl
                        refine pure_ (i := 13) (N := some 49) (v := undef) (a' := ?_) #[true, true, true, true, true, true, true, true, true, true, true, true, true, true, false, false] rfl rfl (any_of HT_.out (by kernel_rfl)) (fun _ _ _ h => h) (Or.inr ⟨by rfl, rfl⟩) ?_ ?_
                        rotate_left
                        · simp only [Act.put, List.setIfInBounds_toArray, List.set_cons_zero, List.set_cons_succ, i64_w, i32_w]
                          rfl
                        refine pure_ (i := 14) (N := some 50) (v := ?_) (a' := ?_) #[true, true, true, true, true, true, true, true, true, true, true, true, true, true, true, false] rfl rfl (any_of HT_.out (by kernel_rfl)) (fun _ _ _ h => h) (Or.inl ⟨by rfl, ?_⟩) ?_ ?_
                        rotate_left
                        · intro w'
                          go_simp
                          with_reducible rfl
                        rotate_left
                        · simp only [Act.put, List.setIfInBounds_toArray, List.set_cons_zero, List.set_cons_succ, i64_w, i32_w]
                          rfl
                        refine pure_ (i := 15) (N := some 51) (v := ?_) (a' := ?_) #[true, true, true, true, true, true, true, true, true, true, true, true, true, true, true, true] rfl rfl (any_of HT_.out (by kernel_rfl)) (fun _ _ _ h => h) (Or.inl ⟨by rfl, ?_⟩) ?_ ?_
                        rotate_left
                        · intro w'
                          go_simp
                          with_reducible rfl
                        rotate_left
                        · simp only [Act.put, List.setIfInBounds_toArray, List.set_cons_zero, List.set_cons_succ, i64_w, i32_w]
                          rfl
                        refine done_ (done_of HT_.out (by kernel_rfl)) ?_
                        try go_wp2
                        go_meet
                        case rel => exact ⟨_, (false), (by first | rfl | (simp; done) | (simp [*]; done)), H', ⟨by have := HJ1.out; have := HK2.out; first | omega | exact Nat.le_refl _⟩, ⟨by (with_reducible repeat (first | refine blk_drewN ?_ _ | refine blk_drew ?_ | refine blk_alloc ?_ _)); exact BK189.out⟩, ⟨by repeat (first | (with_reducible first | exact HB.out | apply below_alloc | apply pw_below_drewN | apply below_drew1 | refine below_set ?_ GE189.out) | exact HB.out)⟩⟩
                    · replace c16 := Bool.eq_false_iff.mpr c16
                      subst c16
                      have H1 : (spec_l17Good.j2 k2 l0 l0 (l0.length : Int) x31_2 true ((rd_T50 l0 x31_2).f0) ((rd_T50 l0 x31_2).f1) ((rd_T50 l0 x31_2).f2) ((rd_T50 l0 x31_2).f3) ((rd_T50 l0 x31_2).f4) ((rd_T50 l0 x31_2).f5) ((rd_T50 l0 x31_2).f6) ((rd_T50 l0 x31_2).f7)) = some r := by rw [if_neg (show ¬ (false = true) by decide)] at H; exact H
                      clear H
                      have H := H1
                      clear H1
                      have H' := Aside0.mk H
                      clear H
                      try go_wp2
                      have n0_ : Aside0 (((((((((w13.setCell ⟨gb189, 0, none⟩ (.string ((rd_T50 l0 x31_2).f0))).setCell ⟨gb189, 1, none⟩ (.int .i64 ((rd_T50 l0 x31_2).f1))).setCell ⟨gb189, 2, none⟩ (.int .i64 ((rd_T50 l0 x31_2).f2))).setCell ⟨gb189, 3, none⟩ (.int .i64 ((rd_T50 l0 x31_2).f3))).setCell ⟨gb189, 4, none⟩ (.int .i64 ((rd_T50 l0 x31_2).f4))).setCell ⟨gb189, 5, none⟩ (.int .i64 ((rd_T50 l0 x31_2).f5))).setCell ⟨gb189, 6, none⟩ (.int .i64 ((rd_T50 l0 x31_2).f6))).setCell ⟨gb189, 7, none⟩ (.string ((rd_T50 l0 x31_2).f7))).heap[gb189]? = some (.cells #[.string ((rd_T50 l0 x31_2).f0), .int .i64 ((rd_T50 l0 x31_2).f1), .int .i64 ((rd_T50 l0 x31_2).f2), .int .i64 ((rd_T50 l0 x31_2).f3), .int .i64 ((rd_T50 l0 x31_2).f4), .int .i64 ((rd_T50 l0 x31_2).f5), .int .i64 ((rd_T50 l0 x31_2).f6), .string ((rd_T50 l0 x31_2).f7)] 50 (0, 0))) := ⟨by (with_reducible repeat (first | refine blk_drewN ?_ _ | refine blk_drew ?_ | refine blk_alloc ?_ _)); refine blk_put (cs := #[.string ((rd_T50 l0 x31_2).f0), .int .i64 ((rd_T50 l0 x31_2).f1), .int .i64 ((rd_T50 l0 x31_2).f2), .int .i64 ((rd_T50 l0 x31_2).f3), .int .i64 ((rd_T50 l0 x31_2).f4), .int .i64 ((rd_T50 l0 x31_2).f5), .int .i64 ((rd_T50 l0 x31_2).f6), .string (⟨#[]⟩ : ByteArray)]) ?_ 7 _ rfl; (with_reducible repeat (first | refine blk_drewN ?_ _ | refine blk_drew ?_ | refine blk_alloc ?_ _)); refine blk_put (cs := #[.string ((rd_T50 l0 x31_2).f0), .int .i64 ((rd_T50 l0 x31_2).f1), .int .i64 ((rd_T50 l0 x31_2).f2), .int .i64 ((rd_T50 l0 x31_2).f3), .int .i64 ((rd_T50 l0 x31_2).f4), .int .i64 ((rd_T50 l0 x31_2).f5), .int .i64 0, .string (⟨#[]⟩ : ByteArray)]) ?_ 6 _ rfl; (with_reducible repeat (first | refine blk_drewN ?_ _ | refine blk_drew ?_ | refine blk_alloc ?_ _)); refine blk_put (cs := #[.string ((rd_T50 l0 x31_2).f0), .int .i64 ((rd_T50 l0 x31_2).f1), .int .i64 ((rd_T50 l0 x31_2).f2), .int .i64 ((rd_T50 l0 x31_2).f3), .int .i64 ((rd_T50 l0 x31_2).f4), .int .i64 0, .int .i64 0, .string (⟨#[]⟩ : ByteArray)]) ?_ 5 _ rfl; (with_reducible repeat (first | refine blk_drewN ?_ _ | refine blk_drew ?_ | refine blk_alloc ?_ _)); refine blk_put (cs := #[.string ((rd_T50 l0 x31_2).f0), .int .i64 ((rd_T50 l0 x31_2).f1), .int .i64 ((rd_T50 l0 x31_2).f2), .int .i64 ((rd_T50 l0 x31_2).f3), .int .i64 0, .int .i64 0, .int .i64 0, .string (⟨#[]⟩ : ByteArray)]) ?_ 4 _ rfl; (with_reducible repeat (first | refine blk_drewN ?_ _ | refine blk_drew ?_ | refine blk_alloc ?_ _)); refine blk_put (cs := #[.string ((rd_T50 l0 x31_2).f0), .int .i64 ((rd_T50 l0 x31_2).f1), .int .i64 ((rd_T50 l0 x31_2).f2), .int .i64 0, .int .i64 0, .int .i64 0, .int .i64 0, .string (⟨#[]⟩ : ByteArray)]) ?_ 3 _ rfl; (with_reducible repeat (first | refine blk_drewN ?_ _ | refine blk_drew ?_ | refine blk_alloc ?_ _)); refine blk_put (cs := #[.string ((rd_T50 l0 x31_2).f0), .int .i64 ((rd_T50 l0 x31_2).f1), .int .i64 0, .int .i64 0, .int .i64 0, .int .i64 0, .int .i64 0, .string (⟨#[]⟩ : ByteArray)]) ?_ 2 _ rfl; (with_reducible repeat (first | refine blk_drewN ?_ _ | refine blk_drew ?_ | refine blk_alloc ?_ _)); refine blk_put (cs := #[.string ((rd_T50 l0 x31_2).f0), .int .i64 0, .int .i64 0, .int .i64 0, .int .i64 0, .int .i64 0, .int .i64 0, .string (⟨#[]⟩ : ByteArray)]) ?_ 1 _ rfl; (with_reducible repeat (first | refine blk_drewN ?_ _ | refine blk_drew ?_ | refine blk_alloc ?_ _)); refine blk_put (cs := #[.string (⟨#[]⟩ : ByteArray), .int .i64 0, .int .i64 0, .int .i64 0, .int .i64 0, .int .i64 0, .int .i64 0, .string (⟨#[]⟩ : ByteArray)]) ?_ 0 _ rfl; (with_reducible repeat (first | refine blk_drewN ?_ _ | refine blk_drew ?_ | refine blk_alloc ?_ _)); exact BK189.out⟩
                      have n1_ : Aside0 (Below w.heap.size w ((((((((w13.setCell ⟨gb189, 0, none⟩ (.string ((rd_T50 l0 x31_2).f0))).setCell ⟨gb189, 1, none⟩ (.int .i64 ((rd_T50 l0 x31_2).f1))).setCell ⟨gb189, 2, none⟩ (.int .i64 ((rd_T50 l0 x31_2).f2))).setCell ⟨gb189, 3, none⟩ (.int .i64 ((rd_T50 l0 x31_2).f3))).setCell ⟨gb189, 4, none⟩ (.int .i64 ((rd_T50 l0 x31_2).f4))).setCell ⟨gb189, 5, none⟩ (.int .i64 ((rd_T50 l0 x31_2).f5))).setCell ⟨gb189, 6, none⟩ (.int .i64 ((rd_T50 l0 x31_2).f6))).setCell ⟨gb189, 7, none⟩ (.string ((rd_T50 l0 x31_2).f7)))) := ⟨by repeat (first | (with_reducible first | exact HB.out | apply below_alloc | apply pw_below_drewN | apply below_drew1 | refine below_set ?_ GE189.out) | exact HB.out)⟩
                      (try clear BK189)
                      (try clear HB)
                      generalize ((((((((w13.setCell ⟨gb189, 0, none⟩ (.string ((rd_T50 l0 x31_2).f0))).setCell ⟨gb189, 1, none⟩ (.int .i64 ((rd_T50 l0 x31_2).f1))).setCell ⟨gb189, 2, none⟩ (.int .i64 ((rd_T50 l0 x31_2).f2))).setCell ⟨gb189, 3, none⟩ (.int .i64 ((rd_T50 l0 x31_2).f3))).setCell ⟨gb189, 4, none⟩ (.int .i64 ((rd_T50 l0 x31_2).f4))).setCell ⟨gb189, 5, none⟩ (.int .i64 ((rd_T50 l0 x31_2).f5))).setCell ⟨gb189, 6, none⟩ (.int .i64 ((rd_T50 l0 x31_2).f6))).setCell ⟨gb189, 7, none⟩ (.string ((rd_T50 l0 x31_2).f7))) = w29 at n0_ n1_ ⊢
                      have BK189 := n0_
                      have HB := n1_
                      clear n0_ n1_
                      have n0_ := Aside0.mk (blk_drew BK189.out)
                      have n1_ := Aside0.mk (below_drew1 HB.out)
                      clear BK189
                      clear HB
                      have BK189 := n0_
                      have HB := n1_
                      clear n0_ n1_
                      refine start_ (n := 16) (S := fun w' => w'.cell? ⟨gb189, 0, none⟩ = some (.string ((rd_T50 l0 x31_2).f0)) ∧ w'.cell? ⟨gb189, 1, none⟩ = some (.int .i64 ((rd_T50 l0 x31_2).f1)) ∧ w'.cell? ⟨gb189, 2, none⟩ = some (.int .i64 ((rd_T50 l0 x31_2).f2)) ∧ w'.cell? ⟨gb189, 3, none⟩ = some (.int .i64 ((rd_T50 l0 x31_2).f3)) ∧ w'.cell? ⟨gb189, 4, none⟩ = some (.int .i64 ((rd_T50 l0 x31_2).f4)) ∧ w'.cell? ⟨gb189, 5, none⟩ = some (.int .i64 ((rd_T50 l0 x31_2).f5)) ∧ w'.cell? ⟨gb189, 6, none⟩ = some (.int .i64 ((rd_T50 l0 x31_2).f6)) ∧ w'.cell? ⟨gb189, 7, none⟩ = some (.string ((rd_T50 l0 x31_2).f7))) (ds := []) #[false, false, false, false, false, false, false, false, false, false, false, false, false, false, false, false] (by kernel_rfl) rfl rfl ⟨(blk_cell BK189.out 0).trans rfl, (blk_cell BK189.out 1).trans rfl, (blk_cell BK189.out 2).trans rfl, (blk_cell BK189.out 3).trans rfl, (blk_cell BK189.out 4).trans rfl, (blk_cell BK189.out 5).trans rfl, (blk_cell BK189.out 6).trans rfl, (blk_cell BK189.out 7).trans rfl⟩ (fun hHeld => ?_); refine with_tabW spec_l17Good.tab6 spec_l17Good.bits6 (fun HT_ HW_ => ?_)
                      generalize w29.drew = w30 at BK189 HB hHeld ⊢
                      refine pure_ (i := 1) (N := some 37) (v := ?_) (a' := ?_) #[false, true, false, false, false, false, false, false, false, false, false, false, false, false, false, false] rfl rfl (any_of HT_.out (by kernel_rfl)) (fun _ _ _ h => h) (Or.inl ⟨by rfl, ?_⟩) ?_ ?_
                      rotate_left
                      · intro w'
                        go_simp
                        with_reducible rfl
                      rotate_left
                      · simp only [Act.put, List.setIfInBounds_toArray, List.set_cons_zero, List.set_cons_succ, i64_w, i32_w]
                        rfl
                      refine take_ (i := 0) (N := some 36) (v := ?_) (a' := ?_) #[true, true, false, false, false, false, false, false, false, false, false, false, false, false, false, false] rfl rfl (take_ofW HT_.out HW_.out (by kernel_rfl)) (fun _ _ _ h => h) (Or.inl ⟨by rfl, ?_⟩) hHeld ?_ ?_
                      rotate_left
                      · rintro w' ⟨s0, s1, s2, s3, s4, s5, s6, s7⟩
                        go_simp
                        with_reducible rfl
                      rotate_left
                      · simp only [Act.put, List.setIfInBounds_toArray, List.set_cons_zero, List.set_cons_succ, i64_w, i32_w]
                        rfl
                      refine one_ (i := 2) (N := some 38) #[true, true, true, false, false, false, false, false, false, false, false, false, false, false, false, false] rfl rfl (one_of HT_.out (by kernel_rfl)) (by decide) (fun K hK => ?_)
                      refine goes_ Tryd.func59 (by kernel_rfl) rfl #[.agg #[.string ((rd_T50 l0 x31_2).f0), .int .i64 ((rd_T50 l0 x31_2).f1), .int .i64 ((rd_T50 l0 x31_2).f2), .int .i64 ((rd_T50 l0 x31_2).f3), .int .i64 ((rd_T50 l0 x31_2).f4), .int .i64 ((rd_T50 l0 x31_2).f5), .int .i64 ((rd_T50 l0 x31_2).f6), .string ((rd_T50 l0 x31_2).f7)], .int .i64 x31_2] (by rfl) rfl rfl (by (try simp only [List.map_toArray, List.map_cons, List.map_nil]); first | done | rfl | (simp only [List.length_drop, List.length_take]; rfl)) ?_
                      with_reducible refine (spec_l17Alone.calls ((rd_T50 l0 x31_2).f0) ((rd_T50 l0 x31_2).f1) ((rd_T50 l0 x31_2).f2) ((rd_T50 l0 x31_2).f3) ((rd_T50 l0 x31_2).f4) ((rd_T50 l0 x31_2).f5) ((rd_T50 l0 x31_2).f6) ((rd_T50 l0 x31_2).f7) x31_2 false _ A15.out).mono ?_
                      rintro e w31 ⟨rfl, hb⟩
                      refine ⟨_, rfl, ?_⟩
                      have n0_ := Aside0.mk (blk_below (g := gb189) (o := .cells #[.string ((rd_T50 l0 x31_2).f0), .int .i64 ((rd_T50 l0 x31_2).f1), .int .i64 ((rd_T50 l0 x31_2).f2), .int .i64 ((rd_T50 l0 x31_2).f3), .int .i64 ((rd_T50 l0 x31_2).f4), .int .i64 ((rd_T50 l0 x31_2).f5), .int .i64 ((rd_T50 l0 x31_2).f6), .string ((rd_T50 l0 x31_2).f7)] 50 (0, 0)) (by (with_reducible repeat (first | refine blk_drewN ?_ _ | refine blk_drew ?_ | refine blk_alloc ?_ _)); exact BK189.out) hb)
                      have n1_ := Aside0.mk (below_step (by repeat (first | (with_reducible first | exact HB.out | apply below_alloc | apply pw_below_drewN | apply below_drew1 | refine below_set ?_ GE189.out) | exact HB.out)) hb)
                      clear BK189
                      clear HB
                      have BK189 := n0_
                      have HB := n1_
                      clear n0_ n1_
                      (try clear hb)
                      (try clear hb2)
                      (try clear hk)
                      (try clear hi)
                      refine hK.out _ _ ⟨(blk_cell BK189.out 0).trans rfl, (blk_cell BK189.out 1).trans rfl, (blk_cell BK189.out 2).trans rfl, (blk_cell BK189.out 3).trans rfl, (blk_cell BK189.out 4).trans rfl, (blk_cell BK189.out 5).trans rfl, (blk_cell BK189.out 6).trans rfl, (blk_cell BK189.out 7).trans rfl⟩ (fun hHeld => ?_)
                      clear hK K
                      refine norm_ (a' := ?_) ?_ ?_
                      rotate_left
                      · show Act.put _ (some 38) _ = _
                        simp only [Act.put, List.setIfInBounds_toArray, List.set_cons_zero, List.set_cons_succ, i64_w, i32_w]
                        rfl
                      refine pure_ (i := 3) (N := some 39) (v := ?_) (a' := ?_) #[true, true, true, true, false, false, false, false, false, false, false, false, false, false, false, false] rfl rfl (any_of HT_.out (by kernel_rfl)) (fun _ _ _ h => h) (Or.inl ⟨by rfl, ?_⟩) ?_ ?_
                      rotate_left
                      · intro w'
                        go_simp
                        with_reducible rfl
                      rotate_left
                      · simp only [Act.put, List.setIfInBounds_toArray, List.set_cons_zero, List.set_cons_succ, i64_w, i32_w]
                        rfl
                      refine pure_ (i := 4) (N := some 40) (v := ?_) (a' := ?_) #[true, true, true, true, true, false, false, false, false, false, false, false, false, false, false, false] rfl rfl (any_of HT_.out (by kernel_rfl)) (fun _ _ _ h => h) (Or.inl ⟨by rfl, ?_⟩) ?_ ?_
                      rotate_left
                      · intro w'
                        go_simp
                        with_reducible rfl
                      rotate_left
                      · simp only [Act.put, List.setIfInBounds_toArray, List.set_cons_zero, List.set_cons_succ, i64_w, i32_w]
                        rfl
                      refine pure_ (i := 5) (N := some 41) (v := undef) (a' := ?_) #[true, true, true, true, true, true, false, false, false, false, false, false, false, false, false, false] rfl rfl (any_of HT_.out (by kernel_rfl)) (fun _ _ _ h => h) (Or.inr ⟨by rfl, rfl⟩) ?_ ?_
                      rotate_left
                      · simp only [Act.put, List.setIfInBounds_toArray, List.set_cons_zero, List.set_cons_succ, i64_w, i32_w]
                        rfl
                      refine pure_ (i := 6) (N := some 42) (v := undef) (a' := ?_) #[true, true, true, true, true, true, true, false, false, false, false, false, false, false, false, false] rfl rfl (any_of HT_.out (by kernel_rfl)) (fun _ _ _ h => h) (Or.inr ⟨by rfl, rfl⟩) ?_ ?_
                      rotate_left
                      · simp only [Act.put, List.setIfInBounds_toArray, List.set_cons_zero, List.set_cons_succ, i64_w, i32_w]
                        rfl
                      refine pure_ (i := 7) (N := some 43) (v := undef) (a' := ?_) #[true, true, true, true, true, true, true, true, false, false, false, false, false, false, false, false] rfl rfl (any_of HT_.out (by kernel_rfl)) (fun _ _ _ h => h) (Or.inr ⟨by rfl, rfl⟩) ?_ ?_
                      rotate_left
                      · simp only [Act.put, List.setIfInBounds_toArray, List.set_cons_zero, List.set_cons_succ, i64_w, i32_w]
                        rfl
                      refine pure_ (i := 8) (N := some 44) (v := undef) (a' := ?_) #[true, true, true, true, true, true, true, true, true, false, false, false, false, false, false, false] rfl rfl (any_of HT_.out (by kernel_rfl)) (fun _ _ _ h => h) (Or.inr ⟨by rfl, rfl⟩) ?_ ?_
                      rotate_left
                      · simp only [Act.put, List.setIfInBounds_toArray, List.set_cons_zero, List.set_cons_succ, i64_w, i32_w]
                        rfl
                      refine pure_ (i := 9) (N := some 45) (v := undef) (a' := ?_) #[true, true, true, true, true, true, true, true, true, true, false, false, false, false, false, false] rfl rfl (any_of HT_.out (by kernel_rfl)) (fun _ _ _ h => h) (Or.inr ⟨by rfl, rfl⟩) ?_ ?_
                      rotate_left
                      · simp only [Act.put, List.setIfInBounds_toArray, List.set_cons_zero, List.set_cons_succ, i64_w, i32_w]
                        rfl
                      refine pure_ (i := 10) (N := some 46) (v := undef) (a' := ?_) #[true, true, true, true, true, true, true, true, true, true, true, false, false, false, false, false] rfl rfl (any_of HT_.out (by kernel_rfl)) (fun _ _ _ h => h) (Or.inr ⟨by rfl, rfl⟩) ?_ ?_
                      rotate_left
                      · simp only [Act.put, List.setIfInBounds_toArray, List.set_cons_zero, List.set_cons_succ, i64_w, i32_w]
                        rfl
                      refine pure_ (i := 11) (N := some 47) (v := undef) (a' := ?_) #[true, true, true, true, true, true, true, true, true, true, true, true, false, false, false, false] rfl rfl (any_of HT_.out (by kernel_rfl)) (fun _ _ _ h => h) (Or.inr ⟨by rfl, rfl⟩) ?_ ?_
                      rotate_left
                      · simp only [Act.put, List.setIfInBounds_toArray, List.set_cons_zero, List.set_cons_succ, i64_w, i32_w]
                        rfl
                      refine pure_ (i := 12) (N := some 48) (v := undef) (a' := ?_) #[true, true, true, true, true, true, true, true, true, true, true, true, true, false, false, false] rfl rfl (any_of HT_.out (by kernel_rfl)) (fun _ _ _ h => h) (Or.inr ⟨by rfl, rfl⟩) ?_ ?_
                      rotate_left
                      · simp only [Act.put, List.setIfInBounds_toArray, List.set_cons_zero, List.set_cons_succ, i64_w, i32_w]
                        rfl
                      refine pure_ (i := 13) (N := some 49) (v := undef) (a' := ?_) #[true, true, true, true, true, true, true, true, true, true, true, true, true, true, false, false] rfl rfl (any_of HT_.out (by kernel_rfl)) (fun _ _ _ h => h) (Or.inr ⟨by rfl, rfl⟩) ?_ ?_
                      rotate_left
                      · simp only [Act.put, List.setIfInBounds_toArray, List.set_cons_zero, List.set_cons_succ, i64_w, i32_w]
                        rfl
                      refine pure_ (i := 14) (N := some 50) (v := undef) (a' := ?_) #[true, true, true, true, true, true, true, true, true, true, true, true, true, true, true, false] rfl rfl (any_of HT_.out (by kernel_rfl)) (fun _ _ _ h => h) (Or.inr ⟨by rfl, rfl⟩) ?_ ?_
                      rotate_left
                      · simp only [Act.put, List.setIfInBounds_toArray, List.set_cons_zero, List.set_cons_succ, i64_w, i32_w]
                        rfl
                      refine pure_ (i := 15) (N := some 51) (v := ?_) (a' := ?_) #[true, true, true, true, true, true, true, true, true, true, true, true, true, true, true, true] rfl rfl (any_of HT_.out (by kernel_rfl)) (fun _ _ _ h => h) (Or.inl ⟨by rfl, ?_⟩) ?_ ?_
                      rotate_left
                      · intro w'
                        go_simp
                        with_reducible rfl
                      rotate_left
                      · simp only [Act.put, List.setIfInBounds_toArray, List.set_cons_zero, List.set_cons_succ, i64_w, i32_w]
                        rfl
                      refine done_ (done_of HT_.out (by kernel_rfl)) ?_
                      try go_wp2
                      go_meet
                      case rel => exact ⟨_, (true), (by first | rfl | (simp; done) | (simp [*]; done)), H', ⟨by have := HJ1.out; have := HK2.out; first | omega | exact Nat.le_refl _⟩, ⟨by (with_reducible repeat (first | refine blk_drewN ?_ _ | refine blk_drew ?_ | refine blk_alloc ?_ _)); exact BK189.out⟩, ⟨by repeat (first | (with_reducible first | exact HB.out | apply below_alloc | apply pw_below_drewN | apply below_drew1 | refine below_set ?_ GE189.out) | exact HB.out)⟩⟩
                  case rest =>
                    clear HC12
                    try clear c1
                    try clear p1
                    try clear q1
                    try clear hx1
                    try clear qi1
                    try clear c2
                    try clear p2
                    try clear q2
                    try clear c4
                    try clear c5
                    try clear c5b0
                    try clear c5b1
                    try clear c6
                    try clear c6b0
                    try clear c6b1
                    try clear c7
                    try clear c7b0
                    try clear c7b1
                    try clear c8
                    try clear c9
                    try clear c9b0
                    try clear c10
                    try clear c10b0
                    try clear c11
                    try clear c11b0
                    try clear c16
                    try clear c17
                    try clear c17b0
                    try clear c18
                    try clear c18b0
                    try clear p18
                    try clear q18
                    try clear hx18
                    try clear c19
                    try clear c19b0
                    try clear c19b1
                    try clear q24
                    try clear hcz14_0
                    try clear hcz14_1
                    try clear hcz14_2
                    try clear hcz14_3
                    try clear hcz14_4
                    try clear hcz14_5
                    try clear hcz14_6
                    try clear hcz14_7
                    try clear hfz14_0
                    try clear hfz14_1
                    try clear hfz14_2
                    try clear hfz14_3
                    try clear hfz14_4
                    try clear hfz14_5
                    try clear hfz14_6
                    try clear hfz14_7
                    try clear hx186_0
                    try clear hx186_1
                    try clear hx186_2
                    try clear hx186_3
                    try clear hx186_4
                    try clear hx186_5
                    try clear hx186_6
                    try clear hx186_7
                    try clear hx187_0
                    try clear hx187_1
                    try clear hx187_2
                    try clear hx187_3
                    try clear hx187_4
                    try clear hx187_5
                    try clear hx187_6
                    try clear hx187_7
                    try clear hx188_0
                    try clear hx188_1
                    try clear hx188_2
                    try clear hx188_3
                    try clear hx188_4
                    try clear hx188_5
                    try clear hx188_6
                    try clear hx188_7
                    try clear p1
                    try clear p186
                    try clear p187
                    try clear p188
                    try clear p2
                    try clear q1
                    try clear q186
                    try clear q187
                    try clear q188
                    try clear q24
                    obtain ⟨kq, x51_11, rfl, HA, HJ11, BK189, HB⟩ := hcut
                    cases kq with
                    | zero => exact absurd HA.out (by simp [spec_l17Good.j2])
                    | succ kj11 =>
                      have H := HA.out
                      clear HA
                      simp only [spec_l17Good.j2] at H
                      by_cases c32 : x51_11 = true
                      · subst c32
                        have H1 : (some false) = some r := by rw [if_pos rfl] at H; exact H
                        clear H
                        have H := H1
                        clear H1
                        obtain rfl := Option.some.inj H
                        go_wp2
                        go_ret
                        exact ⟨by first | rfl | (simp [errW_none, errW_some] <;> rfl) | (simp [*, errW_none, errW_some] <;> rfl), by repeat (first | (with_reducible first | exact HB.out | apply below_alloc | apply pw_below_drewN | apply below_drew1 | refine below_set ?_ GE189.out) | exact HB.out)⟩
                      · replace c32 := Bool.eq_false_iff.mpr c32
                        subst c32
                        have H1 : (if 0 ≤ ((rd_T50 l0 x31_2).f6) then (if ((rd_T50 l0 x31_2).f6) < (l0.length : Int) then (if ((rd_T50 l0 ((rd_T50 l0 x31_2).f6)).f6) = ((rd_T50 l0 x31_2).f6) then (if ((rd_T50 l0 ((rd_T50 l0 x31_2).f6)).f1) = ((rd_T50 l0 x31_2).f1) then (spec_l17Good.l0 kj11 l0 l0 (l0.length : Int) (wrap64 (x31_2 + 1))) else (some false)) else (some false)) else (none)) else (none)) = some r := by rw [if_neg (show ¬ (false = true) by decide)] at H; exact H
                        clear H
                        have H := H1
                        clear H1
                        by_cases c33 : 0 ≤ ((rd_T50 l0 x31_2).f6)
                        · rw [if_pos c33] at H
                          have c33b0 : decide (0 ≤ ((rd_T50 l0 x31_2).f6)) = true := decide_eq_true c33
                          clear c33
                          by_cases c34 : ((rd_T50 l0 x31_2).f6) < (l0.length : Int)
                          · rw [if_pos c34] at H
                            have c34b0 : decide (((rd_T50 l0 x31_2).f6) < (l0.length : Int)) = true := decide_eq_true c34
                            clear c34
                            by_cases c35 : ((rd_T50 l0 ((rd_T50 l0 x31_2).f6)).f6) = ((rd_T50 l0 x31_2).f6)
                            · rw [if_pos c35] at H
                              have c35b0 : (((rd_T50 l0 ((rd_T50 l0 x31_2).f6)).f6) == ((rd_T50 l0 x31_2).f6)) = true := beq_iff_eq.mpr c35
                              have c35b1 : (((rd_T50 l0 ((rd_T50 l0 x31_2).f6)).f6) != ((rd_T50 l0 x31_2).f6)) = false := bne_eq_false_iff_eq.mpr c35
                              clear c35
                              by_cases c36 : ((rd_T50 l0 ((rd_T50 l0 x31_2).f6)).f1) = ((rd_T50 l0 x31_2).f1)
                              · rw [if_pos c36] at H
                                have c36b0 : (((rd_T50 l0 ((rd_T50 l0 x31_2).f6)).f1) == ((rd_T50 l0 x31_2).f1)) = true := beq_iff_eq.mpr c36
                                have c36b1 : (((rd_T50 l0 ((rd_T50 l0 x31_2).f6)).f1) != ((rd_T50 l0 x31_2).f1)) = false := bne_eq_false_iff_eq.mpr c36
                                clear c36
                                have H' := Aside0.mk H
                                clear H
                                have hcz37_0 : wc.cell? ⟨gb189, 0, none⟩ = some (.string ((rd_T50 l0 x31_2).f0)) := (blk_cell BK189.out 0).trans rfl
                                have hcz37_1 : wc.cell? ⟨gb189, 1, none⟩ = some (.int .i64 ((rd_T50 l0 x31_2).f1)) := (blk_cell BK189.out 1).trans rfl
                                have hcz37_2 : wc.cell? ⟨gb189, 2, none⟩ = some (.int .i64 ((rd_T50 l0 x31_2).f2)) := (blk_cell BK189.out 2).trans rfl
                                have hcz37_3 : wc.cell? ⟨gb189, 3, none⟩ = some (.int .i64 ((rd_T50 l0 x31_2).f3)) := (blk_cell BK189.out 3).trans rfl
                                have hcz37_4 : wc.cell? ⟨gb189, 4, none⟩ = some (.int .i64 ((rd_T50 l0 x31_2).f4)) := (blk_cell BK189.out 4).trans rfl
                                have hcz37_5 : wc.cell? ⟨gb189, 5, none⟩ = some (.int .i64 ((rd_T50 l0 x31_2).f5)) := (blk_cell BK189.out 5).trans rfl
                                have hcz37_6 : wc.cell? ⟨gb189, 6, none⟩ = some (.int .i64 ((rd_T50 l0 x31_2).f6)) := (blk_cell BK189.out 6).trans rfl
                                have hcz37_7 : wc.cell? ⟨gb189, 7, none⟩ = some (.string ((rd_T50 l0 x31_2).f7)) := (blk_cell BK189.out 7).trans rfl
                                have hfz37_0 := blk_frozen BK189.out 0
                                have hfz37_1 := blk_frozen BK189.out 1
                                have hfz37_2 := blk_frozen BK189.out 2
                                have hfz37_3 := blk_frozen BK189.out 3
                                have hfz37_4 := blk_frozen BK189.out 4
                                have hfz37_5 := blk_frozen BK189.out 5
                                have hfz37_6 := blk_frozen BK189.out 6
                                have hfz37_7 := blk_frozen BK189.out 7
                                have p196 : 0 ≤ (((rd_T50 l0 x31_2).f6) : Int) := of_decide_eq_true (by first | (with_reducible assumption) | assumption)
                                have q196 : ((rd_T50 l0 x31_2).f6) < (l0.length : Int) := of_decide_eq_true (by first | (with_reducible assumption) | assumption)
                                obtain ⟨ad196, e196, hx196_0, hx196_1, hx196_2, hx196_3, hx196_4, hx196_5, hx196_6, hx196_7⟩ := at_T50 HR0.out ((rd_T50 l0 x31_2).f6) p196 q196
                                obtain rfl : ad188 = ad196 := (by injection e196)
                                replace hx196_0 := (HB.out.cell (World.block_lt_of_cell? w _ hx196_0)).trans hx196_0
                                replace hx196_1 := (HB.out.cell (World.block_lt_of_cell? w _ hx196_1)).trans hx196_1
                                replace hx196_2 := (HB.out.cell (World.block_lt_of_cell? w _ hx196_2)).trans hx196_2
                                replace hx196_3 := (HB.out.cell (World.block_lt_of_cell? w _ hx196_3)).trans hx196_3
                                replace hx196_4 := (HB.out.cell (World.block_lt_of_cell? w _ hx196_4)).trans hx196_4
                                replace hx196_5 := (HB.out.cell (World.block_lt_of_cell? w _ hx196_5)).trans hx196_5
                                replace hx196_6 := (HB.out.cell (World.block_lt_of_cell? w _ hx196_6)).trans hx196_6
                                replace hx196_7 := (HB.out.cell (World.block_lt_of_cell? w _ hx196_7)).trans hx196_7
                                replace p196 := eq_true p196
                                replace q196 := eq_true q196
                                go_wp2_with (first | ((with_reducible refine gate_dst (N := 5) rfl ?_); (try (refine gate_guard (by rfl) ?_; dsimp only)); refine box_event ?hg (N := 5) ?hd (cs := #[.string (⟨#[]⟩ : ByteArray), .int .i64 0, .int .i64 0, .int .i64 0, .int .i64 0, .int .i64 0, .int .i64 0, .string (⟨#[]⟩ : ByteArray)]) (t := 50) ?hr ?_; (case hd => rfl); (case hg => rfl); (case hr => first | (go_simp; done) | (go_simp; rfl)); intro gb197 hg w38 hbox hb; have n0_ := Aside0.mk (blk_below (g := gb189) (o := .cells #[.string ((rd_T50 l0 x31_2).f0), .int .i64 ((rd_T50 l0 x31_2).f1), .int .i64 ((rd_T50 l0 x31_2).f2), .int .i64 ((rd_T50 l0 x31_2).f3), .int .i64 ((rd_T50 l0 x31_2).f4), .int .i64 ((rd_T50 l0 x31_2).f5), .int .i64 ((rd_T50 l0 x31_2).f6), .string ((rd_T50 l0 x31_2).f7)] 50 (0, 0)) (by (with_reducible repeat (first | refine blk_drewN ?_ _ | refine blk_drew ?_ | refine blk_alloc ?_ _)); exact BK189.out) hb); have n1_ := Aside0.mk (below_step (by repeat (first | (with_reducible first | exact HB.out | apply below_alloc | apply pw_below_drewN | apply below_drew1 | refine below_set ?_ GE189.out) | exact HB.out)) hb); have n2_ := Aside0.mk (hbox); have n3_ := Aside0.mk ((by rw [hg]; exact (below_size (by repeat (first | (with_reducible first | exact HB.out | apply below_alloc | apply pw_below_drewN | apply below_drew1 | refine below_set ?_ GE189.out) | exact HB.out))) : w.heap.size ≤ gb197)); have n4_ := Aside0.mk ((by rw [hg]; exact (below_size (by repeat (first | (with_reducible first | exact HB.out | apply below_alloc | apply pw_below_drewN | apply below_drew1 | refine below_set ?_ GE189.out) | exact HB.out))) : w.heap.size ≤ gb197)); have n5_ := Aside0.mk ((by rw [hg]; exact Nat.ne_of_lt (blk_lt (g := gb189) (o := .cells #[.string ((rd_T50 l0 x31_2).f0), .int .i64 ((rd_T50 l0 x31_2).f1), .int .i64 ((rd_T50 l0 x31_2).f2), .int .i64 ((rd_T50 l0 x31_2).f3), .int .i64 ((rd_T50 l0 x31_2).f4), .int .i64 ((rd_T50 l0 x31_2).f5), .int .i64 ((rd_T50 l0 x31_2).f6), .string ((rd_T50 l0 x31_2).f7)] 50 (0, 0)) (by (with_reducible repeat (first | refine blk_drewN ?_ _ | refine blk_drew ?_ | refine blk_alloc ?_ _)); exact BK189.out)) : gb189 ≠ gb197)); have n6_ := Aside0.mk ((by rw [hg]; exact Nat.ne_of_gt (blk_lt (g := gb189) (o := .cells #[.string ((rd_T50 l0 x31_2).f0), .int .i64 ((rd_T50 l0 x31_2).f1), .int .i64 ((rd_T50 l0 x31_2).f2), .int .i64 ((rd_T50 l0 x31_2).f3), .int .i64 ((rd_T50 l0 x31_2).f4), .int .i64 ((rd_T50 l0 x31_2).f5), .int .i64 ((rd_T50 l0 x31_2).f6), .string ((rd_T50 l0 x31_2).f7)] 50 (0, 0)) (by (with_reducible repeat (first | refine blk_drewN ?_ _ | refine blk_drew ?_ | refine blk_alloc ?_ _)); exact BK189.out)) : gb197 ≠ gb189)); clear BK189; clear HB; have BK189 := n0_; have HB := n1_; have BK197 := n2_; have GW197 := n3_; have GE197 := n4_; have NB189_197 := n5_; have NB197_189 := n6_; clear n0_ n1_ n2_ n3_ n4_ n5_ n6_; clear hb hbox hg; have hnb39 := NB197_189.out; have hnc39 := NB189_197.out; have hcz40_0 : w38.cell? ⟨gb197, 0, none⟩ = some (.string (⟨#[]⟩ : ByteArray)) := (blk_cell BK197.out 0).trans rfl; have hcz40_1 : w38.cell? ⟨gb197, 1, none⟩ = some (.int .i64 0) := (blk_cell BK197.out 1).trans rfl; have hcz40_2 : w38.cell? ⟨gb197, 2, none⟩ = some (.int .i64 0) := (blk_cell BK197.out 2).trans rfl; have hcz40_3 : w38.cell? ⟨gb197, 3, none⟩ = some (.int .i64 0) := (blk_cell BK197.out 3).trans rfl; have hcz40_4 : w38.cell? ⟨gb197, 4, none⟩ = some (.int .i64 0) := (blk_cell BK197.out 4).trans rfl; have hcz40_5 : w38.cell? ⟨gb197, 5, none⟩ = some (.int .i64 0) := (blk_cell BK197.out 5).trans rfl; have hcz40_6 : w38.cell? ⟨gb197, 6, none⟩ = some (.int .i64 0) := (blk_cell BK197.out 6).trans rfl; have hcz40_7 : w38.cell? ⟨gb197, 7, none⟩ = some (.string (⟨#[]⟩ : ByteArray)) := (blk_cell BK197.out 7).trans rfl; have hfz40_0 := blk_frozen BK197.out 0; have hfz40_1 := blk_frozen BK197.out 1; have hfz40_2 := blk_frozen BK197.out 2; have hfz40_3 := blk_frozen BK197.out 3; have hfz40_4 := blk_frozen BK197.out 4; have hfz40_5 := blk_frozen BK197.out 5; have hfz40_6 := blk_frozen BK197.out 6; have hfz40_7 := blk_frozen BK197.out 7; have hcz41_0 : w38.cell? ⟨gb189, 0, none⟩ = some (.string ((rd_T50 l0 x31_2).f0)) := (blk_cell BK189.out 0).trans rfl; have hcz41_1 : w38.cell? ⟨gb189, 1, none⟩ = some (.int .i64 ((rd_T50 l0 x31_2).f1)) := (blk_cell BK189.out 1).trans rfl; have hcz41_2 : w38.cell? ⟨gb189, 2, none⟩ = some (.int .i64 ((rd_T50 l0 x31_2).f2)) := (blk_cell BK189.out 2).trans rfl; have hcz41_3 : w38.cell? ⟨gb189, 3, none⟩ = some (.int .i64 ((rd_T50 l0 x31_2).f3)) := (blk_cell BK189.out 3).trans rfl; have hcz41_4 : w38.cell? ⟨gb189, 4, none⟩ = some (.int .i64 ((rd_T50 l0 x31_2).f4)) := (blk_cell BK189.out 4).trans rfl; have hcz41_5 : w38.cell? ⟨gb189, 5, none⟩ = some (.int .i64 ((rd_T50 l0 x31_2).f5)) := (blk_cell BK189.out 5).trans rfl; have hcz41_6 : w38.cell? ⟨gb189, 6, none⟩ = some (.int .i64 ((rd_T50 l0 x31_2).f6)) := (blk_cell BK189.out 6).trans rfl; have hcz41_7 : w38.cell? ⟨gb189, 7, none⟩ = some (.string ((rd_T50 l0 x31_2).f7)) := (blk_cell BK189.out 7).trans rfl; have hfz41_0 := blk_frozen BK189.out 0; have hfz41_1 := blk_frozen BK189.out 1; have hfz41_2 := blk_frozen BK189.out 2; have hfz41_3 := blk_frozen BK189.out 3; have hfz41_4 := blk_frozen BK189.out 4; have hfz41_5 := blk_frozen BK189.out 5; have hfz41_6 := blk_frozen BK189.out 6; have hfz41_7 := blk_frozen BK189.out 7))
                                go_roundg kj11
                                case measure => have := HJ1.out; have := HK2.out; have := HJ11.out; omega
                                case rel => exact ⟨(wrap64 (x31_2 + 1)), (by first | rfl | (simp; done) | (simp [*]; done)), H', ⟨by have := HJ1.out; have := HK2.out; have := HJ11.out; omega⟩, ⟨by repeat (first | (with_reducible first | exact HB.out | apply below_alloc | apply pw_below_drewN | apply below_drew1 | refine below_set ?_ GE189.out | refine below_set ?_ GE197.out) | exact HB.out)⟩⟩
                              · rw [if_neg c36] at H
                                have c36b0 : (((rd_T50 l0 ((rd_T50 l0 x31_2).f6)).f1) == ((rd_T50 l0 x31_2).f1)) = false := beq_eq_false_iff_ne.mpr c36
                                have c36b1 : (((rd_T50 l0 ((rd_T50 l0 x31_2).f6)).f1) != ((rd_T50 l0 x31_2).f1)) = true := bne_iff_ne.mpr c36
                                obtain rfl := Option.some.inj H
                                have hcz42_0 : wc.cell? ⟨gb189, 0, none⟩ = some (.string ((rd_T50 l0 x31_2).f0)) := (blk_cell BK189.out 0).trans rfl
                                have hcz42_1 : wc.cell? ⟨gb189, 1, none⟩ = some (.int .i64 ((rd_T50 l0 x31_2).f1)) := (blk_cell BK189.out 1).trans rfl
                                have hcz42_2 : wc.cell? ⟨gb189, 2, none⟩ = some (.int .i64 ((rd_T50 l0 x31_2).f2)) := (blk_cell BK189.out 2).trans rfl
                                have hcz42_3 : wc.cell? ⟨gb189, 3, none⟩ = some (.int .i64 ((rd_T50 l0 x31_2).f3)) := (blk_cell BK189.out 3).trans rfl
                                have hcz42_4 : wc.cell? ⟨gb189, 4, none⟩ = some (.int .i64 ((rd_T50 l0 x31_2).f4)) := (blk_cell BK189.out 4).trans rfl
                                have hcz42_5 : wc.cell? ⟨gb189, 5, none⟩ = some (.int .i64 ((rd_T50 l0 x31_2).f5)) := (blk_cell BK189.out 5).trans rfl
                                have hcz42_6 : wc.cell? ⟨gb189, 6, none⟩ = some (.int .i64 ((rd_T50 l0 x31_2).f6)) := (blk_cell BK189.out 6).trans rfl
                                have hcz42_7 : wc.cell? ⟨gb189, 7, none⟩ = some (.string ((rd_T50 l0 x31_2).f7)) := (blk_cell BK189.out 7).trans rfl
                                have hfz42_0 := blk_frozen BK189.out 0
                                have hfz42_1 := blk_frozen BK189.out 1
                                have hfz42_2 := blk_frozen BK189.out 2
                                have hfz42_3 := blk_frozen BK189.out 3
                                have hfz42_4 := blk_frozen BK189.out 4
                                have hfz42_5 := blk_frozen BK189.out 5
                                have hfz42_6 := blk_frozen BK189.out 6
                                have hfz42_7 := blk_frozen BK189.out 7
                                have p196 : 0 ≤ (((rd_T50 l0 x31_2).f6) : Int) := of_decide_eq_true (by first | (with_reducible assumption) | assumption)
                                have q196 : ((rd_T50 l0 x31_2).f6) < (l0.length : Int) := of_decide_eq_true (by first | (with_reducible assumption) | assumption)
                                obtain ⟨ad196, e196, hx196_0, hx196_1, hx196_2, hx196_3, hx196_4, hx196_5, hx196_6, hx196_7⟩ := at_T50 HR0.out ((rd_T50 l0 x31_2).f6) p196 q196
                                obtain rfl : ad188 = ad196 := (by injection e196)
                                replace hx196_0 := (HB.out.cell (World.block_lt_of_cell? w _ hx196_0)).trans hx196_0
                                replace hx196_1 := (HB.out.cell (World.block_lt_of_cell? w _ hx196_1)).trans hx196_1
                                replace hx196_2 := (HB.out.cell (World.block_lt_of_cell? w _ hx196_2)).trans hx196_2
                                replace hx196_3 := (HB.out.cell (World.block_lt_of_cell? w _ hx196_3)).trans hx196_3
                                replace hx196_4 := (HB.out.cell (World.block_lt_of_cell? w _ hx196_4)).trans hx196_4
                                replace hx196_5 := (HB.out.cell (World.block_lt_of_cell? w _ hx196_5)).trans hx196_5
                                replace hx196_6 := (HB.out.cell (World.block_lt_of_cell? w _ hx196_6)).trans hx196_6
                                replace hx196_7 := (HB.out.cell (World.block_lt_of_cell? w _ hx196_7)).trans hx196_7
                                replace p196 := eq_true p196
                                replace q196 := eq_true q196
                                go_wp2_with (first | ((with_reducible refine gate_dst (N := 5) rfl ?_); (try (refine gate_guard (by rfl) ?_; dsimp only)); refine box_event ?hg (N := 5) ?hd (cs := #[.string (⟨#[]⟩ : ByteArray), .int .i64 0, .int .i64 0, .int .i64 0, .int .i64 0, .int .i64 0, .int .i64 0, .string (⟨#[]⟩ : ByteArray)]) (t := 50) ?hr ?_; (case hd => rfl); (case hg => rfl); (case hr => first | (go_simp; done) | (go_simp; rfl)); intro gb197 hg w43 hbox hb; have n0_ := Aside0.mk (blk_below (g := gb189) (o := .cells #[.string ((rd_T50 l0 x31_2).f0), .int .i64 ((rd_T50 l0 x31_2).f1), .int .i64 ((rd_T50 l0 x31_2).f2), .int .i64 ((rd_T50 l0 x31_2).f3), .int .i64 ((rd_T50 l0 x31_2).f4), .int .i64 ((rd_T50 l0 x31_2).f5), .int .i64 ((rd_T50 l0 x31_2).f6), .string ((rd_T50 l0 x31_2).f7)] 50 (0, 0)) (by (with_reducible repeat (first | refine blk_drewN ?_ _ | refine blk_drew ?_ | refine blk_alloc ?_ _)); exact BK189.out) hb); have n1_ := Aside0.mk (below_step (by repeat (first | (with_reducible first | exact HB.out | apply below_alloc | apply pw_below_drewN | apply below_drew1 | refine below_set ?_ GE189.out) | exact HB.out)) hb); have n2_ := Aside0.mk (hbox); have n3_ := Aside0.mk ((by rw [hg]; exact (below_size (by repeat (first | (with_reducible first | exact HB.out | apply below_alloc | apply pw_below_drewN | apply below_drew1 | refine below_set ?_ GE189.out) | exact HB.out))) : w.heap.size ≤ gb197)); have n4_ := Aside0.mk ((by rw [hg]; exact (below_size (by repeat (first | (with_reducible first | exact HB.out | apply below_alloc | apply pw_below_drewN | apply below_drew1 | refine below_set ?_ GE189.out) | exact HB.out))) : w.heap.size ≤ gb197)); have n5_ := Aside0.mk ((by rw [hg]; exact Nat.ne_of_lt (blk_lt (g := gb189) (o := .cells #[.string ((rd_T50 l0 x31_2).f0), .int .i64 ((rd_T50 l0 x31_2).f1), .int .i64 ((rd_T50 l0 x31_2).f2), .int .i64 ((rd_T50 l0 x31_2).f3), .int .i64 ((rd_T50 l0 x31_2).f4), .int .i64 ((rd_T50 l0 x31_2).f5), .int .i64 ((rd_T50 l0 x31_2).f6), .string ((rd_T50 l0 x31_2).f7)] 50 (0, 0)) (by (with_reducible repeat (first | refine blk_drewN ?_ _ | refine blk_drew ?_ | refine blk_alloc ?_ _)); exact BK189.out)) : gb189 ≠ gb197)); have n6_ := Aside0.mk ((by rw [hg]; exact Nat.ne_of_gt (blk_lt (g := gb189) (o := .cells #[.string ((rd_T50 l0 x31_2).f0), .int .i64 ((rd_T50 l0 x31_2).f1), .int .i64 ((rd_T50 l0 x31_2).f2), .int .i64 ((rd_T50 l0 x31_2).f3), .int .i64 ((rd_T50 l0 x31_2).f4), .int .i64 ((rd_T50 l0 x31_2).f5), .int .i64 ((rd_T50 l0 x31_2).f6), .string ((rd_T50 l0 x31_2).f7)] 50 (0, 0)) (by (with_reducible repeat (first | refine blk_drewN ?_ _ | refine blk_drew ?_ | refine blk_alloc ?_ _)); exact BK189.out)) : gb197 ≠ gb189)); clear BK189; clear HB; have BK189 := n0_; have HB := n1_; have BK197 := n2_; have GW197 := n3_; have GE197 := n4_; have NB189_197 := n5_; have NB197_189 := n6_; clear n0_ n1_ n2_ n3_ n4_ n5_ n6_; clear hb hbox hg; have hnb44 := NB197_189.out; have hnc44 := NB189_197.out; have hcz45_0 : w43.cell? ⟨gb197, 0, none⟩ = some (.string (⟨#[]⟩ : ByteArray)) := (blk_cell BK197.out 0).trans rfl; have hcz45_1 : w43.cell? ⟨gb197, 1, none⟩ = some (.int .i64 0) := (blk_cell BK197.out 1).trans rfl; have hcz45_2 : w43.cell? ⟨gb197, 2, none⟩ = some (.int .i64 0) := (blk_cell BK197.out 2).trans rfl; have hcz45_3 : w43.cell? ⟨gb197, 3, none⟩ = some (.int .i64 0) := (blk_cell BK197.out 3).trans rfl; have hcz45_4 : w43.cell? ⟨gb197, 4, none⟩ = some (.int .i64 0) := (blk_cell BK197.out 4).trans rfl; have hcz45_5 : w43.cell? ⟨gb197, 5, none⟩ = some (.int .i64 0) := (blk_cell BK197.out 5).trans rfl; have hcz45_6 : w43.cell? ⟨gb197, 6, none⟩ = some (.int .i64 0) := (blk_cell BK197.out 6).trans rfl; have hcz45_7 : w43.cell? ⟨gb197, 7, none⟩ = some (.string (⟨#[]⟩ : ByteArray)) := (blk_cell BK197.out 7).trans rfl; have hfz45_0 := blk_frozen BK197.out 0; have hfz45_1 := blk_frozen BK197.out 1; have hfz45_2 := blk_frozen BK197.out 2; have hfz45_3 := blk_frozen BK197.out 3; have hfz45_4 := blk_frozen BK197.out 4; have hfz45_5 := blk_frozen BK197.out 5; have hfz45_6 := blk_frozen BK197.out 6; have hfz45_7 := blk_frozen BK197.out 7; have hcz46_0 : w43.cell? ⟨gb189, 0, none⟩ = some (.string ((rd_T50 l0 x31_2).f0)) := (blk_cell BK189.out 0).trans rfl; have hcz46_1 : w43.cell? ⟨gb189, 1, none⟩ = some (.int .i64 ((rd_T50 l0 x31_2).f1)) := (blk_cell BK189.out 1).trans rfl; have hcz46_2 : w43.cell? ⟨gb189, 2, none⟩ = some (.int .i64 ((rd_T50 l0 x31_2).f2)) := (blk_cell BK189.out 2).trans rfl; have hcz46_3 : w43.cell? ⟨gb189, 3, none⟩ = some (.int .i64 ((rd_T50 l0 x31_2).f3)) := (blk_cell BK189.out 3).trans rfl; have hcz46_4 : w43.cell? ⟨gb189, 4, none⟩ = some (.int .i64 ((rd_T50 l0 x31_2).f4)) := (blk_cell BK189.out 4).trans rfl; have hcz46_5 : w43.cell? ⟨gb189, 5, none⟩ = some (.int .i64 ((rd_T50 l0 x31_2).f5)) := (blk_cell BK189.out 5).trans rfl; have hcz46_6 : w43.cell? ⟨gb189, 6, none⟩ = some (.int .i64 ((rd_T50 l0 x31_2).f6)) := (blk_cell BK189.out 6).trans rfl; have hcz46_7 : w43.cell? ⟨gb189, 7, none⟩ = some (.string ((rd_T50 l0 x31_2).f7)) := (blk_cell BK189.out 7).trans rfl; have hfz46_0 := blk_frozen BK189.out 0; have hfz46_1 := blk_frozen BK189.out 1; have hfz46_2 := blk_frozen BK189.out 2; have hfz46_3 := blk_frozen BK189.out 3; have hfz46_4 := blk_frozen BK189.out 4; have hfz46_5 := blk_frozen BK189.out 5; have hfz46_6 := blk_frozen BK189.out 6; have hfz46_7 := blk_frozen BK189.out 7))
                                go_ret
                                exact ⟨by first | rfl | (simp [errW_none, errW_some] <;> rfl) | (simp [*, errW_none, errW_some] <;> rfl), by repeat (first | (with_reducible first | exact HB.out | apply below_alloc | apply pw_below_drewN | apply below_drew1 | refine below_set ?_ GE189.out | refine below_set ?_ GE197.out) | exact HB.out)⟩
                            · rw [if_neg c35] at H
                              have c35b0 : (((rd_T50 l0 ((rd_T50 l0 x31_2).f6)).f6) == ((rd_T50 l0 x31_2).f6)) = false := beq_eq_false_iff_ne.mpr c35
                              have c35b1 : (((rd_T50 l0 ((rd_T50 l0 x31_2).f6)).f6) != ((rd_T50 l0 x31_2).f6)) = true := bne_iff_ne.mpr c35
                              obtain rfl := Option.some.inj H
                              have hcz47_0 : wc.cell? ⟨gb189, 0, none⟩ = some (.string ((rd_T50 l0 x31_2).f0)) := (blk_cell BK189.out 0).trans rfl
                              have hcz47_1 : wc.cell? ⟨gb189, 1, none⟩ = some (.int .i64 ((rd_T50 l0 x31_2).f1)) := (blk_cell BK189.out 1).trans rfl
                              have hcz47_2 : wc.cell? ⟨gb189, 2, none⟩ = some (.int .i64 ((rd_T50 l0 x31_2).f2)) := (blk_cell BK189.out 2).trans rfl
                              have hcz47_3 : wc.cell? ⟨gb189, 3, none⟩ = some (.int .i64 ((rd_T50 l0 x31_2).f3)) := (blk_cell BK189.out 3).trans rfl
                              have hcz47_4 : wc.cell? ⟨gb189, 4, none⟩ = some (.int .i64 ((rd_T50 l0 x31_2).f4)) := (blk_cell BK189.out 4).trans rfl
                              have hcz47_5 : wc.cell? ⟨gb189, 5, none⟩ = some (.int .i64 ((rd_T50 l0 x31_2).f5)) := (blk_cell BK189.out 5).trans rfl
                              have hcz47_6 : wc.cell? ⟨gb189, 6, none⟩ = some (.int .i64 ((rd_T50 l0 x31_2).f6)) := (blk_cell BK189.out 6).trans rfl
                              have hcz47_7 : wc.cell? ⟨gb189, 7, none⟩ = some (.string ((rd_T50 l0 x31_2).f7)) := (blk_cell BK189.out 7).trans rfl
                              have hfz47_0 := blk_frozen BK189.out 0
                              have hfz47_1 := blk_frozen BK189.out 1
                              have hfz47_2 := blk_frozen BK189.out 2
                              have hfz47_3 := blk_frozen BK189.out 3
                              have hfz47_4 := blk_frozen BK189.out 4
                              have hfz47_5 := blk_frozen BK189.out 5
                              have hfz47_6 := blk_frozen BK189.out 6
                              have hfz47_7 := blk_frozen BK189.out 7
                              have p196 : 0 ≤ (((rd_T50 l0 x31_2).f6) : Int) := of_decide_eq_true (by first | (with_reducible assumption) | assumption)
                              have q196 : ((rd_T50 l0 x31_2).f6) < (l0.length : Int) := of_decide_eq_true (by first | (with_reducible assumption) | assumption)
                              obtain ⟨ad196, e196, hx196_0, hx196_1, hx196_2, hx196_3, hx196_4, hx196_5, hx196_6, hx196_7⟩ := at_T50 HR0.out ((rd_T50 l0 x31_2).f6) p196 q196
                              obtain rfl : ad188 = ad196 := (by injection e196)
                              replace hx196_0 := (HB.out.cell (World.block_lt_of_cell? w _ hx196_0)).trans hx196_0
                              replace hx196_1 := (HB.out.cell (World.block_lt_of_cell? w _ hx196_1)).trans hx196_1
                              replace hx196_2 := (HB.out.cell (World.block_lt_of_cell? w _ hx196_2)).trans hx196_2
                              replace hx196_3 := (HB.out.cell (World.block_lt_of_cell? w _ hx196_3)).trans hx196_3
                              replace hx196_4 := (HB.out.cell (World.block_lt_of_cell? w _ hx196_4)).trans hx196_4
                              replace hx196_5 := (HB.out.cell (World.block_lt_of_cell? w _ hx196_5)).trans hx196_5
                              replace hx196_6 := (HB.out.cell (World.block_lt_of_cell? w _ hx196_6)).trans hx196_6
                              replace hx196_7 := (HB.out.cell (World.block_lt_of_cell? w _ hx196_7)).trans hx196_7
                              replace p196 := eq_true p196
                              replace q196 := eq_true q196
                              go_wp2_with (first | ((with_reducible refine gate_dst (N := 5) rfl ?_); (try (refine gate_guard (by rfl) ?_; dsimp only)); refine box_event ?hg (N := 5) ?hd (cs := #[.string (⟨#[]⟩ : ByteArray), .int .i64 0, .int .i64 0, .int .i64 0, .int .i64 0, .int .i64 0, .int .i64 0, .string (⟨#[]⟩ : ByteArray)]) (t := 50) ?hr ?_; (case hd => rfl); (case hg => rfl); (case hr => first | (go_simp; done) | (go_simp; rfl)); intro gb197 hg w48 hbox hb; have n0_ := Aside0.mk (blk_below (g := gb189) (o := .cells #[.string ((rd_T50 l0 x31_2).f0), .int .i64 ((rd_T50 l0 x31_2).f1), .int .i64 ((rd_T50 l0 x31_2).f2), .int .i64 ((rd_T50 l0 x31_2).f3), .int .i64 ((rd_T50 l0 x31_2).f4), .int .i64 ((rd_T50 l0 x31_2).f5), .int .i64 ((rd_T50 l0 x31_2).f6), .string ((rd_T50 l0 x31_2).f7)] 50 (0, 0)) (by (with_reducible repeat (first | refine blk_drewN ?_ _ | refine blk_drew ?_ | refine blk_alloc ?_ _)); exact BK189.out) hb); have n1_ := Aside0.mk (below_step (by repeat (first | (with_reducible first | exact HB.out | apply below_alloc | apply pw_below_drewN | apply below_drew1 | refine below_set ?_ GE189.out) | exact HB.out)) hb); have n2_ := Aside0.mk (hbox); have n3_ := Aside0.mk ((by rw [hg]; exact (below_size (by repeat (first | (with_reducible first | exact HB.out | apply below_alloc | apply pw_below_drewN | apply below_drew1 | refine below_set ?_ GE189.out) | exact HB.out))) : w.heap.size ≤ gb197)); have n4_ := Aside0.mk ((by rw [hg]; exact (below_size (by repeat (first | (with_reducible first | exact HB.out | apply below_alloc | apply pw_below_drewN | apply below_drew1 | refine below_set ?_ GE189.out) | exact HB.out))) : w.heap.size ≤ gb197)); have n5_ := Aside0.mk ((by rw [hg]; exact Nat.ne_of_lt (blk_lt (g := gb189) (o := .cells #[.string ((rd_T50 l0 x31_2).f0), .int .i64 ((rd_T50 l0 x31_2).f1), .int .i64 ((rd_T50 l0 x31_2).f2), .int .i64 ((rd_T50 l0 x31_2).f3), .int .i64 ((rd_T50 l0 x31_2).f4), .int .i64 ((rd_T50 l0 x31_2).f5), .int .i64 ((rd_T50 l0 x31_2).f6), .string ((rd_T50 l0 x31_2).f7)] 50 (0, 0)) (by (with_reducible repeat (first | refine blk_drewN ?_ _ | refine blk_drew ?_ | refine blk_alloc ?_ _)); exact BK189.out)) : gb189 ≠ gb197)); have n6_ := Aside0.mk ((by rw [hg]; exact Nat.ne_of_gt (blk_lt (g := gb189) (o := .cells #[.string ((rd_T50 l0 x31_2).f0), .int .i64 ((rd_T50 l0 x31_2).f1), .int .i64 ((rd_T50 l0 x31_2).f2), .int .i64 ((rd_T50 l0 x31_2).f3), .int .i64 ((rd_T50 l0 x31_2).f4), .int .i64 ((rd_T50 l0 x31_2).f5), .int .i64 ((rd_T50 l0 x31_2).f6), .string ((rd_T50 l0 x31_2).f7)] 50 (0, 0)) (by (with_reducible repeat (first | refine blk_drewN ?_ _ | refine blk_drew ?_ | refine blk_alloc ?_ _)); exact BK189.out)) : gb197 ≠ gb189)); clear BK189; clear HB; have BK189 := n0_; have HB := n1_; have BK197 := n2_; have GW197 := n3_; have GE197 := n4_; have NB189_197 := n5_; have NB197_189 := n6_; clear n0_ n1_ n2_ n3_ n4_ n5_ n6_; clear hb hbox hg; have hnb49 := NB197_189.out; have hnc49 := NB189_197.out; have hcz50_0 : w48.cell? ⟨gb197, 0, none⟩ = some (.string (⟨#[]⟩ : ByteArray)) := (blk_cell BK197.out 0).trans rfl; have hcz50_1 : w48.cell? ⟨gb197, 1, none⟩ = some (.int .i64 0) := (blk_cell BK197.out 1).trans rfl; have hcz50_2 : w48.cell? ⟨gb197, 2, none⟩ = some (.int .i64 0) := (blk_cell BK197.out 2).trans rfl; have hcz50_3 : w48.cell? ⟨gb197, 3, none⟩ = some (.int .i64 0) := (blk_cell BK197.out 3).trans rfl; have hcz50_4 : w48.cell? ⟨gb197, 4, none⟩ = some (.int .i64 0) := (blk_cell BK197.out 4).trans rfl; have hcz50_5 : w48.cell? ⟨gb197, 5, none⟩ = some (.int .i64 0) := (blk_cell BK197.out 5).trans rfl; have hcz50_6 : w48.cell? ⟨gb197, 6, none⟩ = some (.int .i64 0) := (blk_cell BK197.out 6).trans rfl; have hcz50_7 : w48.cell? ⟨gb197, 7, none⟩ = some (.string (⟨#[]⟩ : ByteArray)) := (blk_cell BK197.out 7).trans rfl; have hfz50_0 := blk_frozen BK197.out 0; have hfz50_1 := blk_frozen BK197.out 1; have hfz50_2 := blk_frozen BK197.out 2; have hfz50_3 := blk_frozen BK197.out 3; have hfz50_4 := blk_frozen BK197.out 4; have hfz50_5 := blk_frozen BK197.out 5; have hfz50_6 := blk_frozen BK197.out 6; have hfz50_7 := blk_frozen BK197.out 7; have hcz51_0 : w48.cell? ⟨gb189, 0, none⟩ = some (.string ((rd_T50 l0 x31_2).f0)) := (blk_cell BK189.out 0).trans rfl; have hcz51_1 : w48.cell? ⟨gb189, 1, none⟩ = some (.int .i64 ((rd_T50 l0 x31_2).f1)) := (blk_cell BK189.out 1).trans rfl; have hcz51_2 : w48.cell? ⟨gb189, 2, none⟩ = some (.int .i64 ((rd_T50 l0 x31_2).f2)) := (blk_cell BK189.out 2).trans rfl; have hcz51_3 : w48.cell? ⟨gb189, 3, none⟩ = some (.int .i64 ((rd_T50 l0 x31_2).f3)) := (blk_cell BK189.out 3).trans rfl; have hcz51_4 : w48.cell? ⟨gb189, 4, none⟩ = some (.int .i64 ((rd_T50 l0 x31_2).f4)) := (blk_cell BK189.out 4).trans rfl; have hcz51_5 : w48.cell? ⟨gb189, 5, none⟩ = some (.int .i64 ((rd_T50 l0 x31_2).f5)) := (blk_cell BK189.out 5).trans rfl; have hcz51_6 : w48.cell? ⟨gb189, 6, none⟩ = some (.int .i64 ((rd_T50 l0 x31_2).f6)) := (blk_cell BK189.out 6).trans rfl; have hcz51_7 : w48.cell? ⟨gb189, 7, none⟩ = some (.string ((rd_T50 l0 x31_2).f7)) := (blk_cell BK189.out 7).trans rfl; have hfz51_0 := blk_frozen BK189.out 0; have hfz51_1 := blk_frozen BK189.out 1; have hfz51_2 := blk_frozen BK189.out 2; have hfz51_3 := blk_frozen BK189.out 3; have hfz51_4 := blk_frozen BK189.out 4; have hfz51_5 := blk_frozen BK189.out 5; have hfz51_6 := blk_frozen BK189.out 6; have hfz51_7 := blk_frozen BK189.out 7))
                              go_ret
                              exact ⟨by first | rfl | (simp [errW_none, errW_some] <;> rfl) | (simp [*, errW_none, errW_some] <;> rfl), by repeat (first | (with_reducible first | exact HB.out | apply below_alloc | apply pw_below_drewN | apply below_drew1 | refine below_set ?_ GE189.out | refine below_set ?_ GE197.out) | exact HB.out)⟩
                          · rw [if_neg c34] at H
                            exact absurd H (by simp)
                        · rw [if_neg c33] at H
                          exact absurd H (by simp)
                · rw [if_neg c11] at H
                  exact absurd H (by simp)
              · rw [if_neg c10] at H
                exact absurd H (by simp)
            · rw [if_neg c9] at H
              have c9b0 : decide (x31_2 < (l0.length : Int)) = false := decide_eq_false c9
              clear c9
              obtain rfl := Option.some.inj H
              go_wp2
              go_ret
              exact ⟨by first | rfl | (simp [errW_none, errW_some] <;> rfl) | (simp [*, errW_none, errW_some] <;> rfl), by repeat (first | (with_reducible first | exact HB.out | apply below_alloc | apply pw_below_drewN | apply below_drew1) | exact HB.out)⟩

end Go.Proofs.YtibfocaldcjiiaaDoor.Q

-- Printed by a program of this session (wip/tools/myprint.py) that runs the kit's print, hand-proved functions among the others.
namespace Go.Proofs.YtibfocaldcjiiaaDoor.Q
open Go.RowKit Go.Proofs.YtibfocaldcjiiaaDoorW.PrintWords Go.Proofs.YtibfocaldcjiiaaDoorW.PrintLast Go.Proofs.YtibfocaldcjiiaaDoorW.PrintMore
attribute [local go_sem] max2_int min2_int max_two min_two max_three min_three max_four min_four   -- for this text's walks alone
set_option linter.unusedVariables false
set_option linter.unusedSimpArgs false

/-! ### spec_GoodItems: function 9 -/
def spec_GoodItems.f (k : Nat) (l0 : List (S50)) : Option (Bool) := (spec_l17Good.f k l0).bind fun t198 => (some t198)
theorem spec_GoodItems.mono : ∀ a0 k, LeO (spec_GoodItems.f k a0) (spec_GoodItems.f (k + 1) a0) := by
  intro a0 k
  unfold spec_GoodItems.f
  repeat' first
      | (with_reducible exact spec_l17Good.mono _ _)
      | (with_reducible exact LeO.refl _)
      | (with_reducible exact LeO.none _)
      | (with_reducible refine LeO.ite ?_ ?_)
      | (with_reducible refine LeO.bind ?_ (fun _ => ?_))
      | exact spec_l17Good.mono _ _
      | exact LeO.none _
      | refine LeO.ite ?_ ?_
      | refine LeO.bind ?_ (fun _ => ?_)
set_option maxHeartbeats 8000000 in
set_option maxRecDepth 100000 in
theorem spec_GoodItems.calls (k : Nat) (A0 : Option Addr) (c0 : Nat) (l0 : List (S50)) (r : Bool) (w : World) (hr0 : Kd.C k50 w A0 l0.length l0) (hc0 : l0.length ≤ c0) (h : spec_GoodItems.f k l0 = some r) :
    Calls Tryd.prog 9 #[.slice A0 l0.length c0] w fun e w' => e = .returned (.bool r) ∧ Below w.heap.size w w' := by
  have HR0 := Aside0.mk hr0
  have HC0 := Aside0.mk hc0
  clear hr0 hc0
  have HB := Aside0.mk (Below.refl w.heap.size w)
  have H : ((spec_l17Good.f k l0).bind fun t198 => (some t198)) = some r := h
  clear h
  replace H := Option.bind_eq_some_iff.mp H
  obtain ⟨t198, A20, H⟩ := H
  replace H : (some t198) = some r := H
  have A2 := Aside0.mk A20
  clear A20
  obtain rfl := Option.some.inj H
  go_enter Tryd.func9, Tryd.ntmps9
  go_wp2_with (first | ((with_reducible refine gate_callee (f := 29) rfl ?_); refine goesL_ (some 4) rfl rfl Tryd.func29 (by kernel_rfl) rfl #[.slice A0 l0.length c0] rfl (by (try simp only [List.map_toArray, List.map_cons, List.map_nil]); first | done | rfl | (simp only [List.length_drop, List.length_take]; rfl)) ?_; (with_reducible refine (spec_l17Good.calls k _ _ l0 t198 _ ?side1 ?side2 A2.out).mono ?_); (case side1 => repeat (first | exact HR0.out | (with_reducible refine Kd.C_alloc ?_ _) | (with_reducible refine Kd.C_drewN ?_ _) | (with_reducible refine Kd.C_drew ?_))); (case side2 => exact HC0.out); rintro e w3 ⟨rfl, hb⟩; refine ⟨_, rfl, ?_⟩; have n0_ := Aside0.mk (below_step (by repeat (first | (with_reducible first | exact HB.out | apply below_alloc | apply pw_below_drewN | apply below_drew1) | exact HB.out)) hb); clear HB; have HB := n0_; clear n0_; (try clear hb); (try clear hb2); (try clear hk); (try clear hi)))
  go_ret
  exact ⟨by first | rfl | (simp [errW_none, errW_some] <;> rfl) | (simp [*, errW_none, errW_some] <;> rfl), by repeat (first | (with_reducible first | exact HB.out | apply below_alloc | apply pw_below_drewN | apply below_drew1) | exact HB.out)⟩

end Go.Proofs.YtibfocaldcjiiaaDoor.Q
