/- Texts of this claim, merged by a program (wip/tools/merge.py): Q37. -/
import Derived.Test.YthhmkbchdiflcaaGreatDoorR1
import Derived.Test.YthhmkbchdiflcaaGreatDoorR5
import Derived.Test.YthhmkbchdiflcaaGreatDoorR14
-- Printed by a program of this session (wip/tools/myprint.py) that runs the kit's print, hand-proved functions among the others.
namespace Go.Proofs.YthhmkbchdiflcaaGreatDoor.Q
open Go.RowKit Go.Proofs.YthhmkbchdiflcaaGreatDoorW.PrintWords Go.Proofs.YthhmkbchdiflcaaGreatDoorW.PrintLast Go.Proofs.YthhmkbchdiflcaaGreatDoorW.PrintMore
attribute [local go_sem] max2_int min2_int max_two min_two max_three min_three max_four min_four   -- for this text's walks alone
set_option linter.unusedVariables false
set_option linter.unusedSimpArgs false

/-! ### spec_l17Good: function 56 -/
mutual
def spec_l17Good.j0 : Nat → List (S74) → Bool → Option (Bool)
 | 0, _, _ => none
 | k + 1, x0, x28 => if x28 = true then (some false) else (spec_l17Good.l0 k x0 x0 (x0.length : Int) 0)
def spec_l17Good.l0 : Nat → List (S74) → List (S74) → Int → Int → Option (Bool)
 | 0, _, _, _, _ => none
 | k + 1, x0, x29, x30, x31 => if x31 < x30 then (if 0 ≤ x31 then (if x31 < (x29.length : Int) then ((spec_l17Alone.f ((rd_T74 x29 x31).f0) ((rd_T74 x29 x31).f1) ((rd_T74 x29 x31).f2) ((rd_T74 x29 x31).f3) ((rd_T74 x29 x31).f4) ((rd_T74 x29 x31).f5) ((rd_T74 x29 x31).f6) ((rd_T74 x29 x31).f7) x31).bind fun t194 => (if t194 = true then (if x31 > 0 then (if x31 ≤ (x0.length : Int) then ((spec_l17Next.f k (x0.take (x31 : Int).toNat) ((rd_T74 x29 x31).f0) ((rd_T74 x29 x31).f1) ((rd_T74 x29 x31).f2) ((rd_T74 x29 x31).f3) ((rd_T74 x29 x31).f4) ((rd_T74 x29 x31).f5) ((rd_T74 x29 x31).f6) ((rd_T74 x29 x31).f7)).bind fun t199 => (spec_l17Good.j2 k x0 x29 x30 x31 (!t199) ((rd_T74 x29 x31).f0) ((rd_T74 x29 x31).f1) ((rd_T74 x29 x31).f2) ((rd_T74 x29 x31).f3) ((rd_T74 x29 x31).f4) ((rd_T74 x29 x31).f5) ((rd_T74 x29 x31).f6) ((rd_T74 x29 x31).f7))) else (none)) else (spec_l17Good.j2 k x0 x29 x30 x31 false ((rd_T74 x29 x31).f0) ((rd_T74 x29 x31).f1) ((rd_T74 x29 x31).f2) ((rd_T74 x29 x31).f3) ((rd_T74 x29 x31).f4) ((rd_T74 x29 x31).f5) ((rd_T74 x29 x31).f6) ((rd_T74 x29 x31).f7))) else (spec_l17Good.j2 k x0 x29 x30 x31 true ((rd_T74 x29 x31).f0) ((rd_T74 x29 x31).f1) ((rd_T74 x29 x31).f2) ((rd_T74 x29 x31).f3) ((rd_T74 x29 x31).f4) ((rd_T74 x29 x31).f5) ((rd_T74 x29 x31).f6) ((rd_T74 x29 x31).f7)))) else (none)) else (none)) else (some true)
def spec_l17Good.j2 : Nat → List (S74) → List (S74) → Int → Int → Bool → ByteArray → Int → Int → Int → Int → Int → Int → ByteArray → Option (Bool)
 | 0, _, _, _, _, _, _, _, _, _, _, _, _, _ => none
 | k + 1, x0, x29, x30, x31, x51, x194000, x194001, x194002, x194003, x194004, x194005, x194006, x194007 => if x51 = true then (some false) else (if 0 ≤ x194006 then (if x194006 < (x0.length : Int) then (if ((rd_T74 x0 x194006).f6) = x194006 then (if ((rd_T74 x0 x194006).f1) = x194001 then (spec_l17Good.l0 k x0 x29 x30 (wrap64 (x31 + 1))) else (some false)) else (some false)) else (none)) else (none))
end
def spec_l17Good.f (k : Nat) (l0 : List (S74)) : Option (Bool) := (spec_l1In.f (l0.length : Int) 1 40).bind fun t189 => (if t189 = true then (if 0 < (l0.length : Int) then (if ((rd_T74 l0 0).f0).toList = ([46] : List UInt8) then (if ((rd_T74 l0 0).f1) = 2 then (spec_l17Good.j0 k l0 false) else (spec_l17Good.j0 k l0 (decide ((l0.length : Int) > 1)))) else (spec_l17Good.j0 k l0 true)) else (none)) else (spec_l17Good.j0 k l0 true))
def spec_l17Good.T6 : Bool × List (List Nat × List Nat) := (true, [([], []), ([], []), ([0, 1], [0, 1]), ([2], [2]), ([3, 2], [3]), ([4], [4]), ([5, 4], [4, 5]), ([6, 4, 4], [4, 6]), ([7], [7]), ([7], [7]), ([8, 9, 7], [7, 8, 9]), ([7], [7]), ([10, 11, 7, 7], [7, 10, 11]), ([12, 7], [7, 12]), ([7, 13, 4], [4, 7, 13]), ([4, 14], [4, 14])])
def spec_l17Good.B6 : List Nat := [0, 0, 3, 7, 15, 31, 63, 127, 255, 255, 1023, 255, 4095, 8191, 16383, 32767]
theorem spec_l17Good.tab6 : rtab .any (opsOf Tryz.f56 6) = spec_l17Good.T6 := by kernel_rfl
theorem spec_l17Good.bits6 : waitsOk spec_l17Good.T6.2 spec_l17Good.B6 = true := by kernel_rfl
set_option maxHeartbeats 8000000 in
set_option maxRecDepth 100000 in
theorem spec_l17Good.calls (k : Nat) (A0 : Option Addr) (c0 : Nat) (l0 : List (S74)) (r : Bool) (w : World) (hr0 : Kd.C k74 w A0 l0.length l0) (hc0 : l0.length ≤ c0) (h : spec_l17Good.f k l0 = some r) :
  Calls Tryz.prog 56 #[.slice A0 l0.length c0] w fun e w' => e = .returned (.bool r) ∧ Below w.heap.size w w' := by
 have hu74 := Tryz.underlying74
 have HR0 := Aside0.mk hr0
 have HC0 := Aside0.mk hc0
 clear hr0 hc0
 have HB := Aside0.mk (Below.refl w.heap.size w)
 have H : ((spec_l1In.f (l0.length : Int) 1 40).bind fun t189 => (if t189 = true then (if 0 < (l0.length : Int) then (if ((rd_T74 l0 0).f0).toList = ([46] : List UInt8) then (if ((rd_T74 l0 0).f1) = 2 then (spec_l17Good.j0 k l0 false) else (spec_l17Good.j0 k l0 (decide ((l0.length : Int) > 1)))) else (spec_l17Good.j0 k l0 true)) else (none)) else (spec_l17Good.j0 k l0 true))) = some r := h
 clear h
 have HC2 := Aside0.mk H
 clear H
 go_enter Tryz.func56, Tryz.ntmps56
 go_upto_region 1 with (fail)
 go_cut [28] (fun v28 wc => ∃ (kq : Nat) (x28_1 : Bool), v28 = .bool x28_1 ∧ Aside0 (spec_l17Good.j0 kq l0 x28_1 = some r) ∧ Aside0 (kq ≤ k) ∧ Aside0 (Below w.heap.size w wc))
 case first =>
  have H := HC2.out
  clear HC2
  replace H := Option.bind_eq_some_iff.mp H
  obtain ⟨t189, A30, H⟩ := H
  try dsimp only at H
  have A3 := Aside0.mk A30
  clear A30
  by_cases c4 : t189 = true
  ·subst c4
   have H1 := H
   rw [if_pos rfl] at H1
   clear H
   have H := H1
   clear H1
   refine Or.elim (Classical.em (0 < (l0.length : Int))) (fun c5 => ?_) (fun c5 => by rw [if_neg c5] at H; exact absurd H (by simp))
   rw [if_pos c5] at H
   have c5b0 : decide (0 < (l0.length : Int)) = true := decide_eq_true c5
   have c5b1 : decide (0 < l0.length) = true := decide_eq_true (by omega)
   clear c5
   (first | rw [c5b0] | (simp only [i64_w, i32_w]; rw [c5b0]) | skip)
   by_cases c6 : ((rd_T74 l0 0).f0).toList = ([46] : List UInt8)
   ·rw [if_pos c6] at H
    have c6b0 : (((rd_T74 l0 0).f0).toList == ([46] : List UInt8)) = true := beq_iff_eq.mpr c6
    have c6b1 : (((rd_T74 l0 0).f0).toList != ([46] : List UInt8)) = false := bne_eq_false_iff_eq.mpr c6
    clear c6
    by_cases c7 : ((rd_T74 l0 0).f1) = 2
    ·rw [if_pos c7] at H
     have c7b0 : (((rd_T74 l0 0).f1) == 2) = true := beq_iff_eq.mpr c7
     have c7b1 : (((rd_T74 l0 0).f1) != 2) = false := bne_eq_false_iff_eq.mpr c7
     clear c7
     have H' := Aside0.mk H
     clear H
     go_wp2_with (first | ((with_reducible refine gate_callee (f := 108) rfl ?_); refine goesL_ (some 8) rfl rfl Tryz.func108 (by kernel_rfl) rfl #[.int .i64 (l0.length : Int), .int .i64 1, .int .i64 40] rfl (by (try simp only [List.map_toArray, List.map_cons, List.map_nil]); first | done | rfl | (simp only [List.length_drop, List.length_take]; rfl)) ?_; (with_reducible refine (spec_l1In.calls (l0.length : Int) 1 40 true _ A3.out).mono ?_); rintro e w' ⟨rfl, ⟨nd, rfl⟩⟩; refine ⟨_, rfl, ?_⟩; have p190 : 0 ≤ (0 : Int) := (by omega); have q190 : 0 < (l0.length : Int) := of_decide_eq_true (by first | (with_reducible assumption) | assumption); obtain ⟨ad190, e190, hx190_0, hx190_1, hx190_2, hx190_3, hx190_4, hx190_5, hx190_6, hx190_7⟩ := at_T74 HR0.out 0 p190 q190; cases e190; have qi190 : (0 < l0.length) = True := eq_true (by omega); (try rw [show ((0 : Int)).toNat = 0 from rfl] at hx190_0); (try rw [show 0 * 8 = 0 from rfl] at hx190_0); (try rw [Addr.add_zero'] at hx190_0); (try rw [show ((0 : Int)).toNat = 0 from rfl] at hx190_1); (try rw [show 0 * 8 = 0 from rfl] at hx190_1); (try rw [Addr.add_zero'] at hx190_1); (try rw [show ((0 : Int)).toNat = 0 from rfl] at hx190_2); (try rw [show 0 * 8 = 0 from rfl] at hx190_2); (try rw [Addr.add_zero'] at hx190_2); (try rw [show ((0 : Int)).toNat = 0 from rfl] at hx190_3); (try rw [show 0 * 8 = 0 from rfl] at hx190_3); (try rw [Addr.add_zero'] at hx190_3); (try rw [show ((0 : Int)).toNat = 0 from rfl] at hx190_4); (try rw [show 0 * 8 = 0 from rfl] at hx190_4); (try rw [Addr.add_zero'] at hx190_4); (try rw [show ((0 : Int)).toNat = 0 from rfl] at hx190_5); (try rw [show 0 * 8 = 0 from rfl] at hx190_5); (try rw [Addr.add_zero'] at hx190_5); (try rw [show ((0 : Int)).toNat = 0 from rfl] at hx190_6); (try rw [show 0 * 8 = 0 from rfl] at hx190_6); (try rw [Addr.add_zero'] at hx190_6); (try rw [show ((0 : Int)).toNat = 0 from rfl] at hx190_7); (try rw [show 0 * 8 = 0 from rfl] at hx190_7); (try rw [Addr.add_zero'] at hx190_7); replace hx190_0 := (HB.out.cell (World.block_lt_of_cell? w _ hx190_0)).trans hx190_0; replace hx190_1 := (HB.out.cell (World.block_lt_of_cell? w _ hx190_1)).trans hx190_1; replace hx190_2 := (HB.out.cell (World.block_lt_of_cell? w _ hx190_2)).trans hx190_2; replace hx190_3 := (HB.out.cell (World.block_lt_of_cell? w _ hx190_3)).trans hx190_3; replace hx190_4 := (HB.out.cell (World.block_lt_of_cell? w _ hx190_4)).trans hx190_4; replace hx190_5 := (HB.out.cell (World.block_lt_of_cell? w _ hx190_5)).trans hx190_5; replace hx190_6 := (HB.out.cell (World.block_lt_of_cell? w _ hx190_6)).trans hx190_6; replace hx190_7 := (HB.out.cell (World.block_lt_of_cell? w _ hx190_7)).trans hx190_7; replace p190 := eq_true p190; replace q190 := eq_true q190; have p191 : 0 ≤ (0 : Int) := (by omega); have q191 : 0 < (l0.length : Int) := of_decide_eq_true (by first | (with_reducible assumption) | assumption); obtain ⟨ad191, e191, hx191_0, hx191_1, hx191_2, hx191_3, hx191_4, hx191_5, hx191_6, hx191_7⟩ := at_T74 HR0.out 0 p191 q191; obtain rfl : ad190 = ad191 := (by injection e191); have qi191 : (0 < l0.length) = True := eq_true (by omega); (try rw [show ((0 : Int)).toNat = 0 from rfl] at hx191_0); (try rw [show 0 * 8 = 0 from rfl] at hx191_0); (try rw [Addr.add_zero'] at hx191_0); (try rw [show ((0 : Int)).toNat = 0 from rfl] at hx191_1); (try rw [show 0 * 8 = 0 from rfl] at hx191_1); (try rw [Addr.add_zero'] at hx191_1); (try rw [show ((0 : Int)).toNat = 0 from rfl] at hx191_2); (try rw [show 0 * 8 = 0 from rfl] at hx191_2); (try rw [Addr.add_zero'] at hx191_2); (try rw [show ((0 : Int)).toNat = 0 from rfl] at hx191_3); (try rw [show 0 * 8 = 0 from rfl] at hx191_3); (try rw [Addr.add_zero'] at hx191_3); (try rw [show ((0 : Int)).toNat = 0 from rfl] at hx191_4); (try rw [show 0 * 8 = 0 from rfl] at hx191_4); (try rw [Addr.add_zero'] at hx191_4); (try rw [show ((0 : Int)).toNat = 0 from rfl] at hx191_5); (try rw [show 0 * 8 = 0 from rfl] at hx191_5); (try rw [Addr.add_zero'] at hx191_5); (try rw [show ((0 : Int)).toNat = 0 from rfl] at hx191_6); (try rw [show 0 * 8 = 0 from rfl] at hx191_6); (try rw [Addr.add_zero'] at hx191_6); (try rw [show ((0 : Int)).toNat = 0 from rfl] at hx191_7); (try rw [show 0 * 8 = 0 from rfl] at hx191_7); (try rw [Addr.add_zero'] at hx191_7); replace hx191_0 := (HB.out.cell (World.block_lt_of_cell? w _ hx191_0)).trans hx191_0; replace hx191_1 := (HB.out.cell (World.block_lt_of_cell? w _ hx191_1)).trans hx191_1; replace hx191_2 := (HB.out.cell (World.block_lt_of_cell? w _ hx191_2)).trans hx191_2; replace hx191_3 := (HB.out.cell (World.block_lt_of_cell? w _ hx191_3)).trans hx191_3; replace hx191_4 := (HB.out.cell (World.block_lt_of_cell? w _ hx191_4)).trans hx191_4; replace hx191_5 := (HB.out.cell (World.block_lt_of_cell? w _ hx191_5)).trans hx191_5; replace hx191_6 := (HB.out.cell (World.block_lt_of_cell? w _ hx191_6)).trans hx191_6; replace hx191_7 := (HB.out.cell (World.block_lt_of_cell? w _ hx191_7)).trans hx191_7; replace p191 := eq_true p191; replace q191 := eq_true q191))
     go_meet
     case rel => exact ⟨_, (false), (by first | rfl | (simp; done) | (simp [*]; done)), H', ⟨by first | omega | exact Nat.le_refl _⟩, ⟨(Gtr.bw HB.out)⟩⟩
    ·rw [if_neg c7] at H
     have c7b0 : (((rd_T74 l0 0).f1) == 2) = false := beq_eq_false_iff_ne.mpr c7
     have c7b1 : (((rd_T74 l0 0).f1) != 2) = true := bne_iff_ne.mpr c7
     have H' := Aside0.mk H
     clear H
     go_wp2_with (first | ((with_reducible refine gate_callee (f := 108) rfl ?_); refine goesL_ (some 8) rfl rfl Tryz.func108 (by kernel_rfl) rfl #[.int .i64 (l0.length : Int), .int .i64 1, .int .i64 40] rfl (by (try simp only [List.map_toArray, List.map_cons, List.map_nil]); first | done | rfl | (simp only [List.length_drop, List.length_take]; rfl)) ?_; (with_reducible refine (spec_l1In.calls (l0.length : Int) 1 40 true _ A3.out).mono ?_); rintro e w' ⟨rfl, ⟨nd, rfl⟩⟩; refine ⟨_, rfl, ?_⟩; have p190 : 0 ≤ (0 : Int) := (by omega); have q190 : 0 < (l0.length : Int) := of_decide_eq_true (by first | (with_reducible assumption) | assumption); obtain ⟨ad190, e190, hx190_0, hx190_1, hx190_2, hx190_3, hx190_4, hx190_5, hx190_6, hx190_7⟩ := at_T74 HR0.out 0 p190 q190; cases e190; have qi190 : (0 < l0.length) = True := eq_true (by omega); (try rw [show ((0 : Int)).toNat = 0 from rfl] at hx190_0); (try rw [show 0 * 8 = 0 from rfl] at hx190_0); (try rw [Addr.add_zero'] at hx190_0); (try rw [show ((0 : Int)).toNat = 0 from rfl] at hx190_1); (try rw [show 0 * 8 = 0 from rfl] at hx190_1); (try rw [Addr.add_zero'] at hx190_1); (try rw [show ((0 : Int)).toNat = 0 from rfl] at hx190_2); (try rw [show 0 * 8 = 0 from rfl] at hx190_2); (try rw [Addr.add_zero'] at hx190_2); (try rw [show ((0 : Int)).toNat = 0 from rfl] at hx190_3); (try rw [show 0 * 8 = 0 from rfl] at hx190_3); (try rw [Addr.add_zero'] at hx190_3); (try rw [show ((0 : Int)).toNat = 0 from rfl] at hx190_4); (try rw [show 0 * 8 = 0 from rfl] at hx190_4); (try rw [Addr.add_zero'] at hx190_4); (try rw [show ((0 : Int)).toNat = 0 from rfl] at hx190_5); (try rw [show 0 * 8 = 0 from rfl] at hx190_5); (try rw [Addr.add_zero'] at hx190_5); (try rw [show ((0 : Int)).toNat = 0 from rfl] at hx190_6); (try rw [show 0 * 8 = 0 from rfl] at hx190_6); (try rw [Addr.add_zero'] at hx190_6); (try rw [show ((0 : Int)).toNat = 0 from rfl] at hx190_7); (try rw [show 0 * 8 = 0 from rfl] at hx190_7); (try rw [Addr.add_zero'] at hx190_7); replace hx190_0 := (HB.out.cell (World.block_lt_of_cell? w _ hx190_0)).trans hx190_0; replace hx190_1 := (HB.out.cell (World.block_lt_of_cell? w _ hx190_1)).trans hx190_1; replace hx190_2 := (HB.out.cell (World.block_lt_of_cell? w _ hx190_2)).trans hx190_2; replace hx190_3 := (HB.out.cell (World.block_lt_of_cell? w _ hx190_3)).trans hx190_3; replace hx190_4 := (HB.out.cell (World.block_lt_of_cell? w _ hx190_4)).trans hx190_4; replace hx190_5 := (HB.out.cell (World.block_lt_of_cell? w _ hx190_5)).trans hx190_5; replace hx190_6 := (HB.out.cell (World.block_lt_of_cell? w _ hx190_6)).trans hx190_6; replace hx190_7 := (HB.out.cell (World.block_lt_of_cell? w _ hx190_7)).trans hx190_7; replace p190 := eq_true p190; replace q190 := eq_true q190; have p191 : 0 ≤ (0 : Int) := (by omega); have q191 : 0 < (l0.length : Int) := of_decide_eq_true (by first | (with_reducible assumption) | assumption); obtain ⟨ad191, e191, hx191_0, hx191_1, hx191_2, hx191_3, hx191_4, hx191_5, hx191_6, hx191_7⟩ := at_T74 HR0.out 0 p191 q191; obtain rfl : ad190 = ad191 := (by injection e191); have qi191 : (0 < l0.length) = True := eq_true (by omega); (try rw [show ((0 : Int)).toNat = 0 from rfl] at hx191_0); (try rw [show 0 * 8 = 0 from rfl] at hx191_0); (try rw [Addr.add_zero'] at hx191_0); (try rw [show ((0 : Int)).toNat = 0 from rfl] at hx191_1); (try rw [show 0 * 8 = 0 from rfl] at hx191_1); (try rw [Addr.add_zero'] at hx191_1); (try rw [show ((0 : Int)).toNat = 0 from rfl] at hx191_2); (try rw [show 0 * 8 = 0 from rfl] at hx191_2); (try rw [Addr.add_zero'] at hx191_2); (try rw [show ((0 : Int)).toNat = 0 from rfl] at hx191_3); (try rw [show 0 * 8 = 0 from rfl] at hx191_3); (try rw [Addr.add_zero'] at hx191_3); (try rw [show ((0 : Int)).toNat = 0 from rfl] at hx191_4); (try rw [show 0 * 8 = 0 from rfl] at hx191_4); (try rw [Addr.add_zero'] at hx191_4); (try rw [show ((0 : Int)).toNat = 0 from rfl] at hx191_5); (try rw [show 0 * 8 = 0 from rfl] at hx191_5); (try rw [Addr.add_zero'] at hx191_5); (try rw [show ((0 : Int)).toNat = 0 from rfl] at hx191_6); (try rw [show 0 * 8 = 0 from rfl] at hx191_6); (try rw [Addr.add_zero'] at hx191_6); (try rw [show ((0 : Int)).toNat = 0 from rfl] at hx191_7); (try rw [show 0 * 8 = 0 from rfl] at hx191_7); (try rw [Addr.add_zero'] at hx191_7); replace hx191_0 := (HB.out.cell (World.block_lt_of_cell? w _ hx191_0)).trans hx191_0; replace hx191_1 := (HB.out.cell (World.block_lt_of_cell? w _ hx191_1)).trans hx191_1; replace hx191_2 := (HB.out.cell (World.block_lt_of_cell? w _ hx191_2)).trans hx191_2; replace hx191_3 := (HB.out.cell (World.block_lt_of_cell? w _ hx191_3)).trans hx191_3; replace hx191_4 := (HB.out.cell (World.block_lt_of_cell? w _ hx191_4)).trans hx191_4; replace hx191_5 := (HB.out.cell (World.block_lt_of_cell? w _ hx191_5)).trans hx191_5; replace hx191_6 := (HB.out.cell (World.block_lt_of_cell? w _ hx191_6)).trans hx191_6; replace hx191_7 := (HB.out.cell (World.block_lt_of_cell? w _ hx191_7)).trans hx191_7; replace p191 := eq_true p191; replace q191 := eq_true q191))
     go_meet
     case rel => exact ⟨_, (decide ((l0.length : Int) > 1)), (by first | rfl | (simp; done) | (simp [*]; done)), H', ⟨by first | omega | exact Nat.le_refl _⟩, ⟨(Gtr.bw HB.out)⟩⟩
   ·rw [if_neg c6] at H
    have c6b0 : (((rd_T74 l0 0).f0).toList == ([46] : List UInt8)) = false := beq_eq_false_iff_ne.mpr c6
    have c6b1 : (((rd_T74 l0 0).f0).toList != ([46] : List UInt8)) = true := bne_iff_ne.mpr c6
    have H' := Aside0.mk H
    clear H
    go_wp2_with (first | ((with_reducible refine gate_callee (f := 108) rfl ?_); refine goesL_ (some 8) rfl rfl Tryz.func108 (by kernel_rfl) rfl #[.int .i64 (l0.length : Int), .int .i64 1, .int .i64 40] rfl (by (try simp only [List.map_toArray, List.map_cons, List.map_nil]); first | done | rfl | (simp only [List.length_drop, List.length_take]; rfl)) ?_; (with_reducible refine (spec_l1In.calls (l0.length : Int) 1 40 true _ A3.out).mono ?_); rintro e w' ⟨rfl, ⟨nd, rfl⟩⟩; refine ⟨_, rfl, ?_⟩; have p190 : 0 ≤ (0 : Int) := (by omega); have q190 : 0 < (l0.length : Int) := of_decide_eq_true (by first | (with_reducible assumption) | assumption); obtain ⟨ad190, e190, hx190_0, hx190_1, hx190_2, hx190_3, hx190_4, hx190_5, hx190_6, hx190_7⟩ := at_T74 HR0.out 0 p190 q190; cases e190; have qi190 : (0 < l0.length) = True := eq_true (by omega); (try rw [show ((0 : Int)).toNat = 0 from rfl] at hx190_0); (try rw [show 0 * 8 = 0 from rfl] at hx190_0); (try rw [Addr.add_zero'] at hx190_0); (try rw [show ((0 : Int)).toNat = 0 from rfl] at hx190_1); (try rw [show 0 * 8 = 0 from rfl] at hx190_1); (try rw [Addr.add_zero'] at hx190_1); (try rw [show ((0 : Int)).toNat = 0 from rfl] at hx190_2); (try rw [show 0 * 8 = 0 from rfl] at hx190_2); (try rw [Addr.add_zero'] at hx190_2); (try rw [show ((0 : Int)).toNat = 0 from rfl] at hx190_3); (try rw [show 0 * 8 = 0 from rfl] at hx190_3); (try rw [Addr.add_zero'] at hx190_3); (try rw [show ((0 : Int)).toNat = 0 from rfl] at hx190_4); (try rw [show 0 * 8 = 0 from rfl] at hx190_4); (try rw [Addr.add_zero'] at hx190_4); (try rw [show ((0 : Int)).toNat = 0 from rfl] at hx190_5); (try rw [show 0 * 8 = 0 from rfl] at hx190_5); (try rw [Addr.add_zero'] at hx190_5); (try rw [show ((0 : Int)).toNat = 0 from rfl] at hx190_6); (try rw [show 0 * 8 = 0 from rfl] at hx190_6); (try rw [Addr.add_zero'] at hx190_6); (try rw [show ((0 : Int)).toNat = 0 from rfl] at hx190_7); (try rw [show 0 * 8 = 0 from rfl] at hx190_7); (try rw [Addr.add_zero'] at hx190_7); replace hx190_0 := (HB.out.cell (World.block_lt_of_cell? w _ hx190_0)).trans hx190_0; replace hx190_1 := (HB.out.cell (World.block_lt_of_cell? w _ hx190_1)).trans hx190_1; replace hx190_2 := (HB.out.cell (World.block_lt_of_cell? w _ hx190_2)).trans hx190_2; replace hx190_3 := (HB.out.cell (World.block_lt_of_cell? w _ hx190_3)).trans hx190_3; replace hx190_4 := (HB.out.cell (World.block_lt_of_cell? w _ hx190_4)).trans hx190_4; replace hx190_5 := (HB.out.cell (World.block_lt_of_cell? w _ hx190_5)).trans hx190_5; replace hx190_6 := (HB.out.cell (World.block_lt_of_cell? w _ hx190_6)).trans hx190_6; replace hx190_7 := (HB.out.cell (World.block_lt_of_cell? w _ hx190_7)).trans hx190_7; replace p190 := eq_true p190; replace q190 := eq_true q190))
    go_meet
    case rel => exact ⟨_, (true), (by first | rfl | (simp; done) | (simp [*]; done)), H', ⟨by first | omega | exact Nat.le_refl _⟩, ⟨(Gtr.bw HB.out)⟩⟩
  ·replace c4 := Bool.eq_false_iff.mpr c4
   subst c4
   have H1 : (spec_l17Good.j0 k l0 true) = some r := by rw [if_neg (show ¬ (false = true) by decide)] at H; exact H
   clear H
   have H := H1
   clear H1
   have H' := Aside0.mk H
   clear H
   go_wp2_with (first | ((with_reducible refine gate_callee (f := 108) rfl ?_); refine goesL_ (some 8) rfl rfl Tryz.func108 (by kernel_rfl) rfl #[.int .i64 (l0.length : Int), .int .i64 1, .int .i64 40] rfl (by (try simp only [List.map_toArray, List.map_cons, List.map_nil]); first | done | rfl | (simp only [List.length_drop, List.length_take]; rfl)) ?_; (with_reducible refine (spec_l1In.calls (l0.length : Int) 1 40 false _ A3.out).mono ?_); rintro e w' ⟨rfl, ⟨nd, rfl⟩⟩; refine ⟨_, rfl, ?_⟩))
   go_meet
   case rel => exact ⟨_, (true), (by first | rfl | (simp; done) | (simp [*]; done)), H', ⟨by first | omega | exact Nat.le_refl _⟩, ⟨(Gtr.bw HB.out)⟩⟩
 case rest =>
  clear HC2
  (try clear c1);(try clear p1);(try clear q1);(try clear hx1);(try clear qi1);(try clear p2);(try clear c4);(try clear c5);(try clear c5b0);(try clear c5b1);(try clear c6);(try clear c6b0);(try clear c6b1);(try clear c7);(try clear c7b0);(try clear c7b1);(try clear hx190_0);(try clear hx190_1);(try clear hx190_2);(try clear hx190_3);(try clear hx190_4);(try clear hx190_5);(try clear hx190_6);(try clear hx190_7);(try clear hx191_0);(try clear hx191_1);(try clear hx191_2);(try clear hx191_3);(try clear hx191_4);(try clear hx191_5);(try clear hx191_6);(try clear hx191_7);(try clear p190);(try clear p191);(try clear q190);(try clear q191)
  obtain ⟨kq, x28_1, rfl, HA, HJ1, HB⟩ := hcut
  cases kq with
  | zero => exact absurd HA.out (by simp [spec_l17Good.j0])
  | succ kj1 =>
   have H := HA.out
   clear HA
   simp only [spec_l17Good.j0] at H
   by_cases c8 : x28_1 = true
   ·subst c8
    have H1 := H
    rw [if_pos rfl] at H1
    clear H
    have H := H1
    clear H1
    obtain rfl := Option.some.inj H
    go_wp2
    go_ret
    exact ⟨by first | rfl | (simp [errW_none, errW_some] <;> rfl) | (simp [*, errW_none, errW_some] <;> rfl), (Gtr.bw HB.out)⟩
   ·replace c8 := Bool.eq_false_iff.mpr c8
    subst c8
    have H1 : (spec_l17Good.l0 kj1 l0 l0 (l0.length : Int) 0) = some r := by rw [if_neg (show ¬ (false = true) by decide)] at H; exact H
    clear H
    have H := H1
    clear H1
    have H' := Aside0.mk H
    clear H
    go_wp2
    go_loopg [31] kj1 (fun kq v31 w' => ∃ (x31_2 : Int), v31 = .int .i64 x31_2 ∧ Aside0 (spec_l17Good.l0 kq l0 l0 (l0.length : Int) x31_2 = some r) ∧ Aside0 (kq ≤ kj1) ∧ Aside0 (Below w.heap.size w w'))
    case atStart => exact ⟨(0), (by first | rfl | (simp; done) | (simp [*]; done)), H', ⟨Nat.le_refl _⟩, ⟨(Gtr.bw HB.out)⟩⟩
    case round =>
     clear H'
     (try clear c1);(try clear p1);(try clear q1);(try clear hx1);(try clear qi1);(try clear p2);(try clear c4);(try clear c5);(try clear c5b0);(try clear c5b1);(try clear c6);(try clear c6b0);(try clear c6b1);(try clear c7);(try clear c7b0);(try clear c7b1);(try clear c8);(try clear hx190_0);(try clear hx190_1);(try clear hx190_2);(try clear hx190_3);(try clear hx190_4);(try clear hx190_5);(try clear hx190_6);(try clear hx190_7);(try clear hx191_0);(try clear hx191_1);(try clear hx191_2);(try clear hx191_3);(try clear hx191_4);(try clear hx191_5);(try clear hx191_6);(try clear hx191_7);(try clear p1);(try clear p190);(try clear p191);(try clear p2);(try clear q1);(try clear q190);(try clear q191)
     obtain ⟨x31_2, rfl, HA, HK2, HB⟩ := hrel
     cases gk with
     | zero => exact absurd HA.out (by simp [spec_l17Good.l0])
     | succ k2 =>
      have H := HA.out
      clear HA
      simp only [spec_l17Good.l0] at H
      by_cases c9 : x31_2 < (l0.length : Int)
      ·rw [if_pos c9] at H
       have c9b0 : decide (x31_2 < (l0.length : Int)) = true := decide_eq_true c9
       clear c9
       refine Or.elim (Classical.em (0 ≤ x31_2)) (fun c10 => ?_) (fun c10 => by rw [if_neg c10] at H; exact absurd H (by simp))
       rw [if_pos c10] at H
       have c10b0 : decide (0 ≤ x31_2) = true := decide_eq_true c10
       clear c10
       refine Or.elim (Classical.em (x31_2 < (l0.length : Int))) (fun c11 => ?_) (fun c11 => by rw [if_neg c11] at H; exact absurd H (by simp))
       rw [if_pos c11] at H
       have c11b0 : decide (x31_2 < (l0.length : Int)) = true := decide_eq_true c11
       clear c11
       have HC12 := Aside0.mk H
       clear H
       have p192 : 0 ≤ (x31_2 : Int) := of_decide_eq_true (by first | (with_reducible assumption) | assumption)
       have q192 : x31_2 < (l0.length : Int) := of_decide_eq_true (by first | (with_reducible assumption) | assumption)
       obtain ⟨ad192, e192, hx192_0, hx192_1, hx192_2, hx192_3, hx192_4, hx192_5, hx192_6, hx192_7⟩ := at_T74 HR0.out x31_2 p192 q192
       cases e192
       replace hx192_0 := (HB.out.cell (World.block_lt_of_cell? w _ hx192_0)).trans hx192_0
       replace hx192_1 := (HB.out.cell (World.block_lt_of_cell? w _ hx192_1)).trans hx192_1
       replace hx192_2 := (HB.out.cell (World.block_lt_of_cell? w _ hx192_2)).trans hx192_2
       replace hx192_3 := (HB.out.cell (World.block_lt_of_cell? w _ hx192_3)).trans hx192_3
       replace hx192_4 := (HB.out.cell (World.block_lt_of_cell? w _ hx192_4)).trans hx192_4
       replace hx192_5 := (HB.out.cell (World.block_lt_of_cell? w _ hx192_5)).trans hx192_5
       replace hx192_6 := (HB.out.cell (World.block_lt_of_cell? w _ hx192_6)).trans hx192_6
       replace hx192_7 := (HB.out.cell (World.block_lt_of_cell? w _ hx192_7)).trans hx192_7
       replace p192 := eq_true p192
       replace q192 := eq_true q192
       go_upto_region 6 with (first | ((with_reducible refine gate_dst (N := 4) rfl ?_); (try (refine gate_guard (by rfl) ?_; dsimp only)); refine box_event ?hg (N := 4) ?hd (cs := #[.string (⟨#[]⟩ : ByteArray), .int .i64 0, .int .i64 0, .int .i64 0, .int .i64 0, .int .i64 0, .int .i64 0, .string (⟨#[]⟩ : ByteArray)]) (t := 74) ?hr ?_; (case hd => rfl); (case hg => rfl); (case hr => first | (go_simp; done) | (go_simp; rfl)); intro gb193 hg w13 hbox hb; have n0_ := Aside0.mk (below_step (Gtr.bw HB.out) hb); have n1_ := Aside0.mk (hbox); have n2_ := Aside0.mk ((by rw [hg]; exact (below_size (Gtr.bw HB.out)) : w.heap.size ≤ gb193)); have n3_ := Aside0.mk ((by rw [hg]; exact (below_size (Gtr.bw HB.out)) : w.heap.size ≤ gb193)); clear HB; have HB := n0_; have BK193 := n1_; have GW193 := n2_; have GE193 := n3_; clear n0_ n1_ n2_ n3_; clear hb hbox hg; have hcz14_0 : w13.cell? ⟨gb193, 0, none⟩ = some (.string (⟨#[]⟩ : ByteArray)) := (blk_cell BK193.out 0).trans rfl; have hcz14_1 : w13.cell? ⟨gb193, 1, none⟩ = some (.int .i64 0) := (blk_cell BK193.out 1).trans rfl; have hcz14_2 : w13.cell? ⟨gb193, 2, none⟩ = some (.int .i64 0) := (blk_cell BK193.out 2).trans rfl; have hcz14_3 : w13.cell? ⟨gb193, 3, none⟩ = some (.int .i64 0) := (blk_cell BK193.out 3).trans rfl; have hcz14_4 : w13.cell? ⟨gb193, 4, none⟩ = some (.int .i64 0) := (blk_cell BK193.out 4).trans rfl; have hcz14_5 : w13.cell? ⟨gb193, 5, none⟩ = some (.int .i64 0) := (blk_cell BK193.out 5).trans rfl; have hcz14_6 : w13.cell? ⟨gb193, 6, none⟩ = some (.int .i64 0) := (blk_cell BK193.out 6).trans rfl; have hcz14_7 : w13.cell? ⟨gb193, 7, none⟩ = some (.string (⟨#[]⟩ : ByteArray)) := (blk_cell BK193.out 7).trans rfl; have hfz14_0 := blk_frozen BK193.out 0; have hfz14_1 := blk_frozen BK193.out 1; have hfz14_2 := blk_frozen BK193.out 2; have hfz14_3 := blk_frozen BK193.out 3; have hfz14_4 := blk_frozen BK193.out 4; have hfz14_5 := blk_frozen BK193.out 5; have hfz14_6 := blk_frozen BK193.out 6; have hfz14_7 := blk_frozen BK193.out 7))
       (try simp only [Act.put, List.setIfInBounds_toArray, List.set_cons_zero, List.set_cons_succ])
       go_cut [51] (fun v51 wc => ∃ (kq : Nat) (x51_11 : Bool), v51 = .bool x51_11 ∧ Aside0 (spec_l17Good.j2 kq l0 l0 (l0.length : Int) x31_2 x51_11 ((rd_T74 l0 x31_2).f0) ((rd_T74 l0 x31_2).f1) ((rd_T74 l0 x31_2).f2) ((rd_T74 l0 x31_2).f3) ((rd_T74 l0 x31_2).f4) ((rd_T74 l0 x31_2).f5) ((rd_T74 l0 x31_2).f6) ((rd_T74 l0 x31_2).f7) = some r) ∧ Aside0 (kq ≤ k2) ∧ Aside0 (wc.heap[gb193]? = some (.cells #[.string ((rd_T74 l0 x31_2).f0), .int .i64 ((rd_T74 l0 x31_2).f1), .int .i64 ((rd_T74 l0 x31_2).f2), .int .i64 ((rd_T74 l0 x31_2).f3), .int .i64 ((rd_T74 l0 x31_2).f4), .int .i64 ((rd_T74 l0 x31_2).f5), .int .i64 ((rd_T74 l0 x31_2).f6), .string ((rd_T74 l0 x31_2).f7)] 74 (0, 0))) ∧ Aside0 (Below w.heap.size w wc))
       case first =>
        have H := HC12.out
        clear HC12
        replace H := Option.bind_eq_some_iff.mp H
        obtain ⟨t194, A150, H⟩ := H
        try dsimp only at H
        have A15 := Aside0.mk A150
        clear A150
        by_cases c16 : t194 = true
        ·subst c16
         have H1 := H
         rw [if_pos rfl] at H1
         clear H
         have H := H1
         clear H1
         by_cases c17 : x31_2 > 0
         ·rw [if_pos c17] at H
          have c17b0 : decide (0 < x31_2) = true := decide_eq_true c17
          clear c17
          (first | rw [c17b0] | (simp only [i64_w, i32_w]; rw [c17b0]) | skip)
          have c18b0 := eq_true (of_decide_eq_true (by first | (with_reducible assumption) | assumption) : 0 ≤ x31_2)
          refine Or.elim (Classical.em (x31_2 ≤ (l0.length : Int))) (fun c19 => ?_) (fun c19 => by rw [if_neg c19] at H; exact absurd H (by simp))
          rw [if_pos c19] at H
          have c19b0 := eq_true c19
          have c19b1 : decide (x31_2 ≤ (l0.length : Int)) = true := decide_eq_true c19
          clear c19
          obtain ⟨y195, hy195⟩ : ∃ y_ : List (S74), y_ = (l0.take (x31_2 : Int).toNat) := ⟨_, rfl⟩
          replace H : ((spec_l17Next.f k2 y195 ((rd_T74 l0 x31_2).f0) ((rd_T74 l0 x31_2).f1) ((rd_T74 l0 x31_2).f2) ((rd_T74 l0 x31_2).f3) ((rd_T74 l0 x31_2).f4) ((rd_T74 l0 x31_2).f5) ((rd_T74 l0 x31_2).f6) ((rd_T74 l0 x31_2).f7)).bind fun t199 => (spec_l17Good.j2 k2 l0 l0 (l0.length : Int) x31_2 (!t199) ((rd_T74 l0 x31_2).f0) ((rd_T74 l0 x31_2).f1) ((rd_T74 l0 x31_2).f2) ((rd_T74 l0 x31_2).f3) ((rd_T74 l0 x31_2).f4) ((rd_T74 l0 x31_2).f5) ((rd_T74 l0 x31_2).f6) ((rd_T74 l0 x31_2).f7))) = some r := by first | (rw [hy195]; with_reducible exact H) | (have H2_ := (Option.bind_some _ _).symm.trans H; rw [hy195]; with_reducible exact H2_) | (have H2_ := (Option.bind_some _ _).symm.trans H; with_reducible exact H2_) | with_reducible exact H | (rw [hy195]; exact H) | exact H
          have Ny195 := Aside0.mk hy195
          clear hy195
          replace H := Option.bind_eq_some_iff.mp H
          obtain ⟨t199, A200, H⟩ := H
          try dsimp only at H
          have A20 := Aside0.mk A200
          clear A200
          have H' := Aside0.mk H
          clear H
          try go_wp2
          have n0_ : Aside0 (((((((((w13.setCell ⟨gb193, 0, none⟩ (.string ((rd_T74 l0 x31_2).f0))).setCell ⟨gb193, 1, none⟩ (.int .i64 ((rd_T74 l0 x31_2).f1))).setCell ⟨gb193, 2, none⟩ (.int .i64 ((rd_T74 l0 x31_2).f2))).setCell ⟨gb193, 3, none⟩ (.int .i64 ((rd_T74 l0 x31_2).f3))).setCell ⟨gb193, 4, none⟩ (.int .i64 ((rd_T74 l0 x31_2).f4))).setCell ⟨gb193, 5, none⟩ (.int .i64 ((rd_T74 l0 x31_2).f5))).setCell ⟨gb193, 6, none⟩ (.int .i64 ((rd_T74 l0 x31_2).f6))).setCell ⟨gb193, 7, none⟩ (.string ((rd_T74 l0 x31_2).f7))).heap[gb193]? = some (.cells #[.string ((rd_T74 l0 x31_2).f0), .int .i64 ((rd_T74 l0 x31_2).f1), .int .i64 ((rd_T74 l0 x31_2).f2), .int .i64 ((rd_T74 l0 x31_2).f3), .int .i64 ((rd_T74 l0 x31_2).f4), .int .i64 ((rd_T74 l0 x31_2).f5), .int .i64 ((rd_T74 l0 x31_2).f6), .string ((rd_T74 l0 x31_2).f7)] 74 (0, 0))) := ⟨by (with_reducible repeat (first | refine blk_drewN ?_ _ | refine blk_drew ?_ | refine blk_alloc ?_ _)); refine blk_put (cs := #[.string ((rd_T74 l0 x31_2).f0), .int .i64 ((rd_T74 l0 x31_2).f1), .int .i64 ((rd_T74 l0 x31_2).f2), .int .i64 ((rd_T74 l0 x31_2).f3), .int .i64 ((rd_T74 l0 x31_2).f4), .int .i64 ((rd_T74 l0 x31_2).f5), .int .i64 ((rd_T74 l0 x31_2).f6), .string (⟨#[]⟩ : ByteArray)]) ?_ 7 _ rfl; (with_reducible repeat (first | refine blk_drewN ?_ _ | refine blk_drew ?_ | refine blk_alloc ?_ _)); refine blk_put (cs := #[.string ((rd_T74 l0 x31_2).f0), .int .i64 ((rd_T74 l0 x31_2).f1), .int .i64 ((rd_T74 l0 x31_2).f2), .int .i64 ((rd_T74 l0 x31_2).f3), .int .i64 ((rd_T74 l0 x31_2).f4), .int .i64 ((rd_T74 l0 x31_2).f5), .int .i64 0, .string (⟨#[]⟩ : ByteArray)]) ?_ 6 _ rfl; (with_reducible repeat (first | refine blk_drewN ?_ _ | refine blk_drew ?_ | refine blk_alloc ?_ _)); refine blk_put (cs := #[.string ((rd_T74 l0 x31_2).f0), .int .i64 ((rd_T74 l0 x31_2).f1), .int .i64 ((rd_T74 l0 x31_2).f2), .int .i64 ((rd_T74 l0 x31_2).f3), .int .i64 ((rd_T74 l0 x31_2).f4), .int .i64 0, .int .i64 0, .string (⟨#[]⟩ : ByteArray)]) ?_ 5 _ rfl; (with_reducible repeat (first | refine blk_drewN ?_ _ | refine blk_drew ?_ | refine blk_alloc ?_ _)); refine blk_put (cs := #[.string ((rd_T74 l0 x31_2).f0), .int .i64 ((rd_T74 l0 x31_2).f1), .int .i64 ((rd_T74 l0 x31_2).f2), .int .i64 ((rd_T74 l0 x31_2).f3), .int .i64 0, .int .i64 0, .int .i64 0, .string (⟨#[]⟩ : ByteArray)]) ?_ 4 _ rfl; (with_reducible repeat (first | refine blk_drewN ?_ _ | refine blk_drew ?_ | refine blk_alloc ?_ _)); refine blk_put (cs := #[.string ((rd_T74 l0 x31_2).f0), .int .i64 ((rd_T74 l0 x31_2).f1), .int .i64 ((rd_T74 l0 x31_2).f2), .int .i64 0, .int .i64 0, .int .i64 0, .int .i64 0, .string (⟨#[]⟩ : ByteArray)]) ?_ 3 _ rfl; (with_reducible repeat (first | refine blk_drewN ?_ _ | refine blk_drew ?_ | refine blk_alloc ?_ _)); refine blk_put (cs := #[.string ((rd_T74 l0 x31_2).f0), .int .i64 ((rd_T74 l0 x31_2).f1), .int .i64 0, .int .i64 0, .int .i64 0, .int .i64 0, .int .i64 0, .string (⟨#[]⟩ : ByteArray)]) ?_ 2 _ rfl; (with_reducible repeat (first | refine blk_drewN ?_ _ | refine blk_drew ?_ | refine blk_alloc ?_ _)); refine blk_put (cs := #[.string ((rd_T74 l0 x31_2).f0), .int .i64 0, .int .i64 0, .int .i64 0, .int .i64 0, .int .i64 0, .int .i64 0, .string (⟨#[]⟩ : ByteArray)]) ?_ 1 _ rfl; (with_reducible repeat (first | refine blk_drewN ?_ _ | refine blk_drew ?_ | refine blk_alloc ?_ _)); refine blk_put (cs := #[.string (⟨#[]⟩ : ByteArray), .int .i64 0, .int .i64 0, .int .i64 0, .int .i64 0, .int .i64 0, .int .i64 0, .string (⟨#[]⟩ : ByteArray)]) ?_ 0 _ rfl; (with_reducible repeat (first | refine blk_drewN ?_ _ | refine blk_drew ?_ | refine blk_alloc ?_ _)); exact BK193.out⟩
          have n1_ : Aside0 (Below w.heap.size w ((((((((w13.setCell ⟨gb193, 0, none⟩ (.string ((rd_T74 l0 x31_2).f0))).setCell ⟨gb193, 1, none⟩ (.int .i64 ((rd_T74 l0 x31_2).f1))).setCell ⟨gb193, 2, none⟩ (.int .i64 ((rd_T74 l0 x31_2).f2))).setCell ⟨gb193, 3, none⟩ (.int .i64 ((rd_T74 l0 x31_2).f3))).setCell ⟨gb193, 4, none⟩ (.int .i64 ((rd_T74 l0 x31_2).f4))).setCell ⟨gb193, 5, none⟩ (.int .i64 ((rd_T74 l0 x31_2).f5))).setCell ⟨gb193, 6, none⟩ (.int .i64 ((rd_T74 l0 x31_2).f6))).setCell ⟨gb193, 7, none⟩ (.string ((rd_T74 l0 x31_2).f7)))) := ⟨(Gtr.bw HB.out)⟩
          (try clear BK193);(try clear HB)
          generalize ((((((((w13.setCell ⟨gb193, 0, none⟩ (.string ((rd_T74 l0 x31_2).f0))).setCell ⟨gb193, 1, none⟩ (.int .i64 ((rd_T74 l0 x31_2).f1))).setCell ⟨gb193, 2, none⟩ (.int .i64 ((rd_T74 l0 x31_2).f2))).setCell ⟨gb193, 3, none⟩ (.int .i64 ((rd_T74 l0 x31_2).f3))).setCell ⟨gb193, 4, none⟩ (.int .i64 ((rd_T74 l0 x31_2).f4))).setCell ⟨gb193, 5, none⟩ (.int .i64 ((rd_T74 l0 x31_2).f5))).setCell ⟨gb193, 6, none⟩ (.int .i64 ((rd_T74 l0 x31_2).f6))).setCell ⟨gb193, 7, none⟩ (.string ((rd_T74 l0 x31_2).f7))) = w21 at n0_ n1_ ⊢
          have BK193 := n0_
          have HB := n1_
          clear n0_ n1_
          have n0_ := Aside0.mk (blk_drew BK193.out)
          have n1_ := Aside0.mk (below_drew1 HB.out)
          clear BK193
          clear HB
          have BK193 := n0_
          have HB := n1_
          clear n0_ n1_
          refine start_ (n := 16) (S := fun w' => w'.cell? ⟨gb193, 0, none⟩ = some (.string ((rd_T74 l0 x31_2).f0)) ∧ w'.cell? ⟨gb193, 1, none⟩ = some (.int .i64 ((rd_T74 l0 x31_2).f1)) ∧ w'.cell? ⟨gb193, 2, none⟩ = some (.int .i64 ((rd_T74 l0 x31_2).f2)) ∧ w'.cell? ⟨gb193, 3, none⟩ = some (.int .i64 ((rd_T74 l0 x31_2).f3)) ∧ w'.cell? ⟨gb193, 4, none⟩ = some (.int .i64 ((rd_T74 l0 x31_2).f4)) ∧ w'.cell? ⟨gb193, 5, none⟩ = some (.int .i64 ((rd_T74 l0 x31_2).f5)) ∧ w'.cell? ⟨gb193, 6, none⟩ = some (.int .i64 ((rd_T74 l0 x31_2).f6)) ∧ w'.cell? ⟨gb193, 7, none⟩ = some (.string ((rd_T74 l0 x31_2).f7))) (ds := []) (Gtr.bb 16 0) (by kernel_rfl) rfl rfl ⟨(blk_cell BK193.out 0).trans rfl, (blk_cell BK193.out 1).trans rfl, (blk_cell BK193.out 2).trans rfl, (blk_cell BK193.out 3).trans rfl, (blk_cell BK193.out 4).trans rfl, (blk_cell BK193.out 5).trans rfl, (blk_cell BK193.out 6).trans rfl, (blk_cell BK193.out 7).trans rfl⟩ (fun hHeld => ?_); refine with_tabW spec_l17Good.tab6 spec_l17Good.bits6 (fun HT_ HW_ => ?_)
          generalize w21.drew = w22 at BK193 HB hHeld ⊢
          refine pure_ (i := 1) (N := some 37) (v := ?_) (a' := ?_) (Gtr.bb 16 2) rfl rfl (any_of HT_.out (by kernel_rfl)) (fun _ _ _ h => h) (Or.inl ⟨by rfl, ?_⟩) ?_ ?_
          rotate_left
          ·intro w'
           go_simp
           with_reducible rfl
          rotate_left
          ·simp only [Gtr.ps]
           rfl
          refine take_ (i := 0) (N := some 36) (v := ?_) (a' := ?_) (Gtr.bb 16 3) rfl rfl (take_ofW HT_.out HW_.out (by kernel_rfl)) (fun _ _ _ h => h) (Or.inl ⟨by rfl, ?_⟩) hHeld ?_ ?_
          rotate_left
          ·rintro w' ⟨s0, s1, s2, s3, s4, s5, s6, s7⟩
           go_simp
           with_reducible rfl
          rotate_left
          ·simp only [Gtr.ps]
           rfl
          refine one_ (i := 2) (N := some 38) (Gtr.bb 16 7) rfl rfl (one_of HT_.out (by kernel_rfl)) (by decide) (fun K hK => ?_)
          refine goes_ Tryz.func126 (by kernel_rfl) rfl #[.agg #[.string ((rd_T74 l0 x31_2).f0), .int .i64 ((rd_T74 l0 x31_2).f1), .int .i64 ((rd_T74 l0 x31_2).f2), .int .i64 ((rd_T74 l0 x31_2).f3), .int .i64 ((rd_T74 l0 x31_2).f4), .int .i64 ((rd_T74 l0 x31_2).f5), .int .i64 ((rd_T74 l0 x31_2).f6), .string ((rd_T74 l0 x31_2).f7)], .int .i64 x31_2] (by rfl) rfl rfl (by (try simp only [List.map_toArray, List.map_cons, List.map_nil]); first | done | rfl | (simp only [List.length_drop, List.length_take]; rfl)) ?_
          with_reducible refine (spec_l17Alone.calls ((rd_T74 l0 x31_2).f0) ((rd_T74 l0 x31_2).f1) ((rd_T74 l0 x31_2).f2) ((rd_T74 l0 x31_2).f3) ((rd_T74 l0 x31_2).f4) ((rd_T74 l0 x31_2).f5) ((rd_T74 l0 x31_2).f6) ((rd_T74 l0 x31_2).f7) x31_2 true _ A15.out).mono ?_
          rintro e w23 ⟨rfl, hb⟩
          refine ⟨_, rfl, ?_⟩
          have n0_ := Aside0.mk (blk_below (g := gb193) (o := .cells #[.string ((rd_T74 l0 x31_2).f0), .int .i64 ((rd_T74 l0 x31_2).f1), .int .i64 ((rd_T74 l0 x31_2).f2), .int .i64 ((rd_T74 l0 x31_2).f3), .int .i64 ((rd_T74 l0 x31_2).f4), .int .i64 ((rd_T74 l0 x31_2).f5), .int .i64 ((rd_T74 l0 x31_2).f6), .string ((rd_T74 l0 x31_2).f7)] 74 (0, 0)) (by (with_reducible repeat (first | refine blk_drewN ?_ _ | refine blk_drew ?_ | refine blk_alloc ?_ _)); exact BK193.out) hb)
          have n1_ := Aside0.mk (below_step (Gtr.bw HB.out) hb)
          clear BK193
          clear HB
          have BK193 := n0_
          have HB := n1_
          clear n0_ n1_
          (try clear hb);(try clear hb2);(try clear hk);(try clear hi)
          have q24 : (x31_2 : Int) ≤ ((l0.length : Int) : Int) := of_decide_eq_true (by first | (with_reducible assumption) | assumption)
          obtain ⟨i024, hi024, _, hsz24, _⟩ := info_parts info74
          have hroom24 : l0.length ≤ c0 := HC0.out
          have hC24 : Kd.C k74 _ (some ad192) l0.length l0 := HR0.out
          have hcut24 := cut_to (P := Tryz.prog) 26 74 .i64 Tryz.underlying26 hi024 (some ad192) l0.length c0 x31_2 (of_decide_eq_true (by first | (with_reducible assumption) | assumption)) q24 hroom24
          have hr24 := Kd.C_take (m := (x31_2 : Int).toNat) hC24 (by omega)
          have hy24 : y195.length = (x31_2 : Int).toNat := (by rw [Ny195.out, List.length_take]; omega)
          rw [← Ny195.out] at hr24
          rw [← hy24] at hcut24
          have HR198 := Aside0.mk hr24
          have HC198 := Aside0.mk (show y195.length ≤ c0 from by omega)
          clear hr24 hC24 hroom24 hi024 hsz24
          have KY24 := Aside0.mk hy24
          clear hy24
          replace q24 := eq_true q24
          refine hK.out _ _ ⟨(blk_cell BK193.out 0).trans rfl, (blk_cell BK193.out 1).trans rfl, (blk_cell BK193.out 2).trans rfl, (blk_cell BK193.out 3).trans rfl, (blk_cell BK193.out 4).trans rfl, (blk_cell BK193.out 5).trans rfl, (blk_cell BK193.out 6).trans rfl, (blk_cell BK193.out 7).trans rfl⟩ (fun hHeld => ?_)
          clear hK K
          refine norm_ (a' := ?_) ?_ ?_
          rotate_left
          ·show Act.put _ (some 38) _ = _
           simp only [Gtr.ps]
           rfl
          refine pure_ (i := 3) (N := some 39) (v := ?_) (a' := ?_) (Gtr.bb 16 15) rfl rfl (any_of HT_.out (by kernel_rfl)) (fun _ _ _ h => h) (Or.inl ⟨by rfl, ?_⟩) ?_ ?_
          rotate_left
          ·intro w'
           go_simp
           with_reducible rfl
          rotate_left
          ·simp only [Gtr.ps]
           rfl
          refine pure_ (i := 4) (N := some 40) (v := ?_) (a' := ?_) (Gtr.bb 16 31) rfl rfl (any_of HT_.out (by kernel_rfl)) (fun _ _ _ h => h) (Or.inl ⟨by rfl, ?_⟩) ?_ ?_
          rotate_left
          ·intro w'
           go_simp
           with_reducible rfl
          rotate_left
          ·simp only [Gtr.ps]
           rfl
          refine pure_ (i := 5) (N := some 41) (v := ?_) (a' := ?_) (Gtr.bb 16 63) rfl rfl (any_of HT_.out (by kernel_rfl)) (fun _ _ _ h => h) (Or.inl ⟨by rfl, ?_⟩) ?_ ?_
          rotate_left
          ·intro w'
           go_simp
           with_reducible rfl
          rotate_left
          ·simp only [Gtr.ps]
           rfl
          refine pure_ (i := 6) (N := some 42) (v := ?_) (a' := ?_) (Gtr.bb 16 127) rfl rfl (any_of HT_.out (by kernel_rfl)) (fun _ _ _ h => h) (Or.inl ⟨by rfl, ?_⟩) ?_ ?_
          rotate_left
          ·intro w'
           go_simp
           with_reducible rfl
          rotate_left
          ·simp only [Gtr.ps]
           rfl
          refine pure_ (i := 7) (N := some 43) (v := ?_) (a' := ?_) (Gtr.bb 16 255) rfl rfl (any_of HT_.out (by kernel_rfl)) (fun _ _ _ h => h) (Or.inl ⟨by rfl, ?_⟩) ?_ ?_
          rotate_left
          ·intro w'
           go_simp
           with_reducible rfl
          rotate_left
          ·simp only [Gtr.ps]
           rfl
          refine pure_ (i := 8) (N := some 44) (v := ?_) (a' := ?_) (Gtr.bb 16 511) rfl rfl (any_of HT_.out (by kernel_rfl)) (fun _ _ _ h => h) (Or.inl ⟨by rfl, ?_⟩) ?_ ?_
          rotate_left
          ·intro w'
           go_simp
           with_reducible rfl
          rotate_left
          ·simp only [Gtr.ps]
           rfl
          refine pure_ (i := 9) (N := some 45) (v := ?_) (a' := ?_) (Gtr.bb 16 1023) rfl rfl (any_of HT_.out (by kernel_rfl)) (fun _ _ _ h => h) (Or.inl ⟨by rfl, ?_⟩) ?_ ?_
          rotate_left
          ·intro w'
           go_simp
           with_reducible rfl
          rotate_left
          ·simp only [Gtr.ps]
           rfl
          refine pure_ (i := 10) (N := some 46) (v := ?_) (a' := ?_) (Gtr.bb 16 2047) rfl rfl (any_of HT_.out (by kernel_rfl)) (fun _ _ _ h => h) (Or.inl ⟨by rfl, ?_⟩) ?_ ?_
          rotate_left
          ·intro w'
           go_simp
           with_reducible rfl
          rotate_left
          ·simp only [Gtr.ps]
           rfl
          refine take_ (i := 11) (N := some 47) (v := ?_) (a' := ?_) (Gtr.bb 16 4095) rfl rfl (take_ofW HT_.out HW_.out (by kernel_rfl)) (fun _ _ _ h => h) (Or.inl ⟨by rfl, ?_⟩) hHeld ?_ ?_
          rotate_left
          ·rintro w' ⟨s0, s1, s2, s3, s4, s5, s6, s7⟩
           go_simp
           with_reducible rfl
          rotate_left
          ·simp only [Gtr.ps]
           rfl
          refine one_ (i := 12) (N := some 48) (Gtr.bb 16 8191) rfl rfl (one_of HT_.out (by kernel_rfl)) (by decide) (fun K hK => ?_)
          refine goes_ Tryz.func127 (by kernel_rfl) rfl #[.slice (some ad192) y195.length c0, .agg #[.string ((rd_T74 l0 x31_2).f0), .int .i64 ((rd_T74 l0 x31_2).f1), .int .i64 ((rd_T74 l0 x31_2).f2), .int .i64 ((rd_T74 l0 x31_2).f3), .int .i64 ((rd_T74 l0 x31_2).f4), .int .i64 ((rd_T74 l0 x31_2).f5), .int .i64 ((rd_T74 l0 x31_2).f6), .string ((rd_T74 l0 x31_2).f7)]] (by rfl) rfl rfl (by (try simp only [List.map_toArray, List.map_cons, List.map_nil]); first | done | rfl | (simp only [List.length_drop, List.length_take]; rfl)) ?_
          with_reducible refine (spec_l17Next.calls k2 _ _ y195 ((rd_T74 l0 x31_2).f0) ((rd_T74 l0 x31_2).f1) ((rd_T74 l0 x31_2).f2) ((rd_T74 l0 x31_2).f3) ((rd_T74 l0 x31_2).f4) ((rd_T74 l0 x31_2).f5) ((rd_T74 l0 x31_2).f6) ((rd_T74 l0 x31_2).f7) t199 _ ?side1 ?side2 A20.out).mono ?_
          (case side1 => repeat (first | exact (Kd.C_below HR198.out HB.out) | (with_reducible refine Kd.C_alloc ?_ _) | (with_reducible refine Kd.C_drewN ?_ _) | (with_reducible refine Kd.C_drew ?_)))
          (case side2 => exact HC198.out)
          rintro e w25 ⟨rfl, hb⟩
          refine ⟨_, rfl, ?_⟩
          have n0_ := Aside0.mk (blk_below (g := gb193) (o := .cells #[.string ((rd_T74 l0 x31_2).f0), .int .i64 ((rd_T74 l0 x31_2).f1), .int .i64 ((rd_T74 l0 x31_2).f2), .int .i64 ((rd_T74 l0 x31_2).f3), .int .i64 ((rd_T74 l0 x31_2).f4), .int .i64 ((rd_T74 l0 x31_2).f5), .int .i64 ((rd_T74 l0 x31_2).f6), .string ((rd_T74 l0 x31_2).f7)] 74 (0, 0)) (by (with_reducible repeat (first | refine blk_drewN ?_ _ | refine blk_drew ?_ | refine blk_alloc ?_ _)); exact BK193.out) hb)
          have n1_ := Aside0.mk (below_step (Gtr.bw HB.out) hb)
          clear BK193
          clear HB
          have BK193 := n0_
          have HB := n1_
          clear n0_ n1_
          (try clear hb);(try clear hb2);(try clear hk);(try clear hi)
          refine hK.out _ _ ⟨(blk_cell BK193.out 0).trans rfl, (blk_cell BK193.out 1).trans rfl, (blk_cell BK193.out 2).trans rfl, (blk_cell BK193.out 3).trans rfl, (blk_cell BK193.out 4).trans rfl, (blk_cell BK193.out 5).trans rfl, (blk_cell BK193.out 6).trans rfl, (blk_cell BK193.out 7).trans rfl⟩ (fun hHeld => ?_)
          clear hK K
          refine norm_ (a' := ?_) ?_ ?_
          rotate_left
          ·show Act.put _ (some 48) _ = _
           simp only [Gtr.ps]
           rfl
          refine pure_ (i := 13) (N := some 49) (v := ?_) (a' := ?_) (Gtr.bb 16 16383) rfl rfl (any_of HT_.out (by kernel_rfl)) (fun _ _ _ h => h) (Or.inl ⟨by rfl, ?_⟩) ?_ ?_
          rotate_left
          ·intro w'
           go_simp
           with_reducible rfl
          rotate_left
          ·simp only [Gtr.ps]
           rfl
          refine pure_ (i := 14) (N := some 50) (v := ?_) (a' := ?_) (Gtr.bb 16 32767) rfl rfl (any_of HT_.out (by kernel_rfl)) (fun _ _ _ h => h) (Or.inl ⟨by rfl, ?_⟩) ?_ ?_
          rotate_left
          ·intro w'
           go_simp
           with_reducible rfl
          rotate_left
          ·simp only [Gtr.ps]
           rfl
          refine pure_ (i := 15) (N := some 51) (v := ?_) (a' := ?_) (Gtr.bb 16 65535) rfl rfl (any_of HT_.out (by kernel_rfl)) (fun _ _ _ h => h) (Or.inl ⟨by rfl, ?_⟩) ?_ ?_
          rotate_left
          ·intro w'
           go_simp
           with_reducible rfl
          rotate_left
          ·simp only [Gtr.ps]
           rfl
          refine done_ (done_of HT_.out (by kernel_rfl)) ?_
          try go_wp2
          go_meet
          case rel => exact ⟨_, (!t199), (by first | rfl | (simp; done) | (simp [*]; done)), H', ⟨by have := HJ1.out; have := HK2.out; first | omega | exact Nat.le_refl _⟩, ⟨by (with_reducible repeat (first | refine blk_drewN ?_ _ | refine blk_drew ?_ | refine blk_alloc ?_ _)); exact BK193.out⟩, ⟨(Gtr.bw HB.out)⟩⟩
         ·rw [if_neg c17] at H
          have c17b0 : decide (0 < x31_2) = false := decide_eq_false c17
          clear c17
          (first | rw [c17b0] | (simp only [i64_w, i32_w]; rw [c17b0]) | skip)
          have H' := Aside0.mk H
          clear H
          try go_wp2
          have n0_ : Aside0 (((((((((w13.setCell ⟨gb193, 0, none⟩ (.string ((rd_T74 l0 x31_2).f0))).setCell ⟨gb193, 1, none⟩ (.int .i64 ((rd_T74 l0 x31_2).f1))).setCell ⟨gb193, 2, none⟩ (.int .i64 ((rd_T74 l0 x31_2).f2))).setCell ⟨gb193, 3, none⟩ (.int .i64 ((rd_T74 l0 x31_2).f3))).setCell ⟨gb193, 4, none⟩ (.int .i64 ((rd_T74 l0 x31_2).f4))).setCell ⟨gb193, 5, none⟩ (.int .i64 ((rd_T74 l0 x31_2).f5))).setCell ⟨gb193, 6, none⟩ (.int .i64 ((rd_T74 l0 x31_2).f6))).setCell ⟨gb193, 7, none⟩ (.string ((rd_T74 l0 x31_2).f7))).heap[gb193]? = some (.cells #[.string ((rd_T74 l0 x31_2).f0), .int .i64 ((rd_T74 l0 x31_2).f1), .int .i64 ((rd_T74 l0 x31_2).f2), .int .i64 ((rd_T74 l0 x31_2).f3), .int .i64 ((rd_T74 l0 x31_2).f4), .int .i64 ((rd_T74 l0 x31_2).f5), .int .i64 ((rd_T74 l0 x31_2).f6), .string ((rd_T74 l0 x31_2).f7)] 74 (0, 0))) := ⟨by (with_reducible repeat (first | refine blk_drewN ?_ _ | refine blk_drew ?_ | refine blk_alloc ?_ _)); refine blk_put (cs := #[.string ((rd_T74 l0 x31_2).f0), .int .i64 ((rd_T74 l0 x31_2).f1), .int .i64 ((rd_T74 l0 x31_2).f2), .int .i64 ((rd_T74 l0 x31_2).f3), .int .i64 ((rd_T74 l0 x31_2).f4), .int .i64 ((rd_T74 l0 x31_2).f5), .int .i64 ((rd_T74 l0 x31_2).f6), .string (⟨#[]⟩ : ByteArray)]) ?_ 7 _ rfl; (with_reducible repeat (first | refine blk_drewN ?_ _ | refine blk_drew ?_ | refine blk_alloc ?_ _)); refine blk_put (cs := #[.string ((rd_T74 l0 x31_2).f0), .int .i64 ((rd_T74 l0 x31_2).f1), .int .i64 ((rd_T74 l0 x31_2).f2), .int .i64 ((rd_T74 l0 x31_2).f3), .int .i64 ((rd_T74 l0 x31_2).f4), .int .i64 ((rd_T74 l0 x31_2).f5), .int .i64 0, .string (⟨#[]⟩ : ByteArray)]) ?_ 6 _ rfl; (with_reducible repeat (first | refine blk_drewN ?_ _ | refine blk_drew ?_ | refine blk_alloc ?_ _)); refine blk_put (cs := #[.string ((rd_T74 l0 x31_2).f0), .int .i64 ((rd_T74 l0 x31_2).f1), .int .i64 ((rd_T74 l0 x31_2).f2), .int .i64 ((rd_T74 l0 x31_2).f3), .int .i64 ((rd_T74 l0 x31_2).f4), .int .i64 0, .int .i64 0, .string (⟨#[]⟩ : ByteArray)]) ?_ 5 _ rfl; (with_reducible repeat (first | refine blk_drewN ?_ _ | refine blk_drew ?_ | refine blk_alloc ?_ _)); refine blk_put (cs := #[.string ((rd_T74 l0 x31_2).f0), .int .i64 ((rd_T74 l0 x31_2).f1), .int .i64 ((rd_T74 l0 x31_2).f2), .int .i64 ((rd_T74 l0 x31_2).f3), .int .i64 0, .int .i64 0, .int .i64 0, .string (⟨#[]⟩ : ByteArray)]) ?_ 4 _ rfl; (with_reducible repeat (first | refine blk_drewN ?_ _ | refine blk_drew ?_ | refine blk_alloc ?_ _)); refine blk_put (cs := #[.string ((rd_T74 l0 x31_2).f0), .int .i64 ((rd_T74 l0 x31_2).f1), .int .i64 ((rd_T74 l0 x31_2).f2), .int .i64 0, .int .i64 0, .int .i64 0, .int .i64 0, .string (⟨#[]⟩ : ByteArray)]) ?_ 3 _ rfl; (with_reducible repeat (first | refine blk_drewN ?_ _ | refine blk_drew ?_ | refine blk_alloc ?_ _)); refine blk_put (cs := #[.string ((rd_T74 l0 x31_2).f0), .int .i64 ((rd_T74 l0 x31_2).f1), .int .i64 0, .int .i64 0, .int .i64 0, .int .i64 0, .int .i64 0, .string (⟨#[]⟩ : ByteArray)]) ?_ 2 _ rfl; (with_reducible repeat (first | refine blk_drewN ?_ _ | refine blk_drew ?_ | refine blk_alloc ?_ _)); refine blk_put (cs := #[.string ((rd_T74 l0 x31_2).f0), .int .i64 0, .int .i64 0, .int .i64 0, .int .i64 0, .int .i64 0, .int .i64 0, .string (⟨#[]⟩ : ByteArray)]) ?_ 1 _ rfl; (with_reducible repeat (first | refine blk_drewN ?_ _ | refine blk_drew ?_ | refine blk_alloc ?_ _)); refine blk_put (cs := #[.string (⟨#[]⟩ : ByteArray), .int .i64 0, .int .i64 0, .int .i64 0, .int .i64 0, .int .i64 0, .int .i64 0, .string (⟨#[]⟩ : ByteArray)]) ?_ 0 _ rfl; (with_reducible repeat (first | refine blk_drewN ?_ _ | refine blk_drew ?_ | refine blk_alloc ?_ _)); exact BK193.out⟩
          have n1_ : Aside0 (Below w.heap.size w ((((((((w13.setCell ⟨gb193, 0, none⟩ (.string ((rd_T74 l0 x31_2).f0))).setCell ⟨gb193, 1, none⟩ (.int .i64 ((rd_T74 l0 x31_2).f1))).setCell ⟨gb193, 2, none⟩ (.int .i64 ((rd_T74 l0 x31_2).f2))).setCell ⟨gb193, 3, none⟩ (.int .i64 ((rd_T74 l0 x31_2).f3))).setCell ⟨gb193, 4, none⟩ (.int .i64 ((rd_T74 l0 x31_2).f4))).setCell ⟨gb193, 5, none⟩ (.int .i64 ((rd_T74 l0 x31_2).f5))).setCell ⟨gb193, 6, none⟩ (.int .i64 ((rd_T74 l0 x31_2).f6))).setCell ⟨gb193, 7, none⟩ (.string ((rd_T74 l0 x31_2).f7)))) := ⟨(Gtr.bw HB.out)⟩
          (try clear BK193);(try clear HB)
          generalize ((((((((w13.setCell ⟨gb193, 0, none⟩ (.string ((rd_T74 l0 x31_2).f0))).setCell ⟨gb193, 1, none⟩ (.int .i64 ((rd_T74 l0 x31_2).f1))).setCell ⟨gb193, 2, none⟩ (.int .i64 ((rd_T74 l0 x31_2).f2))).setCell ⟨gb193, 3, none⟩ (.int .i64 ((rd_T74 l0 x31_2).f3))).setCell ⟨gb193, 4, none⟩ (.int .i64 ((rd_T74 l0 x31_2).f4))).setCell ⟨gb193, 5, none⟩ (.int .i64 ((rd_T74 l0 x31_2).f5))).setCell ⟨gb193, 6, none⟩ (.int .i64 ((rd_T74 l0 x31_2).f6))).setCell ⟨gb193, 7, none⟩ (.string ((rd_T74 l0 x31_2).f7))) = w26 at n0_ n1_ ⊢
          have BK193 := n0_
          have HB := n1_
          clear n0_ n1_
          have n0_ := Aside0.mk (blk_drew BK193.out)
          have n1_ := Aside0.mk (below_drew1 HB.out)
          clear BK193
          clear HB
          have BK193 := n0_
          have HB := n1_
          clear n0_ n1_
          refine start_ (n := 16) (S := fun w' => w'.cell? ⟨gb193, 0, none⟩ = some (.string ((rd_T74 l0 x31_2).f0)) ∧ w'.cell? ⟨gb193, 1, none⟩ = some (.int .i64 ((rd_T74 l0 x31_2).f1)) ∧ w'.cell? ⟨gb193, 2, none⟩ = some (.int .i64 ((rd_T74 l0 x31_2).f2)) ∧ w'.cell? ⟨gb193, 3, none⟩ = some (.int .i64 ((rd_T74 l0 x31_2).f3)) ∧ w'.cell? ⟨gb193, 4, none⟩ = some (.int .i64 ((rd_T74 l0 x31_2).f4)) ∧ w'.cell? ⟨gb193, 5, none⟩ = some (.int .i64 ((rd_T74 l0 x31_2).f5)) ∧ w'.cell? ⟨gb193, 6, none⟩ = some (.int .i64 ((rd_T74 l0 x31_2).f6)) ∧ w'.cell? ⟨gb193, 7, none⟩ = some (.string ((rd_T74 l0 x31_2).f7))) (ds := []) (Gtr.bb 16 0) (by kernel_rfl) rfl rfl ⟨(blk_cell BK193.out 0).trans rfl, (blk_cell BK193.out 1).trans rfl, (blk_cell BK193.out 2).trans rfl, (blk_cell BK193.out 3).trans rfl, (blk_cell BK193.out 4).trans rfl, (blk_cell BK193.out 5).trans rfl, (blk_cell BK193.out 6).trans rfl, (blk_cell BK193.out 7).trans rfl⟩ (fun hHeld => ?_); refine with_tabW spec_l17Good.tab6 spec_l17Good.bits6 (fun HT_ HW_ => ?_)
          generalize w26.drew = w27 at BK193 HB hHeld ⊢
          refine pure_ (i := 1) (N := some 37) (v := ?_) (a' := ?_) (Gtr.bb 16 2) rfl rfl (any_of HT_.out (by kernel_rfl)) (fun _ _ _ h => h) (Or.inl ⟨by rfl, ?_⟩) ?_ ?_
          rotate_left
          ·intro w'
           go_simp
           with_reducible rfl
          rotate_left
          ·simp only [Gtr.ps]
           rfl
          refine take_ (i := 0) (N := some 36) (v := ?_) (a' := ?_) (Gtr.bb 16 3) rfl rfl (take_ofW HT_.out HW_.out (by kernel_rfl)) (fun _ _ _ h => h) (Or.inl ⟨by rfl, ?_⟩) hHeld ?_ ?_
          rotate_left
          ·rintro w' ⟨s0, s1, s2, s3, s4, s5, s6, s7⟩
           go_simp
           with_reducible rfl
          rotate_left
          ·simp only [Gtr.ps]
           rfl
          refine one_ (i := 2) (N := some 38) (Gtr.bb 16 7) rfl rfl (one_of HT_.out (by kernel_rfl)) (by decide) (fun K hK => ?_)
          refine goes_ Tryz.func126 (by kernel_rfl) rfl #[.agg #[.string ((rd_T74 l0 x31_2).f0), .int .i64 ((rd_T74 l0 x31_2).f1), .int .i64 ((rd_T74 l0 x31_2).f2), .int .i64 ((rd_T74 l0 x31_2).f3), .int .i64 ((rd_T74 l0 x31_2).f4), .int .i64 ((rd_T74 l0 x31_2).f5), .int .i64 ((rd_T74 l0 x31_2).f6), .string ((rd_T74 l0 x31_2).f7)], .int .i64 x31_2] (by rfl) rfl rfl (by (try simp only [List.map_toArray, List.map_cons, List.map_nil]); first | done | rfl | (simp only [List.length_drop, List.length_take]; rfl)) ?_
          with_reducible refine (spec_l17Alone.calls ((rd_T74 l0 x31_2).f0) ((rd_T74 l0 x31_2).f1) ((rd_T74 l0 x31_2).f2) ((rd_T74 l0 x31_2).f3) ((rd_T74 l0 x31_2).f4) ((rd_T74 l0 x31_2).f5) ((rd_T74 l0 x31_2).f6) ((rd_T74 l0 x31_2).f7) x31_2 true _ A15.out).mono ?_
          rintro e w28 ⟨rfl, hb⟩
          refine ⟨_, rfl, ?_⟩
          have n0_ := Aside0.mk (blk_below (g := gb193) (o := .cells #[.string ((rd_T74 l0 x31_2).f0), .int .i64 ((rd_T74 l0 x31_2).f1), .int .i64 ((rd_T74 l0 x31_2).f2), .int .i64 ((rd_T74 l0 x31_2).f3), .int .i64 ((rd_T74 l0 x31_2).f4), .int .i64 ((rd_T74 l0 x31_2).f5), .int .i64 ((rd_T74 l0 x31_2).f6), .string ((rd_T74 l0 x31_2).f7)] 74 (0, 0)) (by (with_reducible repeat (first | refine blk_drewN ?_ _ | refine blk_drew ?_ | refine blk_alloc ?_ _)); exact BK193.out) hb)
          have n1_ := Aside0.mk (below_step (Gtr.bw HB.out) hb)
          clear BK193
          clear HB
          have BK193 := n0_
          have HB := n1_
          clear n0_ n1_
          (try clear hb);(try clear hb2);(try clear hk);(try clear hi)
          refine hK.out _ _ ⟨(blk_cell BK193.out 0).trans rfl, (blk_cell BK193.out 1).trans rfl, (blk_cell BK193.out 2).trans rfl, (blk_cell BK193.out 3).trans rfl, (blk_cell BK193.out 4).trans rfl, (blk_cell BK193.out 5).trans rfl, (blk_cell BK193.out 6).trans rfl, (blk_cell BK193.out 7).trans rfl⟩ (fun hHeld => ?_)
          clear hK K
          refine norm_ (a' := ?_) ?_ ?_
          rotate_left
          ·show Act.put _ (some 38) _ = _
           simp only [Gtr.ps]
           rfl
          refine pure_ (i := 3) (N := some 39) (v := ?_) (a' := ?_) (Gtr.bb 16 15) rfl rfl (any_of HT_.out (by kernel_rfl)) (fun _ _ _ h => h) (Or.inl ⟨by rfl, ?_⟩) ?_ ?_
          rotate_left
          ·intro w'
           go_simp
           with_reducible rfl
          rotate_left
          ·simp only [Gtr.ps]
           rfl
          refine pure_ (i := 4) (N := some 40) (v := ?_) (a' := ?_) (Gtr.bb 16 31) rfl rfl (any_of HT_.out (by kernel_rfl)) (fun _ _ _ h => h) (Or.inl ⟨by rfl, ?_⟩) ?_ ?_
          rotate_left
          ·intro w'
           go_simp
           with_reducible rfl
          rotate_left
          ·simp only [Gtr.ps]
           rfl
          refine pure_ (i := 5) (N := some 41) (v := ?_) (a' := ?_) (Gtr.bb 16 63) rfl rfl (any_of HT_.out (by kernel_rfl)) (fun _ _ _ h => h) (Or.inl ⟨by rfl, ?_⟩) ?_ ?_
          rotate_left
          ·intro w'
           go_simp
           with_reducible rfl
          rotate_left
          ·simp only [Gtr.ps]
           rfl
          refine pure_ (i := 6) (N := some 42) (v := ?_) (a' := ?_) (Gtr.bb 16 127) rfl rfl (any_of HT_.out (by kernel_rfl)) (fun _ _ _ h => h) (Or.inl ⟨by rfl, ?_⟩) ?_ ?_
          rotate_left
          ·intro w'
           go_simp
           with_reducible rfl
          rotate_left
          ·simp only [Gtr.ps]
           rfl
          refine pure_ (i := 7) (N := some 43) (v := ?_) (a' := ?_) (Gtr.bb 16 255) rfl rfl (any_of HT_.out (by kernel_rfl)) (fun _ _ _ h => h) (Or.inl ⟨by rfl, ?_⟩) ?_ ?_
          rotate_left
          ·intro w'
           go_simp
           with_reducible rfl
          rotate_left
          ·simp only [Gtr.ps]
           rfl
          refine pure_ (i := 8) (N := some 44) (v := undef) (a' := ?_) (Gtr.bb 16 511) rfl rfl (any_of HT_.out (by kernel_rfl)) (fun _ _ _ h => h) (Or.inr ⟨by rfl, rfl⟩) ?_ ?_
          rotate_left
          ·simp only [Gtr.ps]
           rfl
          refine pure_ (i := 9) (N := some 45) (v := undef) (a' := ?_) (Gtr.bb 16 1023) rfl rfl (any_of HT_.out (by kernel_rfl)) (fun _ _ _ h => h) (Or.inr ⟨by rfl, rfl⟩) ?_ ?_
          rotate_left
          ·simp only [Gtr.ps]
           rfl
          refine pure_ (i := 10) (N := some 46) (v := undef) (a' := ?_) (Gtr.bb 16 2047) rfl rfl (any_of HT_.out (by kernel_rfl)) (fun _ _ _ h => h) (Or.inr ⟨by rfl, rfl⟩) ?_ ?_
          rotate_left
          ·simp only [Gtr.ps]
           rfl
          refine pure_ (i := 11) (N := some 47) (v := undef) (a' := ?_) (Gtr.bb 16 4095) rfl rfl (any_of HT_.out (by kernel_rfl)) (fun _ _ _ h => h) (Or.inr ⟨by rfl, rfl⟩) ?_ ?_
          rotate_left
          ·simp only [Gtr.ps]
           rfl
          refine pure_ (i := 12) (N := some 48) (v := undef) (a' := ?_) (Gtr.bb 16 8191) rfl rfl (any_of HT_.out (by kernel_rfl)) (fun _ _ _ h => h) (Or.inr ⟨by rfl, rfl⟩) ?_ ?_
          rotate_left
          ·simp only [Gtr.ps]
           rfl
          refine pure_ (i := 13) (N := some 49) (v := undef) (a' := ?_) (Gtr.bb 16 16383) rfl rfl (any_of HT_.out (by kernel_rfl)) (fun _ _ _ h => h) (Or.inr ⟨by rfl, rfl⟩) ?_ ?_
          rotate_left
          ·simp only [Gtr.ps]
           rfl
          refine pure_ (i := 14) (N := some 50) (v := ?_) (a' := ?_) (Gtr.bb 16 32767) rfl rfl (any_of HT_.out (by kernel_rfl)) (fun _ _ _ h => h) (Or.inl ⟨by rfl, ?_⟩) ?_ ?_
          rotate_left
          ·intro w'
           go_simp
           with_reducible rfl
          rotate_left
          ·simp only [Gtr.ps]
           rfl
          refine pure_ (i := 15) (N := some 51) (v := ?_) (a' := ?_) (Gtr.bb 16 65535) rfl rfl (any_of HT_.out (by kernel_rfl)) (fun _ _ _ h => h) (Or.inl ⟨by rfl, ?_⟩) ?_ ?_
          rotate_left
          ·intro w'
           go_simp
           with_reducible rfl
          rotate_left
          ·simp only [Gtr.ps]
           rfl
          refine done_ (done_of HT_.out (by kernel_rfl)) ?_
          try go_wp2
          go_meet
          case rel => exact ⟨_, (false), (by first | rfl | (simp; done) | (simp [*]; done)), H', ⟨by have := HJ1.out; have := HK2.out; first | omega | exact Nat.le_refl _⟩, ⟨by (with_reducible repeat (first | refine blk_drewN ?_ _ | refine blk_drew ?_ | refine blk_alloc ?_ _)); exact BK193.out⟩, ⟨(Gtr.bw HB.out)⟩⟩
        ·replace c16 := Bool.eq_false_iff.mpr c16
         subst c16
         have H1 : (spec_l17Good.j2 k2 l0 l0 (l0.length : Int) x31_2 true ((rd_T74 l0 x31_2).f0) ((rd_T74 l0 x31_2).f1) ((rd_T74 l0 x31_2).f2) ((rd_T74 l0 x31_2).f3) ((rd_T74 l0 x31_2).f4) ((rd_T74 l0 x31_2).f5) ((rd_T74 l0 x31_2).f6) ((rd_T74 l0 x31_2).f7)) = some r := by rw [if_neg (show ¬ (false = true) by decide)] at H; exact H
         clear H
         have H := H1
         clear H1
         have H' := Aside0.mk H
         clear H
         try go_wp2
         have n0_ : Aside0 (((((((((w13.setCell ⟨gb193, 0, none⟩ (.string ((rd_T74 l0 x31_2).f0))).setCell ⟨gb193, 1, none⟩ (.int .i64 ((rd_T74 l0 x31_2).f1))).setCell ⟨gb193, 2, none⟩ (.int .i64 ((rd_T74 l0 x31_2).f2))).setCell ⟨gb193, 3, none⟩ (.int .i64 ((rd_T74 l0 x31_2).f3))).setCell ⟨gb193, 4, none⟩ (.int .i64 ((rd_T74 l0 x31_2).f4))).setCell ⟨gb193, 5, none⟩ (.int .i64 ((rd_T74 l0 x31_2).f5))).setCell ⟨gb193, 6, none⟩ (.int .i64 ((rd_T74 l0 x31_2).f6))).setCell ⟨gb193, 7, none⟩ (.string ((rd_T74 l0 x31_2).f7))).heap[gb193]? = some (.cells #[.string ((rd_T74 l0 x31_2).f0), .int .i64 ((rd_T74 l0 x31_2).f1), .int .i64 ((rd_T74 l0 x31_2).f2), .int .i64 ((rd_T74 l0 x31_2).f3), .int .i64 ((rd_T74 l0 x31_2).f4), .int .i64 ((rd_T74 l0 x31_2).f5), .int .i64 ((rd_T74 l0 x31_2).f6), .string ((rd_T74 l0 x31_2).f7)] 74 (0, 0))) := ⟨by (with_reducible repeat (first | refine blk_drewN ?_ _ | refine blk_drew ?_ | refine blk_alloc ?_ _)); refine blk_put (cs := #[.string ((rd_T74 l0 x31_2).f0), .int .i64 ((rd_T74 l0 x31_2).f1), .int .i64 ((rd_T74 l0 x31_2).f2), .int .i64 ((rd_T74 l0 x31_2).f3), .int .i64 ((rd_T74 l0 x31_2).f4), .int .i64 ((rd_T74 l0 x31_2).f5), .int .i64 ((rd_T74 l0 x31_2).f6), .string (⟨#[]⟩ : ByteArray)]) ?_ 7 _ rfl; (with_reducible repeat (first | refine blk_drewN ?_ _ | refine blk_drew ?_ | refine blk_alloc ?_ _)); refine blk_put (cs := #[.string ((rd_T74 l0 x31_2).f0), .int .i64 ((rd_T74 l0 x31_2).f1), .int .i64 ((rd_T74 l0 x31_2).f2), .int .i64 ((rd_T74 l0 x31_2).f3), .int .i64 ((rd_T74 l0 x31_2).f4), .int .i64 ((rd_T74 l0 x31_2).f5), .int .i64 0, .string (⟨#[]⟩ : ByteArray)]) ?_ 6 _ rfl; (with_reducible repeat (first | refine blk_drewN ?_ _ | refine blk_drew ?_ | refine blk_alloc ?_ _)); refine blk_put (cs := #[.string ((rd_T74 l0 x31_2).f0), .int .i64 ((rd_T74 l0 x31_2).f1), .int .i64 ((rd_T74 l0 x31_2).f2), .int .i64 ((rd_T74 l0 x31_2).f3), .int .i64 ((rd_T74 l0 x31_2).f4), .int .i64 0, .int .i64 0, .string (⟨#[]⟩ : ByteArray)]) ?_ 5 _ rfl; (with_reducible repeat (first | refine blk_drewN ?_ _ | refine blk_drew ?_ | refine blk_alloc ?_ _)); refine blk_put (cs := #[.string ((rd_T74 l0 x31_2).f0), .int .i64 ((rd_T74 l0 x31_2).f1), .int .i64 ((rd_T74 l0 x31_2).f2), .int .i64 ((rd_T74 l0 x31_2).f3), .int .i64 0, .int .i64 0, .int .i64 0, .string (⟨#[]⟩ : ByteArray)]) ?_ 4 _ rfl; (with_reducible repeat (first | refine blk_drewN ?_ _ | refine blk_drew ?_ | refine blk_alloc ?_ _)); refine blk_put (cs := #[.string ((rd_T74 l0 x31_2).f0), .int .i64 ((rd_T74 l0 x31_2).f1), .int .i64 ((rd_T74 l0 x31_2).f2), .int .i64 0, .int .i64 0, .int .i64 0, .int .i64 0, .string (⟨#[]⟩ : ByteArray)]) ?_ 3 _ rfl; (with_reducible repeat (first | refine blk_drewN ?_ _ | refine blk_drew ?_ | refine blk_alloc ?_ _)); refine blk_put (cs := #[.string ((rd_T74 l0 x31_2).f0), .int .i64 ((rd_T74 l0 x31_2).f1), .int .i64 0, .int .i64 0, .int .i64 0, .int .i64 0, .int .i64 0, .string (⟨#[]⟩ : ByteArray)]) ?_ 2 _ rfl; (with_reducible repeat (first | refine blk_drewN ?_ _ | refine blk_drew ?_ | refine blk_alloc ?_ _)); refine blk_put (cs := #[.string ((rd_T74 l0 x31_2).f0), .int .i64 0, .int .i64 0, .int .i64 0, .int .i64 0, .int .i64 0, .int .i64 0, .string (⟨#[]⟩ : ByteArray)]) ?_ 1 _ rfl; (with_reducible repeat (first | refine blk_drewN ?_ _ | refine blk_drew ?_ | refine blk_alloc ?_ _)); refine blk_put (cs := #[.string (⟨#[]⟩ : ByteArray), .int .i64 0, .int .i64 0, .int .i64 0, .int .i64 0, .int .i64 0, .int .i64 0, .string (⟨#[]⟩ : ByteArray)]) ?_ 0 _ rfl; (with_reducible repeat (first | refine blk_drewN ?_ _ | refine blk_drew ?_ | refine blk_alloc ?_ _)); exact BK193.out⟩
         have n1_ : Aside0 (Below w.heap.size w ((((((((w13.setCell ⟨gb193, 0, none⟩ (.string ((rd_T74 l0 x31_2).f0))).setCell ⟨gb193, 1, none⟩ (.int .i64 ((rd_T74 l0 x31_2).f1))).setCell ⟨gb193, 2, none⟩ (.int .i64 ((rd_T74 l0 x31_2).f2))).setCell ⟨gb193, 3, none⟩ (.int .i64 ((rd_T74 l0 x31_2).f3))).setCell ⟨gb193, 4, none⟩ (.int .i64 ((rd_T74 l0 x31_2).f4))).setCell ⟨gb193, 5, none⟩ (.int .i64 ((rd_T74 l0 x31_2).f5))).setCell ⟨gb193, 6, none⟩ (.int .i64 ((rd_T74 l0 x31_2).f6))).setCell ⟨gb193, 7, none⟩ (.string ((rd_T74 l0 x31_2).f7)))) := ⟨(Gtr.bw HB.out)⟩
         (try clear BK193);(try clear HB)
         generalize ((((((((w13.setCell ⟨gb193, 0, none⟩ (.string ((rd_T74 l0 x31_2).f0))).setCell ⟨gb193, 1, none⟩ (.int .i64 ((rd_T74 l0 x31_2).f1))).setCell ⟨gb193, 2, none⟩ (.int .i64 ((rd_T74 l0 x31_2).f2))).setCell ⟨gb193, 3, none⟩ (.int .i64 ((rd_T74 l0 x31_2).f3))).setCell ⟨gb193, 4, none⟩ (.int .i64 ((rd_T74 l0 x31_2).f4))).setCell ⟨gb193, 5, none⟩ (.int .i64 ((rd_T74 l0 x31_2).f5))).setCell ⟨gb193, 6, none⟩ (.int .i64 ((rd_T74 l0 x31_2).f6))).setCell ⟨gb193, 7, none⟩ (.string ((rd_T74 l0 x31_2).f7))) = w29 at n0_ n1_ ⊢
         have BK193 := n0_
         have HB := n1_
         clear n0_ n1_
         have n0_ := Aside0.mk (blk_drew BK193.out)
         have n1_ := Aside0.mk (below_drew1 HB.out)
         clear BK193
         clear HB
         have BK193 := n0_
         have HB := n1_
         clear n0_ n1_
         refine start_ (n := 16) (S := fun w' => w'.cell? ⟨gb193, 0, none⟩ = some (.string ((rd_T74 l0 x31_2).f0)) ∧ w'.cell? ⟨gb193, 1, none⟩ = some (.int .i64 ((rd_T74 l0 x31_2).f1)) ∧ w'.cell? ⟨gb193, 2, none⟩ = some (.int .i64 ((rd_T74 l0 x31_2).f2)) ∧ w'.cell? ⟨gb193, 3, none⟩ = some (.int .i64 ((rd_T74 l0 x31_2).f3)) ∧ w'.cell? ⟨gb193, 4, none⟩ = some (.int .i64 ((rd_T74 l0 x31_2).f4)) ∧ w'.cell? ⟨gb193, 5, none⟩ = some (.int .i64 ((rd_T74 l0 x31_2).f5)) ∧ w'.cell? ⟨gb193, 6, none⟩ = some (.int .i64 ((rd_T74 l0 x31_2).f6)) ∧ w'.cell? ⟨gb193, 7, none⟩ = some (.string ((rd_T74 l0 x31_2).f7))) (ds := []) (Gtr.bb 16 0) (by kernel_rfl) rfl rfl ⟨(blk_cell BK193.out 0).trans rfl, (blk_cell BK193.out 1).trans rfl, (blk_cell BK193.out 2).trans rfl, (blk_cell BK193.out 3).trans rfl, (blk_cell BK193.out 4).trans rfl, (blk_cell BK193.out 5).trans rfl, (blk_cell BK193.out 6).trans rfl, (blk_cell BK193.out 7).trans rfl⟩ (fun hHeld => ?_); refine with_tabW spec_l17Good.tab6 spec_l17Good.bits6 (fun HT_ HW_ => ?_)
         generalize w29.drew = w30 at BK193 HB hHeld ⊢
         refine pure_ (i := 1) (N := some 37) (v := ?_) (a' := ?_) (Gtr.bb 16 2) rfl rfl (any_of HT_.out (by kernel_rfl)) (fun _ _ _ h => h) (Or.inl ⟨by rfl, ?_⟩) ?_ ?_
         rotate_left
         ·intro w'
          go_simp
          with_reducible rfl
         rotate_left
         ·simp only [Gtr.ps]
          rfl
         refine take_ (i := 0) (N := some 36) (v := ?_) (a' := ?_) (Gtr.bb 16 3) rfl rfl (take_ofW HT_.out HW_.out (by kernel_rfl)) (fun _ _ _ h => h) (Or.inl ⟨by rfl, ?_⟩) hHeld ?_ ?_
         rotate_left
         ·rintro w' ⟨s0, s1, s2, s3, s4, s5, s6, s7⟩
          go_simp
          with_reducible rfl
         rotate_left
         ·simp only [Gtr.ps]
          rfl
         refine one_ (i := 2) (N := some 38) (Gtr.bb 16 7) rfl rfl (one_of HT_.out (by kernel_rfl)) (by decide) (fun K hK => ?_)
         refine goes_ Tryz.func126 (by kernel_rfl) rfl #[.agg #[.string ((rd_T74 l0 x31_2).f0), .int .i64 ((rd_T74 l0 x31_2).f1), .int .i64 ((rd_T74 l0 x31_2).f2), .int .i64 ((rd_T74 l0 x31_2).f3), .int .i64 ((rd_T74 l0 x31_2).f4), .int .i64 ((rd_T74 l0 x31_2).f5), .int .i64 ((rd_T74 l0 x31_2).f6), .string ((rd_T74 l0 x31_2).f7)], .int .i64 x31_2] (by rfl) rfl rfl (by (try simp only [List.map_toArray, List.map_cons, List.map_nil]); first | done | rfl | (simp only [List.length_drop, List.length_take]; rfl)) ?_
         with_reducible refine (spec_l17Alone.calls ((rd_T74 l0 x31_2).f0) ((rd_T74 l0 x31_2).f1) ((rd_T74 l0 x31_2).f2) ((rd_T74 l0 x31_2).f3) ((rd_T74 l0 x31_2).f4) ((rd_T74 l0 x31_2).f5) ((rd_T74 l0 x31_2).f6) ((rd_T74 l0 x31_2).f7) x31_2 false _ A15.out).mono ?_
         rintro e w31 ⟨rfl, hb⟩
         refine ⟨_, rfl, ?_⟩
         have n0_ := Aside0.mk (blk_below (g := gb193) (o := .cells #[.string ((rd_T74 l0 x31_2).f0), .int .i64 ((rd_T74 l0 x31_2).f1), .int .i64 ((rd_T74 l0 x31_2).f2), .int .i64 ((rd_T74 l0 x31_2).f3), .int .i64 ((rd_T74 l0 x31_2).f4), .int .i64 ((rd_T74 l0 x31_2).f5), .int .i64 ((rd_T74 l0 x31_2).f6), .string ((rd_T74 l0 x31_2).f7)] 74 (0, 0)) (by (with_reducible repeat (first | refine blk_drewN ?_ _ | refine blk_drew ?_ | refine blk_alloc ?_ _)); exact BK193.out) hb)
         have n1_ := Aside0.mk (below_step (Gtr.bw HB.out) hb)
         clear BK193
         clear HB
         have BK193 := n0_
         have HB := n1_
         clear n0_ n1_
         (try clear hb);(try clear hb2);(try clear hk);(try clear hi)
         refine hK.out _ _ ⟨(blk_cell BK193.out 0).trans rfl, (blk_cell BK193.out 1).trans rfl, (blk_cell BK193.out 2).trans rfl, (blk_cell BK193.out 3).trans rfl, (blk_cell BK193.out 4).trans rfl, (blk_cell BK193.out 5).trans rfl, (blk_cell BK193.out 6).trans rfl, (blk_cell BK193.out 7).trans rfl⟩ (fun hHeld => ?_)
         clear hK K
         refine norm_ (a' := ?_) ?_ ?_
         rotate_left
         ·show Act.put _ (some 38) _ = _
          simp only [Gtr.ps]
          rfl
         refine pure_ (i := 3) (N := some 39) (v := ?_) (a' := ?_) (Gtr.bb 16 15) rfl rfl (any_of HT_.out (by kernel_rfl)) (fun _ _ _ h => h) (Or.inl ⟨by rfl, ?_⟩) ?_ ?_
         rotate_left
         ·intro w'
          go_simp
          with_reducible rfl
         rotate_left
         ·simp only [Gtr.ps]
          rfl
         refine pure_ (i := 4) (N := some 40) (v := ?_) (a' := ?_) (Gtr.bb 16 31) rfl rfl (any_of HT_.out (by kernel_rfl)) (fun _ _ _ h => h) (Or.inl ⟨by rfl, ?_⟩) ?_ ?_
         rotate_left
         ·intro w'
          go_simp
          with_reducible rfl
         rotate_left
         ·simp only [Gtr.ps]
          rfl
         refine pure_ (i := 5) (N := some 41) (v := undef) (a' := ?_) (Gtr.bb 16 63) rfl rfl (any_of HT_.out (by kernel_rfl)) (fun _ _ _ h => h) (Or.inr ⟨by rfl, rfl⟩) ?_ ?_
         rotate_left
         ·simp only [Gtr.ps]
          rfl
         refine pure_ (i := 6) (N := some 42) (v := undef) (a' := ?_) (Gtr.bb 16 127) rfl rfl (any_of HT_.out (by kernel_rfl)) (fun _ _ _ h => h) (Or.inr ⟨by rfl, rfl⟩) ?_ ?_
         rotate_left
         ·simp only [Gtr.ps]
          rfl
         refine pure_ (i := 7) (N := some 43) (v := undef) (a' := ?_) (Gtr.bb 16 255) rfl rfl (any_of HT_.out (by kernel_rfl)) (fun _ _ _ h => h) (Or.inr ⟨by rfl, rfl⟩) ?_ ?_
         rotate_left
         ·simp only [Gtr.ps]
          rfl
         refine pure_ (i := 8) (N := some 44) (v := undef) (a' := ?_) (Gtr.bb 16 511) rfl rfl (any_of HT_.out (by kernel_rfl)) (fun _ _ _ h => h) (Or.inr ⟨by rfl, rfl⟩) ?_ ?_
         rotate_left
         ·simp only [Gtr.ps]
          rfl
         refine pure_ (i := 9) (N := some 45) (v := undef) (a' := ?_) (Gtr.bb 16 1023) rfl rfl (any_of HT_.out (by kernel_rfl)) (fun _ _ _ h => h) (Or.inr ⟨by rfl, rfl⟩) ?_ ?_
         rotate_left
         ·simp only [Gtr.ps]
          rfl
         refine pure_ (i := 10) (N := some 46) (v := undef) (a' := ?_) (Gtr.bb 16 2047) rfl rfl (any_of HT_.out (by kernel_rfl)) (fun _ _ _ h => h) (Or.inr ⟨by rfl, rfl⟩) ?_ ?_
         rotate_left
         ·simp only [Gtr.ps]
          rfl
         refine pure_ (i := 11) (N := some 47) (v := undef) (a' := ?_) (Gtr.bb 16 4095) rfl rfl (any_of HT_.out (by kernel_rfl)) (fun _ _ _ h => h) (Or.inr ⟨by rfl, rfl⟩) ?_ ?_
         rotate_left
         ·simp only [Gtr.ps]
          rfl
         refine pure_ (i := 12) (N := some 48) (v := undef) (a' := ?_) (Gtr.bb 16 8191) rfl rfl (any_of HT_.out (by kernel_rfl)) (fun _ _ _ h => h) (Or.inr ⟨by rfl, rfl⟩) ?_ ?_
         rotate_left
         ·simp only [Gtr.ps]
          rfl
         refine pure_ (i := 13) (N := some 49) (v := undef) (a' := ?_) (Gtr.bb 16 16383) rfl rfl (any_of HT_.out (by kernel_rfl)) (fun _ _ _ h => h) (Or.inr ⟨by rfl, rfl⟩) ?_ ?_
         rotate_left
         ·simp only [Gtr.ps]
          rfl
         refine pure_ (i := 14) (N := some 50) (v := undef) (a' := ?_) (Gtr.bb 16 32767) rfl rfl (any_of HT_.out (by kernel_rfl)) (fun _ _ _ h => h) (Or.inr ⟨by rfl, rfl⟩) ?_ ?_
         rotate_left
         ·simp only [Gtr.ps]
          rfl
         refine pure_ (i := 15) (N := some 51) (v := ?_) (a' := ?_) (Gtr.bb 16 65535) rfl rfl (any_of HT_.out (by kernel_rfl)) (fun _ _ _ h => h) (Or.inl ⟨by rfl, ?_⟩) ?_ ?_
         rotate_left
         ·intro w'
          go_simp
          with_reducible rfl
         rotate_left
         ·simp only [Gtr.ps]
          rfl
         refine done_ (done_of HT_.out (by kernel_rfl)) ?_
         try go_wp2
         go_meet
         case rel => exact ⟨_, (true), (by first | rfl | (simp; done) | (simp [*]; done)), H', ⟨by have := HJ1.out; have := HK2.out; first | omega | exact Nat.le_refl _⟩, ⟨by (with_reducible repeat (first | refine blk_drewN ?_ _ | refine blk_drew ?_ | refine blk_alloc ?_ _)); exact BK193.out⟩, ⟨(Gtr.bw HB.out)⟩⟩
       case rest =>
        clear HC12
        (try clear c1);(try clear p1);(try clear q1);(try clear hx1);(try clear qi1);(try clear p2);(try clear q2);(try clear c4);(try clear c5);(try clear c5b0);(try clear c5b1);(try clear c6);(try clear c6b0);(try clear c6b1);(try clear c7);(try clear c7b0);(try clear c7b1);(try clear c8);(try clear c9);(try clear c9b0);(try clear c10);(try clear c10b0);(try clear c11);(try clear c11b0);(try clear c12);(try clear c16);(try clear c17);(try clear c17b0);(try clear c18);(try clear c18b0);(try clear c19);(try clear c19b0);(try clear c19b1);(try clear p19);(try clear q19);(try clear hx19);(try clear q24);(try clear hcz14_0);(try clear hcz14_1);(try clear hcz14_2);(try clear hcz14_3);(try clear hcz14_4);(try clear hcz14_5);(try clear hcz14_6);(try clear hcz14_7);(try clear hfz14_0);(try clear hfz14_1);(try clear hfz14_2);(try clear hfz14_3);(try clear hfz14_4);(try clear hfz14_5);(try clear hfz14_6);(try clear hfz14_7);(try clear hx190_0);(try clear hx190_1);(try clear hx190_2);(try clear hx190_3);(try clear hx190_4);(try clear hx190_5);(try clear hx190_6);(try clear hx190_7);(try clear hx191_0);(try clear hx191_1);(try clear hx191_2);(try clear hx191_3);(try clear hx191_4);(try clear hx191_5);(try clear hx191_6);(try clear hx191_7);(try clear hx192_0);(try clear hx192_1);(try clear hx192_2);(try clear hx192_3);(try clear hx192_4);(try clear hx192_5);(try clear hx192_6);(try clear hx192_7);(try clear p1);(try clear p190);(try clear p191);(try clear p192);(try clear p2);(try clear q1);(try clear q190);(try clear q191);(try clear q192);(try clear q24)
        obtain ⟨kq, x51_11, rfl, HA, HJ11, BK193, HB⟩ := hcut
        cases kq with
        | zero => exact absurd HA.out (by simp [spec_l17Good.j2])
        | succ kj11 =>
         have H := HA.out
         clear HA
         simp only [spec_l17Good.j2] at H
         by_cases c32 : x51_11 = true
         ·subst c32
          have H1 := H
          rw [if_pos rfl] at H1
          clear H
          have H := H1
          clear H1
          obtain rfl := Option.some.inj H
          go_wp2
          go_ret
          exact ⟨by first | rfl | (simp [errW_none, errW_some] <;> rfl) | (simp [*, errW_none, errW_some] <;> rfl), (Gtr.bw HB.out)⟩
         ·replace c32 := Bool.eq_false_iff.mpr c32
          subst c32
          have H1 : (if 0 ≤ ((rd_T74 l0 x31_2).f6) then (if ((rd_T74 l0 x31_2).f6) < (l0.length : Int) then (if ((rd_T74 l0 ((rd_T74 l0 x31_2).f6)).f6) = ((rd_T74 l0 x31_2).f6) then (if ((rd_T74 l0 ((rd_T74 l0 x31_2).f6)).f1) = ((rd_T74 l0 x31_2).f1) then (spec_l17Good.l0 kj11 l0 l0 (l0.length : Int) (wrap64 (x31_2 + 1))) else (some false)) else (some false)) else (none)) else (none)) = some r := by rw [if_neg (show ¬ (false = true) by decide)] at H; exact H
          clear H
          have H := H1
          clear H1
          refine Or.elim (Classical.em (0 ≤ ((rd_T74 l0 x31_2).f6))) (fun c33 => ?_) (fun c33 => by rw [if_neg c33] at H; exact absurd H (by simp))
          rw [if_pos c33] at H
          have c33b0 : decide (0 ≤ ((rd_T74 l0 x31_2).f6)) = true := decide_eq_true c33
          clear c33
          refine Or.elim (Classical.em (((rd_T74 l0 x31_2).f6) < (l0.length : Int))) (fun c34 => ?_) (fun c34 => by rw [if_neg c34] at H; exact absurd H (by simp))
          rw [if_pos c34] at H
          have c34b0 : decide (((rd_T74 l0 x31_2).f6) < (l0.length : Int)) = true := decide_eq_true c34
          clear c34
          by_cases c35 : ((rd_T74 l0 ((rd_T74 l0 x31_2).f6)).f6) = ((rd_T74 l0 x31_2).f6)
          ·rw [if_pos c35] at H
           have c35b0 : (((rd_T74 l0 ((rd_T74 l0 x31_2).f6)).f6) == ((rd_T74 l0 x31_2).f6)) = true := beq_iff_eq.mpr c35
           have c35b1 : (((rd_T74 l0 ((rd_T74 l0 x31_2).f6)).f6) != ((rd_T74 l0 x31_2).f6)) = false := bne_eq_false_iff_eq.mpr c35
           clear c35
           by_cases c36 : ((rd_T74 l0 ((rd_T74 l0 x31_2).f6)).f1) = ((rd_T74 l0 x31_2).f1)
           ·rw [if_pos c36] at H
            have c36b0 : (((rd_T74 l0 ((rd_T74 l0 x31_2).f6)).f1) == ((rd_T74 l0 x31_2).f1)) = true := beq_iff_eq.mpr c36
            have c36b1 : (((rd_T74 l0 ((rd_T74 l0 x31_2).f6)).f1) != ((rd_T74 l0 x31_2).f1)) = false := bne_eq_false_iff_eq.mpr c36
            clear c36
            have H' := Aside0.mk H
            clear H
            have hcz37_0 : wc.cell? ⟨gb193, 0, none⟩ = some (.string ((rd_T74 l0 x31_2).f0)) := (blk_cell BK193.out 0).trans rfl
            have hcz37_1 : wc.cell? ⟨gb193, 1, none⟩ = some (.int .i64 ((rd_T74 l0 x31_2).f1)) := (blk_cell BK193.out 1).trans rfl
            have hcz37_2 : wc.cell? ⟨gb193, 2, none⟩ = some (.int .i64 ((rd_T74 l0 x31_2).f2)) := (blk_cell BK193.out 2).trans rfl
            have hcz37_3 : wc.cell? ⟨gb193, 3, none⟩ = some (.int .i64 ((rd_T74 l0 x31_2).f3)) := (blk_cell BK193.out 3).trans rfl
            have hcz37_4 : wc.cell? ⟨gb193, 4, none⟩ = some (.int .i64 ((rd_T74 l0 x31_2).f4)) := (blk_cell BK193.out 4).trans rfl
            have hcz37_5 : wc.cell? ⟨gb193, 5, none⟩ = some (.int .i64 ((rd_T74 l0 x31_2).f5)) := (blk_cell BK193.out 5).trans rfl
            have hcz37_6 : wc.cell? ⟨gb193, 6, none⟩ = some (.int .i64 ((rd_T74 l0 x31_2).f6)) := (blk_cell BK193.out 6).trans rfl
            have hcz37_7 : wc.cell? ⟨gb193, 7, none⟩ = some (.string ((rd_T74 l0 x31_2).f7)) := (blk_cell BK193.out 7).trans rfl
            have hfz37_0 := blk_frozen BK193.out 0
            have hfz37_1 := blk_frozen BK193.out 1
            have hfz37_2 := blk_frozen BK193.out 2
            have hfz37_3 := blk_frozen BK193.out 3
            have hfz37_4 := blk_frozen BK193.out 4
            have hfz37_5 := blk_frozen BK193.out 5
            have hfz37_6 := blk_frozen BK193.out 6
            have hfz37_7 := blk_frozen BK193.out 7
            have p200 : 0 ≤ (((rd_T74 l0 x31_2).f6) : Int) := of_decide_eq_true (by first | (with_reducible assumption) | assumption)
            have q200 : ((rd_T74 l0 x31_2).f6) < (l0.length : Int) := of_decide_eq_true (by first | (with_reducible assumption) | assumption)
            obtain ⟨ad200, e200, hx200_0, hx200_1, hx200_2, hx200_3, hx200_4, hx200_5, hx200_6, hx200_7⟩ := at_T74 HR0.out ((rd_T74 l0 x31_2).f6) p200 q200
            obtain rfl : ad192 = ad200 := (by injection e200)
            replace hx200_0 := (HB.out.cell (World.block_lt_of_cell? w _ hx200_0)).trans hx200_0
            replace hx200_1 := (HB.out.cell (World.block_lt_of_cell? w _ hx200_1)).trans hx200_1
            replace hx200_2 := (HB.out.cell (World.block_lt_of_cell? w _ hx200_2)).trans hx200_2
            replace hx200_3 := (HB.out.cell (World.block_lt_of_cell? w _ hx200_3)).trans hx200_3
            replace hx200_4 := (HB.out.cell (World.block_lt_of_cell? w _ hx200_4)).trans hx200_4
            replace hx200_5 := (HB.out.cell (World.block_lt_of_cell? w _ hx200_5)).trans hx200_5
            replace hx200_6 := (HB.out.cell (World.block_lt_of_cell? w _ hx200_6)).trans hx200_6
            replace hx200_7 := (HB.out.cell (World.block_lt_of_cell? w _ hx200_7)).trans hx200_7
            replace p200 := eq_true p200
            replace q200 := eq_true q200
            go_wp2_with (first | ((with_reducible refine gate_dst (N := 5) rfl ?_); (try (refine gate_guard (by rfl) ?_; dsimp only)); refine box_event ?hg (N := 5) ?hd (cs := #[.string (⟨#[]⟩ : ByteArray), .int .i64 0, .int .i64 0, .int .i64 0, .int .i64 0, .int .i64 0, .int .i64 0, .string (⟨#[]⟩ : ByteArray)]) (t := 74) ?hr ?_; (case hd => rfl); (case hg => rfl); (case hr => first | (go_simp; done) | (go_simp; rfl)); intro gb201 hg w38 hbox hb; have n0_ := Aside0.mk (blk_below (g := gb193) (o := .cells #[.string ((rd_T74 l0 x31_2).f0), .int .i64 ((rd_T74 l0 x31_2).f1), .int .i64 ((rd_T74 l0 x31_2).f2), .int .i64 ((rd_T74 l0 x31_2).f3), .int .i64 ((rd_T74 l0 x31_2).f4), .int .i64 ((rd_T74 l0 x31_2).f5), .int .i64 ((rd_T74 l0 x31_2).f6), .string ((rd_T74 l0 x31_2).f7)] 74 (0, 0)) (by (with_reducible repeat (first | refine blk_drewN ?_ _ | refine blk_drew ?_ | refine blk_alloc ?_ _)); exact BK193.out) hb); have n1_ := Aside0.mk (below_step (Gtr.bw HB.out) hb); have n2_ := Aside0.mk (hbox); have n3_ := Aside0.mk ((by rw [hg]; exact (below_size (Gtr.bw HB.out)) : w.heap.size ≤ gb201)); have n4_ := Aside0.mk ((by rw [hg]; exact (below_size (Gtr.bw HB.out)) : w.heap.size ≤ gb201)); have n5_ := Aside0.mk ((by rw [hg]; exact Nat.ne_of_lt (blk_lt (g := gb193) (o := .cells #[.string ((rd_T74 l0 x31_2).f0), .int .i64 ((rd_T74 l0 x31_2).f1), .int .i64 ((rd_T74 l0 x31_2).f2), .int .i64 ((rd_T74 l0 x31_2).f3), .int .i64 ((rd_T74 l0 x31_2).f4), .int .i64 ((rd_T74 l0 x31_2).f5), .int .i64 ((rd_T74 l0 x31_2).f6), .string ((rd_T74 l0 x31_2).f7)] 74 (0, 0)) (by (with_reducible repeat (first | refine blk_drewN ?_ _ | refine blk_drew ?_ | refine blk_alloc ?_ _)); exact BK193.out)) : gb193 ≠ gb201)); have n6_ := Aside0.mk ((by rw [hg]; exact Nat.ne_of_gt (blk_lt (g := gb193) (o := .cells #[.string ((rd_T74 l0 x31_2).f0), .int .i64 ((rd_T74 l0 x31_2).f1), .int .i64 ((rd_T74 l0 x31_2).f2), .int .i64 ((rd_T74 l0 x31_2).f3), .int .i64 ((rd_T74 l0 x31_2).f4), .int .i64 ((rd_T74 l0 x31_2).f5), .int .i64 ((rd_T74 l0 x31_2).f6), .string ((rd_T74 l0 x31_2).f7)] 74 (0, 0)) (by (with_reducible repeat (first | refine blk_drewN ?_ _ | refine blk_drew ?_ | refine blk_alloc ?_ _)); exact BK193.out)) : gb201 ≠ gb193)); clear BK193; clear HB; have BK193 := n0_; have HB := n1_; have BK201 := n2_; have GW201 := n3_; have GE201 := n4_; have NB193_201 := n5_; have NB201_193 := n6_; clear n0_ n1_ n2_ n3_ n4_ n5_ n6_; clear hb hbox hg; have hnb39 := NB201_193.out; have hnc39 := NB193_201.out; have hcz40_0 : w38.cell? ⟨gb201, 0, none⟩ = some (.string (⟨#[]⟩ : ByteArray)) := (blk_cell BK201.out 0).trans rfl; have hcz40_1 : w38.cell? ⟨gb201, 1, none⟩ = some (.int .i64 0) := (blk_cell BK201.out 1).trans rfl; have hcz40_2 : w38.cell? ⟨gb201, 2, none⟩ = some (.int .i64 0) := (blk_cell BK201.out 2).trans rfl; have hcz40_3 : w38.cell? ⟨gb201, 3, none⟩ = some (.int .i64 0) := (blk_cell BK201.out 3).trans rfl; have hcz40_4 : w38.cell? ⟨gb201, 4, none⟩ = some (.int .i64 0) := (blk_cell BK201.out 4).trans rfl; have hcz40_5 : w38.cell? ⟨gb201, 5, none⟩ = some (.int .i64 0) := (blk_cell BK201.out 5).trans rfl; have hcz40_6 : w38.cell? ⟨gb201, 6, none⟩ = some (.int .i64 0) := (blk_cell BK201.out 6).trans rfl; have hcz40_7 : w38.cell? ⟨gb201, 7, none⟩ = some (.string (⟨#[]⟩ : ByteArray)) := (blk_cell BK201.out 7).trans rfl; have hfz40_0 := blk_frozen BK201.out 0; have hfz40_1 := blk_frozen BK201.out 1; have hfz40_2 := blk_frozen BK201.out 2; have hfz40_3 := blk_frozen BK201.out 3; have hfz40_4 := blk_frozen BK201.out 4; have hfz40_5 := blk_frozen BK201.out 5; have hfz40_6 := blk_frozen BK201.out 6; have hfz40_7 := blk_frozen BK201.out 7; have hcz41_0 : w38.cell? ⟨gb193, 0, none⟩ = some (.string ((rd_T74 l0 x31_2).f0)) := (blk_cell BK193.out 0).trans rfl; have hcz41_1 : w38.cell? ⟨gb193, 1, none⟩ = some (.int .i64 ((rd_T74 l0 x31_2).f1)) := (blk_cell BK193.out 1).trans rfl; have hcz41_2 : w38.cell? ⟨gb193, 2, none⟩ = some (.int .i64 ((rd_T74 l0 x31_2).f2)) := (blk_cell BK193.out 2).trans rfl; have hcz41_3 : w38.cell? ⟨gb193, 3, none⟩ = some (.int .i64 ((rd_T74 l0 x31_2).f3)) := (blk_cell BK193.out 3).trans rfl; have hcz41_4 : w38.cell? ⟨gb193, 4, none⟩ = some (.int .i64 ((rd_T74 l0 x31_2).f4)) := (blk_cell BK193.out 4).trans rfl; have hcz41_5 : w38.cell? ⟨gb193, 5, none⟩ = some (.int .i64 ((rd_T74 l0 x31_2).f5)) := (blk_cell BK193.out 5).trans rfl; have hcz41_6 : w38.cell? ⟨gb193, 6, none⟩ = some (.int .i64 ((rd_T74 l0 x31_2).f6)) := (blk_cell BK193.out 6).trans rfl; have hcz41_7 : w38.cell? ⟨gb193, 7, none⟩ = some (.string ((rd_T74 l0 x31_2).f7)) := (blk_cell BK193.out 7).trans rfl; have hfz41_0 := blk_frozen BK193.out 0; have hfz41_1 := blk_frozen BK193.out 1; have hfz41_2 := blk_frozen BK193.out 2; have hfz41_3 := blk_frozen BK193.out 3; have hfz41_4 := blk_frozen BK193.out 4; have hfz41_5 := blk_frozen BK193.out 5; have hfz41_6 := blk_frozen BK193.out 6; have hfz41_7 := blk_frozen BK193.out 7))
            go_roundg kj11
            case measure => have := HJ1.out; have := HK2.out; have := HJ11.out; omega
            case rel => exact ⟨(wrap64 (x31_2 + 1)), (by first | rfl | (simp; done) | (simp [*]; done)), H', ⟨by have := HJ1.out; have := HK2.out; have := HJ11.out; omega⟩, ⟨(Gtr.bw HB.out)⟩⟩
           ·rw [if_neg c36] at H
            have c36b0 : (((rd_T74 l0 ((rd_T74 l0 x31_2).f6)).f1) == ((rd_T74 l0 x31_2).f1)) = false := beq_eq_false_iff_ne.mpr c36
            have c36b1 : (((rd_T74 l0 ((rd_T74 l0 x31_2).f6)).f1) != ((rd_T74 l0 x31_2).f1)) = true := bne_iff_ne.mpr c36
            obtain rfl := Option.some.inj H
            have hcz42_0 : wc.cell? ⟨gb193, 0, none⟩ = some (.string ((rd_T74 l0 x31_2).f0)) := (blk_cell BK193.out 0).trans rfl
            have hcz42_1 : wc.cell? ⟨gb193, 1, none⟩ = some (.int .i64 ((rd_T74 l0 x31_2).f1)) := (blk_cell BK193.out 1).trans rfl
            have hcz42_2 : wc.cell? ⟨gb193, 2, none⟩ = some (.int .i64 ((rd_T74 l0 x31_2).f2)) := (blk_cell BK193.out 2).trans rfl
            have hcz42_3 : wc.cell? ⟨gb193, 3, none⟩ = some (.int .i64 ((rd_T74 l0 x31_2).f3)) := (blk_cell BK193.out 3).trans rfl
            have hcz42_4 : wc.cell? ⟨gb193, 4, none⟩ = some (.int .i64 ((rd_T74 l0 x31_2).f4)) := (blk_cell BK193.out 4).trans rfl
            have hcz42_5 : wc.cell? ⟨gb193, 5, none⟩ = some (.int .i64 ((rd_T74 l0 x31_2).f5)) := (blk_cell BK193.out 5).trans rfl
            have hcz42_6 : wc.cell? ⟨gb193, 6, none⟩ = some (.int .i64 ((rd_T74 l0 x31_2).f6)) := (blk_cell BK193.out 6).trans rfl
            have hcz42_7 : wc.cell? ⟨gb193, 7, none⟩ = some (.string ((rd_T74 l0 x31_2).f7)) := (blk_cell BK193.out 7).trans rfl
            have hfz42_0 := blk_frozen BK193.out 0
            have hfz42_1 := blk_frozen BK193.out 1
            have hfz42_2 := blk_frozen BK193.out 2
            have hfz42_3 := blk_frozen BK193.out 3
            have hfz42_4 := blk_frozen BK193.out 4
            have hfz42_5 := blk_frozen BK193.out 5
            have hfz42_6 := blk_frozen BK193.out 6
            have hfz42_7 := blk_frozen BK193.out 7
            have p200 : 0 ≤ (((rd_T74 l0 x31_2).f6) : Int) := of_decide_eq_true (by first | (with_reducible assumption) | assumption)
            have q200 : ((rd_T74 l0 x31_2).f6) < (l0.length : Int) := of_decide_eq_true (by first | (with_reducible assumption) | assumption)
            obtain ⟨ad200, e200, hx200_0, hx200_1, hx200_2, hx200_3, hx200_4, hx200_5, hx200_6, hx200_7⟩ := at_T74 HR0.out ((rd_T74 l0 x31_2).f6) p200 q200
            obtain rfl : ad192 = ad200 := (by injection e200)
            replace hx200_0 := (HB.out.cell (World.block_lt_of_cell? w _ hx200_0)).trans hx200_0
            replace hx200_1 := (HB.out.cell (World.block_lt_of_cell? w _ hx200_1)).trans hx200_1
            replace hx200_2 := (HB.out.cell (World.block_lt_of_cell? w _ hx200_2)).trans hx200_2
            replace hx200_3 := (HB.out.cell (World.block_lt_of_cell? w _ hx200_3)).trans hx200_3
            replace hx200_4 := (HB.out.cell (World.block_lt_of_cell? w _ hx200_4)).trans hx200_4
            replace hx200_5 := (HB.out.cell (World.block_lt_of_cell? w _ hx200_5)).trans hx200_5
            replace hx200_6 := (HB.out.cell (World.block_lt_of_cell? w _ hx200_6)).trans hx200_6
            replace hx200_7 := (HB.out.cell (World.block_lt_of_cell? w _ hx200_7)).trans hx200_7
            replace p200 := eq_true p200
            replace q200 := eq_true q200
            go_wp2_with (first | ((with_reducible refine gate_dst (N := 5) rfl ?_); (try (refine gate_guard (by rfl) ?_; dsimp only)); refine box_event ?hg (N := 5) ?hd (cs := #[.string (⟨#[]⟩ : ByteArray), .int .i64 0, .int .i64 0, .int .i64 0, .int .i64 0, .int .i64 0, .int .i64 0, .string (⟨#[]⟩ : ByteArray)]) (t := 74) ?hr ?_; (case hd => rfl); (case hg => rfl); (case hr => first | (go_simp; done) | (go_simp; rfl)); intro gb201 hg w43 hbox hb; have n0_ := Aside0.mk (blk_below (g := gb193) (o := .cells #[.string ((rd_T74 l0 x31_2).f0), .int .i64 ((rd_T74 l0 x31_2).f1), .int .i64 ((rd_T74 l0 x31_2).f2), .int .i64 ((rd_T74 l0 x31_2).f3), .int .i64 ((rd_T74 l0 x31_2).f4), .int .i64 ((rd_T74 l0 x31_2).f5), .int .i64 ((rd_T74 l0 x31_2).f6), .string ((rd_T74 l0 x31_2).f7)] 74 (0, 0)) (by (with_reducible repeat (first | refine blk_drewN ?_ _ | refine blk_drew ?_ | refine blk_alloc ?_ _)); exact BK193.out) hb); have n1_ := Aside0.mk (below_step (Gtr.bw HB.out) hb); have n2_ := Aside0.mk (hbox); have n3_ := Aside0.mk ((by rw [hg]; exact (below_size (Gtr.bw HB.out)) : w.heap.size ≤ gb201)); have n4_ := Aside0.mk ((by rw [hg]; exact (below_size (Gtr.bw HB.out)) : w.heap.size ≤ gb201)); have n5_ := Aside0.mk ((by rw [hg]; exact Nat.ne_of_lt (blk_lt (g := gb193) (o := .cells #[.string ((rd_T74 l0 x31_2).f0), .int .i64 ((rd_T74 l0 x31_2).f1), .int .i64 ((rd_T74 l0 x31_2).f2), .int .i64 ((rd_T74 l0 x31_2).f3), .int .i64 ((rd_T74 l0 x31_2).f4), .int .i64 ((rd_T74 l0 x31_2).f5), .int .i64 ((rd_T74 l0 x31_2).f6), .string ((rd_T74 l0 x31_2).f7)] 74 (0, 0)) (by (with_reducible repeat (first | refine blk_drewN ?_ _ | refine blk_drew ?_ | refine blk_alloc ?_ _)); exact BK193.out)) : gb193 ≠ gb201)); have n6_ := Aside0.mk ((by rw [hg]; exact Nat.ne_of_gt (blk_lt (g := gb193) (o := .cells #[.string ((rd_T74 l0 x31_2).f0), .int .i64 ((rd_T74 l0 x31_2).f1), .int .i64 ((rd_T74 l0 x31_2).f2), .int .i64 ((rd_T74 l0 x31_2).f3), .int .i64 ((rd_T74 l0 x31_2).f4), .int .i64 ((rd_T74 l0 x31_2).f5), .int .i64 ((rd_T74 l0 x31_2).f6), .string ((rd_T74 l0 x31_2).f7)] 74 (0, 0)) (by (with_reducible repeat (first | refine blk_drewN ?_ _ | refine blk_drew ?_ | refine blk_alloc ?_ _)); exact BK193.out)) : gb201 ≠ gb193)); clear BK193; clear HB; have BK193 := n0_; have HB := n1_; have BK201 := n2_; have GW201 := n3_; have GE201 := n4_; have NB193_201 := n5_; have NB201_193 := n6_; clear n0_ n1_ n2_ n3_ n4_ n5_ n6_; clear hb hbox hg; have hnb44 := NB201_193.out; have hnc44 := NB193_201.out; have hcz45_0 : w43.cell? ⟨gb201, 0, none⟩ = some (.string (⟨#[]⟩ : ByteArray)) := (blk_cell BK201.out 0).trans rfl; have hcz45_1 : w43.cell? ⟨gb201, 1, none⟩ = some (.int .i64 0) := (blk_cell BK201.out 1).trans rfl; have hcz45_2 : w43.cell? ⟨gb201, 2, none⟩ = some (.int .i64 0) := (blk_cell BK201.out 2).trans rfl; have hcz45_3 : w43.cell? ⟨gb201, 3, none⟩ = some (.int .i64 0) := (blk_cell BK201.out 3).trans rfl; have hcz45_4 : w43.cell? ⟨gb201, 4, none⟩ = some (.int .i64 0) := (blk_cell BK201.out 4).trans rfl; have hcz45_5 : w43.cell? ⟨gb201, 5, none⟩ = some (.int .i64 0) := (blk_cell BK201.out 5).trans rfl; have hcz45_6 : w43.cell? ⟨gb201, 6, none⟩ = some (.int .i64 0) := (blk_cell BK201.out 6).trans rfl; have hcz45_7 : w43.cell? ⟨gb201, 7, none⟩ = some (.string (⟨#[]⟩ : ByteArray)) := (blk_cell BK201.out 7).trans rfl; have hfz45_0 := blk_frozen BK201.out 0; have hfz45_1 := blk_frozen BK201.out 1; have hfz45_2 := blk_frozen BK201.out 2; have hfz45_3 := blk_frozen BK201.out 3; have hfz45_4 := blk_frozen BK201.out 4; have hfz45_5 := blk_frozen BK201.out 5; have hfz45_6 := blk_frozen BK201.out 6; have hfz45_7 := blk_frozen BK201.out 7; have hcz46_0 : w43.cell? ⟨gb193, 0, none⟩ = some (.string ((rd_T74 l0 x31_2).f0)) := (blk_cell BK193.out 0).trans rfl; have hcz46_1 : w43.cell? ⟨gb193, 1, none⟩ = some (.int .i64 ((rd_T74 l0 x31_2).f1)) := (blk_cell BK193.out 1).trans rfl; have hcz46_2 : w43.cell? ⟨gb193, 2, none⟩ = some (.int .i64 ((rd_T74 l0 x31_2).f2)) := (blk_cell BK193.out 2).trans rfl; have hcz46_3 : w43.cell? ⟨gb193, 3, none⟩ = some (.int .i64 ((rd_T74 l0 x31_2).f3)) := (blk_cell BK193.out 3).trans rfl; have hcz46_4 : w43.cell? ⟨gb193, 4, none⟩ = some (.int .i64 ((rd_T74 l0 x31_2).f4)) := (blk_cell BK193.out 4).trans rfl; have hcz46_5 : w43.cell? ⟨gb193, 5, none⟩ = some (.int .i64 ((rd_T74 l0 x31_2).f5)) := (blk_cell BK193.out 5).trans rfl; have hcz46_6 : w43.cell? ⟨gb193, 6, none⟩ = some (.int .i64 ((rd_T74 l0 x31_2).f6)) := (blk_cell BK193.out 6).trans rfl; have hcz46_7 : w43.cell? ⟨gb193, 7, none⟩ = some (.string ((rd_T74 l0 x31_2).f7)) := (blk_cell BK193.out 7).trans rfl; have hfz46_0 := blk_frozen BK193.out 0; have hfz46_1 := blk_frozen BK193.out 1; have hfz46_2 := blk_frozen BK193.out 2; have hfz46_3 := blk_frozen BK193.out 3; have hfz46_4 := blk_frozen BK193.out 4; have hfz46_5 := blk_frozen BK193.out 5; have hfz46_6 := blk_frozen BK193.out 6; have hfz46_7 := blk_frozen BK193.out 7))
            go_ret
            exact ⟨by first | rfl | (simp [errW_none, errW_some] <;> rfl) | (simp [*, errW_none, errW_some] <;> rfl), (Gtr.bw HB.out)⟩
          ·rw [if_neg c35] at H
           have c35b0 : (((rd_T74 l0 ((rd_T74 l0 x31_2).f6)).f6) == ((rd_T74 l0 x31_2).f6)) = false := beq_eq_false_iff_ne.mpr c35
           have c35b1 : (((rd_T74 l0 ((rd_T74 l0 x31_2).f6)).f6) != ((rd_T74 l0 x31_2).f6)) = true := bne_iff_ne.mpr c35
           obtain rfl := Option.some.inj H
           have hcz47_0 : wc.cell? ⟨gb193, 0, none⟩ = some (.string ((rd_T74 l0 x31_2).f0)) := (blk_cell BK193.out 0).trans rfl
           have hcz47_1 : wc.cell? ⟨gb193, 1, none⟩ = some (.int .i64 ((rd_T74 l0 x31_2).f1)) := (blk_cell BK193.out 1).trans rfl
           have hcz47_2 : wc.cell? ⟨gb193, 2, none⟩ = some (.int .i64 ((rd_T74 l0 x31_2).f2)) := (blk_cell BK193.out 2).trans rfl
           have hcz47_3 : wc.cell? ⟨gb193, 3, none⟩ = some (.int .i64 ((rd_T74 l0 x31_2).f3)) := (blk_cell BK193.out 3).trans rfl
           have hcz47_4 : wc.cell? ⟨gb193, 4, none⟩ = some (.int .i64 ((rd_T74 l0 x31_2).f4)) := (blk_cell BK193.out 4).trans rfl
           have hcz47_5 : wc.cell? ⟨gb193, 5, none⟩ = some (.int .i64 ((rd_T74 l0 x31_2).f5)) := (blk_cell BK193.out 5).trans rfl
           have hcz47_6 : wc.cell? ⟨gb193, 6, none⟩ = some (.int .i64 ((rd_T74 l0 x31_2).f6)) := (blk_cell BK193.out 6).trans rfl
           have hcz47_7 : wc.cell? ⟨gb193, 7, none⟩ = some (.string ((rd_T74 l0 x31_2).f7)) := (blk_cell BK193.out 7).trans rfl
           have hfz47_0 := blk_frozen BK193.out 0
           have hfz47_1 := blk_frozen BK193.out 1
           have hfz47_2 := blk_frozen BK193.out 2
           have hfz47_3 := blk_frozen BK193.out 3
           have hfz47_4 := blk_frozen BK193.out 4
           have hfz47_5 := blk_frozen BK193.out 5
           have hfz47_6 := blk_frozen BK193.out 6
           have hfz47_7 := blk_frozen BK193.out 7
           have p200 : 0 ≤ (((rd_T74 l0 x31_2).f6) : Int) := of_decide_eq_true (by first | (with_reducible assumption) | assumption)
           have q200 : ((rd_T74 l0 x31_2).f6) < (l0.length : Int) := of_decide_eq_true (by first | (with_reducible assumption) | assumption)
           obtain ⟨ad200, e200, hx200_0, hx200_1, hx200_2, hx200_3, hx200_4, hx200_5, hx200_6, hx200_7⟩ := at_T74 HR0.out ((rd_T74 l0 x31_2).f6) p200 q200
           obtain rfl : ad192 = ad200 := (by injection e200)
           replace hx200_0 := (HB.out.cell (World.block_lt_of_cell? w _ hx200_0)).trans hx200_0
           replace hx200_1 := (HB.out.cell (World.block_lt_of_cell? w _ hx200_1)).trans hx200_1
           replace hx200_2 := (HB.out.cell (World.block_lt_of_cell? w _ hx200_2)).trans hx200_2
           replace hx200_3 := (HB.out.cell (World.block_lt_of_cell? w _ hx200_3)).trans hx200_3
           replace hx200_4 := (HB.out.cell (World.block_lt_of_cell? w _ hx200_4)).trans hx200_4
           replace hx200_5 := (HB.out.cell (World.block_lt_of_cell? w _ hx200_5)).trans hx200_5
           replace hx200_6 := (HB.out.cell (World.block_lt_of_cell? w _ hx200_6)).trans hx200_6
           replace hx200_7 := (HB.out.cell (World.block_lt_of_cell? w _ hx200_7)).trans hx200_7
           replace p200 := eq_true p200
           replace q200 := eq_true q200
           go_wp2_with (first | ((with_reducible refine gate_dst (N := 5) rfl ?_); (try (refine gate_guard (by rfl) ?_; dsimp only)); refine box_event ?hg (N := 5) ?hd (cs := #[.string (⟨#[]⟩ : ByteArray), .int .i64 0, .int .i64 0, .int .i64 0, .int .i64 0, .int .i64 0, .int .i64 0, .string (⟨#[]⟩ : ByteArray)]) (t := 74) ?hr ?_; (case hd => rfl); (case hg => rfl); (case hr => first | (go_simp; done) | (go_simp; rfl)); intro gb201 hg w48 hbox hb; have n0_ := Aside0.mk (blk_below (g := gb193) (o := .cells #[.string ((rd_T74 l0 x31_2).f0), .int .i64 ((rd_T74 l0 x31_2).f1), .int .i64 ((rd_T74 l0 x31_2).f2), .int .i64 ((rd_T74 l0 x31_2).f3), .int .i64 ((rd_T74 l0 x31_2).f4), .int .i64 ((rd_T74 l0 x31_2).f5), .int .i64 ((rd_T74 l0 x31_2).f6), .string ((rd_T74 l0 x31_2).f7)] 74 (0, 0)) (by (with_reducible repeat (first | refine blk_drewN ?_ _ | refine blk_drew ?_ | refine blk_alloc ?_ _)); exact BK193.out) hb); have n1_ := Aside0.mk (below_step (Gtr.bw HB.out) hb); have n2_ := Aside0.mk (hbox); have n3_ := Aside0.mk ((by rw [hg]; exact (below_size (Gtr.bw HB.out)) : w.heap.size ≤ gb201)); have n4_ := Aside0.mk ((by rw [hg]; exact (below_size (Gtr.bw HB.out)) : w.heap.size ≤ gb201)); have n5_ := Aside0.mk ((by rw [hg]; exact Nat.ne_of_lt (blk_lt (g := gb193) (o := .cells #[.string ((rd_T74 l0 x31_2).f0), .int .i64 ((rd_T74 l0 x31_2).f1), .int .i64 ((rd_T74 l0 x31_2).f2), .int .i64 ((rd_T74 l0 x31_2).f3), .int .i64 ((rd_T74 l0 x31_2).f4), .int .i64 ((rd_T74 l0 x31_2).f5), .int .i64 ((rd_T74 l0 x31_2).f6), .string ((rd_T74 l0 x31_2).f7)] 74 (0, 0)) (by (with_reducible repeat (first | refine blk_drewN ?_ _ | refine blk_drew ?_ | refine blk_alloc ?_ _)); exact BK193.out)) : gb193 ≠ gb201)); have n6_ := Aside0.mk ((by rw [hg]; exact Nat.ne_of_gt (blk_lt (g := gb193) (o := .cells #[.string ((rd_T74 l0 x31_2).f0), .int .i64 ((rd_T74 l0 x31_2).f1), .int .i64 ((rd_T74 l0 x31_2).f2), .int .i64 ((rd_T74 l0 x31_2).f3), .int .i64 ((rd_T74 l0 x31_2).f4), .int .i64 ((rd_T74 l0 x31_2).f5), .int .i64 ((rd_T74 l0 x31_2).f6), .string ((rd_T74 l0 x31_2).f7)] 74 (0, 0)) (by (with_reducible repeat (first | refine blk_drewN ?_ _ | refine blk_drew ?_ | refine blk_alloc ?_ _)); exact BK193.out)) : gb201 ≠ gb193)); clear BK193; clear HB; have BK193 := n0_; have HB := n1_; have BK201 := n2_; have GW201 := n3_; have GE201 := n4_; have NB193_201 := n5_; have NB201_193 := n6_; clear n0_ n1_ n2_ n3_ n4_ n5_ n6_; clear hb hbox hg; have hnb49 := NB201_193.out; have hnc49 := NB193_201.out; have hcz50_0 : w48.cell? ⟨gb201, 0, none⟩ = some (.string (⟨#[]⟩ : ByteArray)) := (blk_cell BK201.out 0).trans rfl; have hcz50_1 : w48.cell? ⟨gb201, 1, none⟩ = some (.int .i64 0) := (blk_cell BK201.out 1).trans rfl; have hcz50_2 : w48.cell? ⟨gb201, 2, none⟩ = some (.int .i64 0) := (blk_cell BK201.out 2).trans rfl; have hcz50_3 : w48.cell? ⟨gb201, 3, none⟩ = some (.int .i64 0) := (blk_cell BK201.out 3).trans rfl; have hcz50_4 : w48.cell? ⟨gb201, 4, none⟩ = some (.int .i64 0) := (blk_cell BK201.out 4).trans rfl; have hcz50_5 : w48.cell? ⟨gb201, 5, none⟩ = some (.int .i64 0) := (blk_cell BK201.out 5).trans rfl; have hcz50_6 : w48.cell? ⟨gb201, 6, none⟩ = some (.int .i64 0) := (blk_cell BK201.out 6).trans rfl; have hcz50_7 : w48.cell? ⟨gb201, 7, none⟩ = some (.string (⟨#[]⟩ : ByteArray)) := (blk_cell BK201.out 7).trans rfl; have hfz50_0 := blk_frozen BK201.out 0; have hfz50_1 := blk_frozen BK201.out 1; have hfz50_2 := blk_frozen BK201.out 2; have hfz50_3 := blk_frozen BK201.out 3; have hfz50_4 := blk_frozen BK201.out 4; have hfz50_5 := blk_frozen BK201.out 5; have hfz50_6 := blk_frozen BK201.out 6; have hfz50_7 := blk_frozen BK201.out 7; have hcz51_0 : w48.cell? ⟨gb193, 0, none⟩ = some (.string ((rd_T74 l0 x31_2).f0)) := (blk_cell BK193.out 0).trans rfl; have hcz51_1 : w48.cell? ⟨gb193, 1, none⟩ = some (.int .i64 ((rd_T74 l0 x31_2).f1)) := (blk_cell BK193.out 1).trans rfl; have hcz51_2 : w48.cell? ⟨gb193, 2, none⟩ = some (.int .i64 ((rd_T74 l0 x31_2).f2)) := (blk_cell BK193.out 2).trans rfl; have hcz51_3 : w48.cell? ⟨gb193, 3, none⟩ = some (.int .i64 ((rd_T74 l0 x31_2).f3)) := (blk_cell BK193.out 3).trans rfl; have hcz51_4 : w48.cell? ⟨gb193, 4, none⟩ = some (.int .i64 ((rd_T74 l0 x31_2).f4)) := (blk_cell BK193.out 4).trans rfl; have hcz51_5 : w48.cell? ⟨gb193, 5, none⟩ = some (.int .i64 ((rd_T74 l0 x31_2).f5)) := (blk_cell BK193.out 5).trans rfl; have hcz51_6 : w48.cell? ⟨gb193, 6, none⟩ = some (.int .i64 ((rd_T74 l0 x31_2).f6)) := (blk_cell BK193.out 6).trans rfl; have hcz51_7 : w48.cell? ⟨gb193, 7, none⟩ = some (.string ((rd_T74 l0 x31_2).f7)) := (blk_cell BK193.out 7).trans rfl; have hfz51_0 := blk_frozen BK193.out 0; have hfz51_1 := blk_frozen BK193.out 1; have hfz51_2 := blk_frozen BK193.out 2; have hfz51_3 := blk_frozen BK193.out 3; have hfz51_4 := blk_frozen BK193.out 4; have hfz51_5 := blk_frozen BK193.out 5; have hfz51_6 := blk_frozen BK193.out 6; have hfz51_7 := blk_frozen BK193.out 7))
           go_ret
           exact ⟨by first | rfl | (simp [errW_none, errW_some] <;> rfl) | (simp [*, errW_none, errW_some] <;> rfl), (Gtr.bw HB.out)⟩
      ·rw [if_neg c9] at H
       have c9b0 : decide (x31_2 < (l0.length : Int)) = false := decide_eq_false c9
       clear c9
       obtain rfl := Option.some.inj H
       go_wp2
       go_ret
       exact ⟨by first | rfl | (simp [errW_none, errW_some] <;> rfl) | (simp [*, errW_none, errW_some] <;> rfl), (Gtr.bw HB.out)⟩
end Go.Proofs.YthhmkbchdiflcaaGreatDoor.Q
