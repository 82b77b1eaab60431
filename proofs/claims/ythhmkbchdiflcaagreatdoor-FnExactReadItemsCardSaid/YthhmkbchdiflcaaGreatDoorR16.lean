/- Texts of this claim, merged by a program (wip/tools/merge.py): Q97. -/
import Derived.Test.YthhmkbchdiflcaaGreatDoorR1
import Derived.Test.YthhmkbchdiflcaaGreatDoorR15
import Derived.Test.YthhmkbchdiflcaaGreatDoorR2
import Derived.Test.YthhmkbchdiflcaaGreatDoorR5
-- Printed by a program of this session (wip/tools/myprint.py) that runs the kit's print, hand-proved functions among the others.
namespace Go.Proofs.YthhmkbchdiflcaaGreatDoor.Q
open Go.RowKit Go.Proofs.YthhmkbchdiflcaaGreatDoorW.PrintWords Go.Proofs.YthhmkbchdiflcaaGreatDoorW.PrintLast Go.Proofs.YthhmkbchdiflcaaGreatDoorW.PrintMore
attribute [local go_sem] max2_int min2_int max_two min_two max_three min_three max_four min_four   -- for this text's walks alone
set_option linter.unusedVariables false
set_option linter.unusedSimpArgs false

/-! ### spec_ReadItems: function 15 -/
mutual
def spec_ReadItems.j0 : Nat → ByteArray → Bool → Option ((List (S74)) × Int × Bool)
 | 0, _, _ => none
 | k + 1, x0, x29 => if x29 = true then (some (([] : List (S74)), 1, false)) else (if 0 ≤ (wrap64 ((x0.size : Int) - 1)) then (if (wrap64 ((x0.size : Int) - 1)) ≤ (x0.size : Int) then ((spec_l1Split.f k (x0.extract 0 ((wrap64 ((x0.size : Int) - 1)) : Int).toNat) 10).bind fun t330 => (spec_ReadItems.l0 k t330 t330 (t330.length : Int) 0)) else (none)) else (none))
def spec_ReadItems.l0 : Nat → List ByteArray → List ByteArray → Int → Int → Option ((List (S74)) × Int × Bool)
 | 0, _, _, _, _ => none
 | k + 1, x5, x36, x37, x38 => if x38 < x37 then (if 0 ≤ x38 then (if x38 < (x36.length : Int) then ((spec_l1Split.f k (rdOf ByteArray.empty x36 x38) 9).bind fun t334 => (if (t334.length : Int) = 8 then (spec_ReadItems.l0 k x5 x36 x37 (wrap64 (x38 + 1))) else (some (([] : List (S74)), 2, false)))) else (none)) else (none)) else (spec_ReadItems.l1 k ([] : List (S74)) x5 (x5.length : Int) 0)
def spec_ReadItems.l1 : Nat → List (S74) → List ByteArray → Int → Int → Option ((List (S74)) × Int × Bool)
 | 0, _, _, _, _ => none
 | k + 1, x8, x47, x48, x49 => if x49 < x48 then (if 0 ≤ x49 then (if x49 < (x47.length : Int) then ((spec_l1Split.f k (rdOf ByteArray.empty x47 x49) 9).bind fun t339 => (if 1 < (t339.length : Int) then ((spec_ReadOctal.f k (rdOf ByteArray.empty t339 1)).bind fun bt343 => (if 0 < (t339.length : Int) then ((spec_l17Num.f k (rdOf ByteArray.empty t339 0)).bind fun t346 => (if 2 < (t339.length : Int) then ((spec_l17Num.f k (rdOf ByteArray.empty t339 2)).bind fun t348 => (if 3 < (t339.length : Int) then ((spec_l17Num.f k (rdOf ByteArray.empty t339 3)).bind fun t350 => (if 4 < (t339.length : Int) then ((spec_l17Num.f k (rdOf ByteArray.empty t339 4)).bind fun t352 => (if 5 < (t339.length : Int) then ((spec_l17Num.f k (rdOf ByteArray.empty t339 5)).bind fun t354 => ((some (([t346, t348, t350, t352, t354] : List Int) : List Int)).bind fun y355 => (if bt343.2 = true then ((spec_l1All.f k y355 0 9999999).bind fun t358 => (if t358 = true then (if 0 < (y355.length : Int) then (if 1 < (y355.length : Int) then (if 2 < (y355.length : Int) then (if 3 < (y355.length : Int) then (if 4 < (y355.length : Int) then (if 6 < (t339.length : Int) then (if 7 < (t339.length : Int) then (if x8.length < 1759218604441 then (spec_ReadItems.l1 k (x8 ++ [(⟨rdOf ByteArray.empty t339 6, rd y355 0, bt343.1, rd y355 1, rd y355 2, rd y355 3, rd y355 4, rdOf ByteArray.empty t339 7⟩ : S74)]) x47 x48 (wrap64 (x49 + 1))) else (none)) else (none)) else (none)) else (none)) else (none)) else (none)) else (none)) else (none)) else (some (([] : List (S74)), 3, false)))) else (some (([] : List (S74)), 3, false))))) else (none))) else (none))) else (none))) else (none))) else (none))) else (none))) else (none)) else (none)) else ((spec_l17Good.f k x8).bind fun t337 => (if t337 = true then (some (x8, 0, true)) else (some (([] : List (S74)), 4, false))))
end
def spec_ReadItems.f (k : Nat) (a0 : ByteArray) : Option ((List (S74)) × Int × Bool) := if (a0.size : Int) > 6000 then (spec_ReadItems.j0 k a0 true) else (if a0.toList = ([] : List UInt8) then (spec_ReadItems.j0 k a0 true) else (if 0 ≤ (wrap64 ((a0.size : Int) - 1)) then (if (wrap64 ((a0.size : Int) - 1)) < (a0.size : Int) then (spec_ReadItems.j0 k a0 ((bt a0 (wrap64 ((a0.size : Int) - 1))) != 10)) else (none)) else (none)))
def spec_ReadItems.T16 : Bool × List (List Nat × List Nat) := (true, [([], []), ([0], [0]), ([1], [1]), ([2], [2]), ([], []), ([4], [4]), ([5], [5]), ([6, 3], [6]), ([], []), ([8], [8]), ([9], [9]), ([10, 7], [10]), ([], []), ([12], [12]), ([13], [13]), ([14, 11], [14]), ([], []), ([16], [16]), ([17], [17]), ([18, 15], [18]), ([3, 7, 11, 15, 19], [3, 7, 11, 15, 19]), ([20, 19, 0, 1, 2, 3, 4, 5, 6, 7, 8, 9, 10, 11, 12, 13, 14, 15, 16, 17, 18, 19, 20], [20])])
def spec_ReadItems.B16 : List Nat := [0, 1, 3, 7, 0, 16, 48, 127, 0, 256, 768, 2047, 0, 4096, 12288, 32767, 0, 65536, 196608, 524287, 1048575, 2097151]
theorem spec_ReadItems.tab16 : rtab .any (opsOf Tryz.f15 16) = spec_ReadItems.T16 := by kernel_rfl
theorem spec_ReadItems.bits16 : waitsOk spec_ReadItems.T16.2 spec_ReadItems.B16 = true := by kernel_rfl
def spec_ReadItems.T19 : Bool × List (List Nat × List Nat) := (true, [([], []), ([], []), ([1], [1]), ([2], [2]), ([], []), ([], []), ([5], [5]), ([6], [6]), ([], []), ([8], [8]), ([9], [9]), ([], []), ([11], [11]), ([12], [12]), ([], []), ([14], [14]), ([15], [15]), ([], []), ([17], [17]), ([18], [18]), ([], []), ([20], [20]), ([21], [21]), ([3, 4, 7, 10, 13, 16, 19, 22], [3, 4, 7, 10, 13, 16, 19, 22]), ([23], [23]), ([0, 24], [0, 24]), ([25, 25, 0, 1, 2, 3, 4, 5, 6, 7, 8, 9, 10, 11, 12, 13, 14, 15, 16, 17, 18, 19, 20, 21, 22, 23, 24, 25], [0, 25])])
def spec_ReadItems.B19 : List Nat := [0, 0, 2, 6, 0, 0, 32, 96, 0, 256, 768, 0, 2048, 6144, 0, 16384, 49152, 0, 131072, 393216, 0, 1048576, 3145728, 8388606, 16777214, 33554431, 67108863]
theorem spec_ReadItems.tab19 : rtab .any (opsOf Tryz.f15 19) = spec_ReadItems.T19 := by kernel_rfl
theorem spec_ReadItems.bits19 : waitsOk spec_ReadItems.T19.2 spec_ReadItems.B19 = true := by kernel_rfl
set_option maxHeartbeats 8000000 in
set_option maxRecDepth 100000 in
theorem spec_ReadItems.calls (k : Nat) (a0 : ByteArray) (r1 : List (S74)) (r2 : Int) (r3 : Bool) (w : World) (h : spec_ReadItems.f k a0 = some (r1, r2, r3)) :
  Calls Tryz.prog 15 #[.string a0] w fun e w' => ∃ v0_ : Value, e = .returned (.tuple #[v0_, .int .i64 r2, .bool r3]) ∧ Kd.R k74 74 w' w.heap.size (fun _ => True) v0_ r1 ∧ Below w.heap.size w w' := by
 have hu74 := Tryz.underlying74
 have HB := Aside0.mk (Below.refl w.heap.size w)
 have H : (if (a0.size : Int) > 6000 then (spec_ReadItems.j0 k a0 true) else (if a0.toList = ([] : List UInt8) then (spec_ReadItems.j0 k a0 true) else (if 0 ≤ (wrap64 ((a0.size : Int) - 1)) then (if (wrap64 ((a0.size : Int) - 1)) < (a0.size : Int) then (spec_ReadItems.j0 k a0 ((bt a0 (wrap64 ((a0.size : Int) - 1))) != 10)) else (none)) else (none)))) = some (r1, r2, r3) := h
 clear h
 have HC2 := Aside0.mk H
 clear H
 go_enter Tryz.func15, Tryz.ntmps15
 go_upto_region 1 with (fail)
 go_cut [29] (fun v29 wc => ∃ (kq : Nat) (x29_1 : Bool), v29 = .bool x29_1 ∧ Aside0 (spec_ReadItems.j0 kq a0 x29_1 = some (r1, r2, r3)) ∧ Aside0 (kq ≤ k) ∧ Aside0 (Below w.heap.size w wc))
 case first =>
  have H := HC2.out
  clear HC2
  by_cases c3 : (a0.size : Int) > 6000
  ·rw [if_pos c3] at H
   have c3b0 : decide (6000 < (a0.size : Int)) = true := decide_eq_true c3
   have c3b1 : decide (6000 < a0.size) = true := decide_eq_true (by omega)
   clear c3
   (first | rw [c3b0] | (simp only [i64_w, i32_w]; rw [c3b0]) | skip)
   have H' := Aside0.mk H
   clear H
   go_wp2
   go_meet
   case rel => exact ⟨_, (true), (by first | rfl | (simp; done) | (simp [*]; done)), H', ⟨by first | omega | exact Nat.le_refl _⟩, ⟨(Gtr.bw HB.out)⟩⟩
  ·rw [if_neg c3] at H
   have c3b0 : decide (6000 < (a0.size : Int)) = false := decide_eq_false c3
   have c3b1 : decide (6000 < a0.size) = false := decide_eq_false (by omega)
   clear c3
   (first | rw [c3b0] | (simp only [i64_w, i32_w]; rw [c3b0]) | skip)
   by_cases c4 : a0.toList = ([] : List UInt8)
   ·rw [if_pos c4] at H
    have c4b0 : (a0.toList == ([] : List UInt8)) = true := beq_iff_eq.mpr c4
    have c4b1 : (a0.toList != ([] : List UInt8)) = false := bne_eq_false_iff_eq.mpr c4
    clear c4
    have H' := Aside0.mk H
    clear H
    go_wp2
    go_meet
    case rel => exact ⟨_, (true), (by first | rfl | (simp; done) | (simp [*]; done)), H', ⟨by first | omega | exact Nat.le_refl _⟩, ⟨(Gtr.bw HB.out)⟩⟩
   ·rw [if_neg c4] at H
    have c4b0 : (a0.toList == ([] : List UInt8)) = false := beq_eq_false_iff_ne.mpr c4
    have c4b1 : (a0.toList != ([] : List UInt8)) = true := bne_iff_ne.mpr c4
    obtain ⟨ji5, hji5⟩ : ∃ j_ : Int, (wrap64 ((a0.size : Int) - 1)) = j_ := ⟨_, rfl⟩
    replace H : (if 0 ≤ (ji5) then (if (ji5) < (a0.size : Int) then (spec_ReadItems.j0 k a0 ((bt a0 (ji5)) != 10)) else (none)) else (none)) = some (r1, r2, r3) := by first | (rw [hji5] at H; exact H) | (simp only [hji5] at H ⊢; exact H)
    have hji5w : (IntKind.i64.wrap ((a0.size : Int) - 1)) = ji5 := (i64_w _).trans hji5
    refine Or.elim (Classical.em (0 ≤ (ji5))) (fun c6 => ?_) (fun c6 => by rw [if_neg c6] at H; exact absurd H (by simp))
    rw [if_pos c6] at H
    have c6b0 : decide (0 ≤ (ji5)) = true := decide_eq_true c6
    clear c6
    refine Or.elim (Classical.em ((ji5) < (a0.size : Int))) (fun c7 => ?_) (fun c7 => by rw [if_neg c7] at H; exact absurd H (by simp))
    rw [if_pos c7] at H
    have c7b0 : decide ((ji5) < (a0.size : Int)) = true := decide_eq_true c7
    clear c7
    have H' := Aside0.mk H
    clear H
    have p8 : 0 ≤ ((ji5) : Int) := of_decide_eq_true (by first | (with_reducible assumption) | assumption)
    have q8 : (ji5) < (a0.size : Int) := of_decide_eq_true (by first | (with_reducible assumption) | assumption)
    have hx8 := bt_at a0 (ji5)
    replace p8 := eq_true p8
    replace q8 := eq_true q8
    go_wp2
    go_meet
    case rel => exact ⟨_, (((bt a0 (ji5)) != 10)), (by first | rfl | (simp; done) | (simp only [← hji5] <;> (first | rfl | simp)) | (simp [*]; done)), H', ⟨by first | omega | exact Nat.le_refl _⟩, ⟨(Gtr.bw HB.out)⟩⟩
 case rest =>
  clear HC2
  (try clear c1);(try clear p2);(try clear c3);(try clear c3b0);(try clear c3b1);(try clear c4);(try clear c4b0);(try clear c4b1);(try clear c6);(try clear c6b0);(try clear p6);(try clear c7);(try clear c7b0);(try clear p8);(try clear q8);(try clear hx8);(try clear p8);(try clear q8)
  obtain ⟨kq, x29_1, rfl, HA, HJ1, HB⟩ := hcut
  cases kq with
  | zero => exact absurd HA.out (by simp [spec_ReadItems.j0])
  | succ kj1 =>
   have H := HA.out
   clear HA
   simp only [spec_ReadItems.j0] at H
   by_cases c9 : x29_1 = true
   ·subst c9
    have H1 := H
    rw [if_pos rfl] at H1
    clear H
    have H := H1
    clear H1
    simp only [Option.some.injEq, Prod.mk.injEq] at H
    obtain ⟨rfl, rfl, rfl⟩ := H
    go_wp2
    go_ret3
    exact ⟨_, by first | rfl | (simp [errW_none, errW_some] <;> rfl) | (simp [*, errW_none, errW_some] <;> rfl), by first | exact Kd.R_nil _ _ _ _ _ | exact Kd.N_nil _ _ _ _ _ | exact Kd.V_nil _ _ _ _ _ | exact Kd.Q_nil _ _ _ _ _ | exact Kd.S_nil _ _ _ _ _, (Gtr.bw HB.out)⟩
   ·replace c9 := Bool.eq_false_iff.mpr c9
    subst c9
    have H1 : (if 0 ≤ (wrap64 ((a0.size : Int) - 1)) then (if (wrap64 ((a0.size : Int) - 1)) ≤ (a0.size : Int) then ((spec_l1Split.f kj1 (a0.extract 0 ((wrap64 ((a0.size : Int) - 1)) : Int).toNat) 10).bind fun t330 => (spec_ReadItems.l0 kj1 t330 t330 (t330.length : Int) 0)) else (none)) else (none)) = some (r1, r2, r3) := by rw [if_neg (show ¬ (false = true) by decide)] at H; exact H
    clear H
    have H := H1
    clear H1
    obtain ⟨ji10, hji10⟩ : ∃ j_ : Int, (wrap64 ((a0.size : Int) - 1)) = j_ := ⟨_, rfl⟩
    replace H : (if 0 ≤ (ji10) then (if (ji10) ≤ (a0.size : Int) then ((spec_l1Split.f kj1 (a0.extract 0 ((ji10) : Int).toNat) 10).bind fun t330 => (spec_ReadItems.l0 kj1 t330 t330 (t330.length : Int) 0)) else (none)) else (none)) = some (r1, r2, r3) := by first | (rw [hji10] at H; exact H) | (simp only [hji10] at H ⊢; exact H)
    have hji10w : (IntKind.i64.wrap ((a0.size : Int) - 1)) = ji10 := (i64_w _).trans hji10
    refine Or.elim (Classical.em (0 ≤ (ji10))) (fun c11 => ?_) (fun c11 => by rw [if_neg c11] at H; exact absurd H (by simp))
    rw [if_pos c11] at H
    have c11b0 := eq_true c11
    have c11b1 : decide (0 ≤ (ji10)) = true := decide_eq_true c11
    clear c11
    refine Or.elim (Classical.em ((ji10) ≤ (a0.size : Int))) (fun c12 => ?_) (fun c12 => by rw [if_neg c12] at H; exact absurd H (by simp))
    rw [if_pos c12] at H
    have c12b0 := eq_true c12
    have c12b1 : decide ((ji10) ≤ (a0.size : Int)) = true := decide_eq_true c12
    clear c12
    replace H := Option.bind_eq_some_iff.mp H
    obtain ⟨t330, A130, H⟩ := H
    try dsimp only at H
    have A13 := Aside0.mk A130
    clear A130
    have H' := Aside0.mk H
    clear H
    go_wp2_with (first | ((with_reducible refine gate_callee (f := 67) rfl ?_); refine goesL_ (some 35) rfl rfl Tryz.func67 (by kernel_rfl) rfl #[.string (a0.extract 0 ((ji10) : Int).toNat), .int .u8 10] rfl (by (try simp only [List.map_toArray, List.map_cons, List.map_nil]); first | done | (simp only [hji10]; rfl) | rfl | (simp only [List.length_drop, List.length_take]; rfl)) ?_; (with_reducible refine (spec_l1Split.calls kj1 (a0.extract 0 ((ji10) : Int).toNat) 10 t330 _ A13.out).mono ?_); rintro e w14 ⟨v331, rfl, ho0, hb⟩; refine ⟨_, rfl, ?_⟩; have n0_ := Aside0.mk (Kd.R_lower ho0 (below_size (Gtr.bw HB.out))); have n1_ := Aside0.mk (below_step (Gtr.bw HB.out) hb); clear HB; have HO332 := n0_; have HB := n1_; clear n0_ n1_; (try clear hb); (try clear hb2); (try clear hk); (try clear hi); (try clear ho0); obtain ⟨Ao15, co15, eo15⟩ := Kd.R_slice HO332.out; subst eo15))
    go_loopg [38] kj1 (fun kq v38 w' => ∃ (x38_2 : Int), v38 = .int .i64 x38_2 ∧ Aside0 (spec_ReadItems.l0 kq t330 t330 (t330.length : Int) x38_2 = some (r1, r2, r3)) ∧ Aside0 (kq ≤ kj1) ∧ Aside0 (Kd.R Kd.string 9 w' w.heap.size (fun _ => True) (.slice Ao15 t330.length co15) t330) ∧ Aside0 (Kd.R Kd.string 9 w' w.heap.size (fun _ => True) (.slice Ao15 t330.length co15) t330) ∧ Aside0 (Below w.heap.size w w'))
    case atStart => exact ⟨(0), (by first | rfl | (simp; done) | (simp [*]; done)), H', ⟨Nat.le_refl _⟩, ⟨by (with_reducible repeat (first | apply Kd.R_alloc | apply Kd.R_drewN | apply Kd.R_drew)); exact HO332.out⟩, ⟨by (with_reducible repeat (first | apply Kd.R_alloc | apply Kd.R_drewN | apply Kd.R_drew)); exact HO332.out⟩, ⟨(Gtr.bw HB.out)⟩⟩
    case round =>
     clear H'
     (try clear c1);(try clear p2);(try clear c3);(try clear c3b0);(try clear c3b1);(try clear c4);(try clear c4b0);(try clear c4b1);(try clear c6);(try clear c6b0);(try clear p6);(try clear c7);(try clear c7b0);(try clear p8);(try clear q8);(try clear hx8);(try clear c9);(try clear c11);(try clear c11b0);(try clear c11b1);(try clear c12);(try clear c12b0);(try clear c12b1);(try clear c15);(try clear p2);(try clear p6);(try clear p8);(try clear q8)
     obtain ⟨x38_2, rfl, HA, HK2, HO_5, HO_36, HB⟩ := hrel
     cases gk with
     | zero => exact absurd HA.out (by simp [spec_ReadItems.l0])
     | succ k2 =>
      have H := HA.out
      clear HA
      simp only [spec_ReadItems.l0] at H
      by_cases c16 : x38_2 < (t330.length : Int)
      ·rw [if_pos c16] at H
       have c16b0 : decide (x38_2 < (t330.length : Int)) = true := decide_eq_true c16
       clear c16
       refine Or.elim (Classical.em (0 ≤ x38_2)) (fun c17 => ?_) (fun c17 => by rw [if_neg c17] at H; exact absurd H (by simp))
       rw [if_pos c17] at H
       have c17b0 : decide (0 ≤ x38_2) = true := decide_eq_true c17
       clear c17
       refine Or.elim (Classical.em (x38_2 < (t330.length : Int))) (fun c18 => ?_) (fun c18 => by rw [if_neg c18] at H; exact absurd H (by simp))
       rw [if_pos c18] at H
       have c18b0 : decide (x38_2 < (t330.length : Int)) = true := decide_eq_true c18
       clear c18
       replace H := Option.bind_eq_some_iff.mp H
       obtain ⟨t334, A190, H⟩ := H
       try dsimp only at H
       have A19 := Aside0.mk A190
       clear A190
       by_cases c20 : (t334.length : Int) = 8
       ·rw [if_pos c20] at H
        have c20b0 : ((t334.length : Int) == 8) = true := beq_iff_eq.mpr c20
        have c20b1 : ((t334.length : Int) != 8) = false := bne_eq_false_iff_eq.mpr c20
        clear c20
        have H' := Aside0.mk H
        clear H
        have p333 : 0 ≤ (x38_2 : Int) := of_decide_eq_true (by first | (with_reducible assumption) | assumption)
        have q333 : x38_2 < (t330.length : Int) := of_decide_eq_true (by first | (with_reducible assumption) | assumption)
        obtain ⟨ad333, e333, hx333_0⟩ := Kd.at_string (Kd.R_reads' HO_36.out).2.2 x38_2 p333 q333
        cases e333
        replace p333 := eq_true p333
        replace q333 := eq_true q333
        go_wp2_with (first | ((with_reducible refine gate_callee (f := 67) rfl ?_); refine goesL_ (some 43) rfl rfl Tryz.func67 (by kernel_rfl) rfl #[.string (rdOf ByteArray.empty t330 x38_2), .int .u8 9] rfl (by (try simp only [List.map_toArray, List.map_cons, List.map_nil]); first | done | rfl | (simp only [List.length_drop, List.length_take]; rfl)) ?_; (with_reducible refine (spec_l1Split.calls k2 (rdOf ByteArray.empty t330 x38_2) 9 t334 _ A19.out).mono ?_); rintro e w21 ⟨v335, rfl, ho0, hb⟩; refine ⟨_, rfl, ?_⟩; have n0_ := Aside0.mk (Kd.R_elder' (by (with_reducible repeat (first | apply Kd.R_alloc | apply Kd.R_drewN | apply Kd.R_drew)); exact HO_5.out) (Kd.R_base ho0) hb); have n1_ := Aside0.mk (Kd.R_elder' (by (with_reducible repeat (first | apply Kd.R_alloc | apply Kd.R_drewN | apply Kd.R_drew)); exact HO_36.out) (Kd.R_base ho0) hb); have n2_ := Aside0.mk (Kd.R_lower (Kd.R_new' (Kd.R_new' ho0 (Kd.R_lt (by (with_reducible repeat (first | apply Kd.R_alloc | apply Kd.R_drewN | apply Kd.R_drew)); exact HO_5.out))) (Kd.R_lt (by (with_reducible repeat (first | apply Kd.R_alloc | apply Kd.R_drewN | apply Kd.R_drew)); exact HO_36.out))) (below_size (Gtr.bw HB.out))); have n3_ := Aside0.mk (below_step (Gtr.bw HB.out) hb); clear HO_5; clear HO_36; clear HB; have HO_5 := n0_; have HO_36 := n1_; have HO336 := n2_; have HB := n3_; clear n0_ n1_ n2_ n3_; (try clear hb); (try clear hb2); (try clear hk); (try clear hi); (try clear ho0); obtain ⟨Ao22, co22, eo22⟩ := Kd.R_slice HO336.out; subst eo22))
        go_roundg k2
        case measure => have := HJ1.out; have := HK2.out; omega
        case rel => exact ⟨(wrap64 (x38_2 + 1)), (by first | rfl | (simp; done) | (simp [*]; done)), H', ⟨by have := HJ1.out; have := HK2.out; omega⟩, ⟨by (with_reducible repeat (first | apply Kd.R_alloc | apply Kd.R_drewN | apply Kd.R_drew)); exact Kd.R_mono HO_5.out (fun _ hk => trivial)⟩, ⟨by (with_reducible repeat (first | apply Kd.R_alloc | apply Kd.R_drewN | apply Kd.R_drew)); exact Kd.R_mono HO_36.out (fun _ hk => trivial)⟩, ⟨(Gtr.bw HB.out)⟩⟩
       ·rw [if_neg c20] at H
        have c20b0 : ((t334.length : Int) == 8) = false := beq_eq_false_iff_ne.mpr c20
        have c20b1 : ((t334.length : Int) != 8) = true := bne_iff_ne.mpr c20
        simp only [Option.some.injEq, Prod.mk.injEq] at H
        obtain ⟨rfl, rfl, rfl⟩ := H
        have p333 : 0 ≤ (x38_2 : Int) := of_decide_eq_true (by first | (with_reducible assumption) | assumption)
        have q333 : x38_2 < (t330.length : Int) := of_decide_eq_true (by first | (with_reducible assumption) | assumption)
        obtain ⟨ad333, e333, hx333_0⟩ := Kd.at_string (Kd.R_reads' HO_36.out).2.2 x38_2 p333 q333
        cases e333
        replace p333 := eq_true p333
        replace q333 := eq_true q333
        go_wp2_with (first | ((with_reducible refine gate_callee (f := 67) rfl ?_); refine goesL_ (some 43) rfl rfl Tryz.func67 (by kernel_rfl) rfl #[.string (rdOf ByteArray.empty t330 x38_2), .int .u8 9] rfl (by (try simp only [List.map_toArray, List.map_cons, List.map_nil]); first | done | rfl | (simp only [List.length_drop, List.length_take]; rfl)) ?_; (with_reducible refine (spec_l1Split.calls k2 (rdOf ByteArray.empty t330 x38_2) 9 t334 _ A19.out).mono ?_); rintro e w23 ⟨v335, rfl, ho0, hb⟩; refine ⟨_, rfl, ?_⟩; have n0_ := Aside0.mk (Kd.R_elder' (by (with_reducible repeat (first | apply Kd.R_alloc | apply Kd.R_drewN | apply Kd.R_drew)); exact HO_5.out) (Kd.R_base ho0) hb); have n1_ := Aside0.mk (Kd.R_elder' (by (with_reducible repeat (first | apply Kd.R_alloc | apply Kd.R_drewN | apply Kd.R_drew)); exact HO_36.out) (Kd.R_base ho0) hb); have n2_ := Aside0.mk (Kd.R_lower (Kd.R_new' (Kd.R_new' ho0 (Kd.R_lt (by (with_reducible repeat (first | apply Kd.R_alloc | apply Kd.R_drewN | apply Kd.R_drew)); exact HO_5.out))) (Kd.R_lt (by (with_reducible repeat (first | apply Kd.R_alloc | apply Kd.R_drewN | apply Kd.R_drew)); exact HO_36.out))) (below_size (Gtr.bw HB.out))); have n3_ := Aside0.mk (below_step (Gtr.bw HB.out) hb); clear HO_5; clear HO_36; clear HB; have HO_5 := n0_; have HO_36 := n1_; have HO336 := n2_; have HB := n3_; clear n0_ n1_ n2_ n3_; (try clear hb); (try clear hb2); (try clear hk); (try clear hi); (try clear ho0); obtain ⟨Ao24, co24, eo24⟩ := Kd.R_slice HO336.out; subst eo24))
        go_ret3
        exact ⟨_, by first | rfl | (simp [errW_none, errW_some] <;> rfl) | (simp only [← hji10]; first | rfl | (simp [errW_none, errW_some] <;> rfl)) | (simp [*, errW_none, errW_some] <;> rfl), by first | exact Kd.R_nil _ _ _ _ _ | exact Kd.N_nil _ _ _ _ _ | exact Kd.V_nil _ _ _ _ _ | exact Kd.Q_nil _ _ _ _ _ | exact Kd.S_nil _ _ _ _ _, (Gtr.bw HB.out)⟩
      ·rw [if_neg c16] at H
       have c16b0 : decide (x38_2 < (t330.length : Int)) = false := decide_eq_false c16
       clear c16
       have H' := Aside0.mk H
       clear H
       go_wp2
       go_loopg [8, 49] k2 (fun kq v8 v49 w' => ∃ (x8_3 : List (S74)) (x49_3 : Int), v49 = .int .i64 x49_3 ∧ Aside0 (spec_ReadItems.l1 kq x8_3 t330 (t330.length : Int) x49_3 = some (r1, r2, r3)) ∧ Aside0 (kq ≤ k2) ∧ Aside0 (Kd.R k74 74 w' w.heap.size (fun _ => True) v8 x8_3) ∧ Aside0 (Kd.R Kd.string 9 w' w.heap.size (fun _ => True) (.slice Ao15 t330.length co15) t330) ∧ Aside0 (Below w.heap.size w w'))
       case atStart => exact ⟨(([] : List (S74))), (0), (by first | rfl | (simp; done) | (simp [*]; done)), H', ⟨Nat.le_refl _⟩, ⟨by first | exact Kd.R_nil _ _ _ _ _ | exact Kd.N_nil _ _ _ _ _ | exact Kd.V_nil _ _ _ _ _ | exact Kd.Q_nil _ _ _ _ _ | exact Kd.S_nil _ _ _ _ _⟩, ⟨by (with_reducible repeat (first | apply Kd.R_alloc | apply Kd.R_drewN | apply Kd.R_drew)); exact HO_5.out⟩, ⟨(Gtr.bw HB.out)⟩⟩
       case round =>
        clear H'
        (try clear c1);(try clear c2);(try clear p2);(try clear c3);(try clear c3b0);(try clear c3b1);(try clear p3);(try clear q3);(try clear hx3);(try clear c4);(try clear c4b0);(try clear c4b1);(try clear c6);(try clear c6b0);(try clear p6);(try clear c7);(try clear c7b0);(try clear p8);(try clear q8);(try clear hx8);(try clear c9);(try clear c11);(try clear c11b0);(try clear c11b1);(try clear c12);(try clear c12b0);(try clear c12b1);(try clear c15);(try clear c16);(try clear c16b0);(try clear c17);(try clear c17b0);(try clear c18);(try clear c18b0);(try clear c20);(try clear c20b0);(try clear c20b1);(try clear hx333_0);(try clear p2);(try clear p333);(try clear p6);(try clear p8);(try clear q333);(try clear q8)
        obtain ⟨x8_3, x49_3, rfl, HA, HK3, HO_8, HO_47, HB⟩ := hrel
        cases gk with
        | zero => exact absurd HA.out (by simp [spec_ReadItems.l1])
        | succ k3 =>
         have H := HA.out
         clear HA
         simp only [spec_ReadItems.l1] at H
         by_cases c25 : x49_3 < (t330.length : Int)
         ·rw [if_pos c25] at H
          have c25b0 : decide (x49_3 < (t330.length : Int)) = true := decide_eq_true c25
          clear c25
          refine Or.elim (Classical.em (0 ≤ x49_3)) (fun c26 => ?_) (fun c26 => by rw [if_neg c26] at H; exact absurd H (by simp))
          rw [if_pos c26] at H
          have c26b0 : decide (0 ≤ x49_3) = true := decide_eq_true c26
          clear c26
          refine Or.elim (Classical.em (x49_3 < (t330.length : Int))) (fun c27 => ?_) (fun c27 => by rw [if_neg c27] at H; exact absurd H (by simp))
          rw [if_pos c27] at H
          have c27b0 : decide (x49_3 < (t330.length : Int)) = true := decide_eq_true c27
          clear c27
          replace H := Option.bind_eq_some_iff.mp H
          obtain ⟨t339, A280, H⟩ := H
          try dsimp only at H
          have A28 := Aside0.mk A280
          clear A280
          refine Or.elim (Classical.em (1 < (t339.length : Int))) (fun c29 => ?_) (fun c29 => by rw [if_neg c29] at H; exact absurd H (by simp))
          rw [if_pos c29] at H
          have c29b0 : decide (1 < (t339.length : Int)) = true := decide_eq_true c29
          have c29b1 : decide (1 < t339.length) = true := decide_eq_true (by omega)
          clear c29
          replace H := Option.bind_eq_some_iff.mp H
          obtain ⟨⟨t343, t344⟩, A300, H⟩ := H
          try dsimp only at H
          have A30 := Aside0.mk A300
          clear A300
          refine Or.elim (Classical.em (0 < (t339.length : Int))) (fun c31 => ?_) (fun c31 => by rw [if_neg c31] at H; exact absurd H (by simp))
          rw [if_pos c31] at H
          have c31b0 : decide (0 < (t339.length : Int)) = true := decide_eq_true c31
          have c31b1 : decide (0 < t339.length) = true := decide_eq_true (by omega)
          clear c31
          replace H := Option.bind_eq_some_iff.mp H
          obtain ⟨t346, A320, H⟩ := H
          try dsimp only at H
          have A32 := Aside0.mk A320
          clear A320
          refine Or.elim (Classical.em (2 < (t339.length : Int))) (fun c33 => ?_) (fun c33 => by rw [if_neg c33] at H; exact absurd H (by simp))
          rw [if_pos c33] at H
          have c33b0 : decide (2 < (t339.length : Int)) = true := decide_eq_true c33
          have c33b1 : decide (2 < t339.length) = true := decide_eq_true (by omega)
          clear c33
          replace H := Option.bind_eq_some_iff.mp H
          obtain ⟨t348, A340, H⟩ := H
          try dsimp only at H
          have A34 := Aside0.mk A340
          clear A340
          refine Or.elim (Classical.em (3 < (t339.length : Int))) (fun c35 => ?_) (fun c35 => by rw [if_neg c35] at H; exact absurd H (by simp))
          rw [if_pos c35] at H
          have c35b0 : decide (3 < (t339.length : Int)) = true := decide_eq_true c35
          have c35b1 : decide (3 < t339.length) = true := decide_eq_true (by omega)
          clear c35
          replace H := Option.bind_eq_some_iff.mp H
          obtain ⟨t350, A360, H⟩ := H
          try dsimp only at H
          have A36 := Aside0.mk A360
          clear A360
          refine Or.elim (Classical.em (4 < (t339.length : Int))) (fun c37 => ?_) (fun c37 => by rw [if_neg c37] at H; exact absurd H (by simp))
          rw [if_pos c37] at H
          have c37b0 : decide (4 < (t339.length : Int)) = true := decide_eq_true c37
          have c37b1 : decide (4 < t339.length) = true := decide_eq_true (by omega)
          clear c37
          replace H := Option.bind_eq_some_iff.mp H
          obtain ⟨t352, A380, H⟩ := H
          try dsimp only at H
          have A38 := Aside0.mk A380
          clear A380
          refine Or.elim (Classical.em (5 < (t339.length : Int))) (fun c39 => ?_) (fun c39 => by rw [if_neg c39] at H; exact absurd H (by simp))
          rw [if_pos c39] at H
          have c39b0 : decide (5 < (t339.length : Int)) = true := decide_eq_true c39
          have c39b1 : decide (5 < t339.length) = true := decide_eq_true (by omega)
          clear c39
          replace H := Option.bind_eq_some_iff.mp H
          obtain ⟨t354, A400, H⟩ := H
          try dsimp only at H
          have A40 := Aside0.mk A400
          clear A400
          obtain ⟨y355, hy355⟩ : ∃ y_ : List Int, y_ = (([t346, t348, t350, t352, t354] : List Int)) := ⟨_, rfl⟩
          replace H : (if t344 = true then ((spec_l1All.f k3 y355 0 9999999).bind fun t358 => (if t358 = true then (if 0 < (y355.length : Int) then (if 1 < (y355.length : Int) then (if 2 < (y355.length : Int) then (if 3 < (y355.length : Int) then (if 4 < (y355.length : Int) then (if 6 < (t339.length : Int) then (if 7 < (t339.length : Int) then (if x8_3.length < 1759218604441 then (spec_ReadItems.l1 k3 (x8_3 ++ [(⟨rdOf ByteArray.empty t339 6, rd y355 0, t343, rd y355 1, rd y355 2, rd y355 3, rd y355 4, rdOf ByteArray.empty t339 7⟩ : S74)]) t330 (t330.length : Int) (wrap64 (x49_3 + 1))) else (none)) else (none)) else (none)) else (none)) else (none)) else (none)) else (none)) else (none)) else (some (([] : List (S74)), 3, false)))) else (some (([] : List (S74)), 3, false))) = some (r1, r2, r3) := by first | (rw [hy355]; with_reducible exact H) | (have H2_ := (Option.bind_some _ _).symm.trans H; rw [hy355]; with_reducible exact H2_) | (have H2_ := (Option.bind_some _ _).symm.trans H; with_reducible exact H2_) | with_reducible exact H | (rw [hy355]; exact H) | exact H
          have Ny355 := Aside0.mk hy355
          clear hy355
          by_cases c41 : t344 = true
          ·subst c41
           have H1 := H
           rw [if_pos rfl] at H1
           clear H
           have H := H1
           clear H1
           replace H := Option.bind_eq_some_iff.mp H
           obtain ⟨t358, A420, H⟩ := H
           try dsimp only at H
           have A42 := Aside0.mk A420
           clear A420
           by_cases c43 : t358 = true
           ·subst c43
            have H1 := H
            rw [if_pos rfl] at H1
            clear H
            have H := H1
            clear H1
            refine Or.elim (Classical.em (0 < (y355.length : Int))) (fun c44 => ?_) (fun c44 => by rw [if_neg c44] at H; exact absurd H (by simp))
            rw [if_pos c44] at H
            have c44b0 : decide (0 < (y355.length : Int)) = true := decide_eq_true c44
            have c44b1 : decide (0 < y355.length) = true := decide_eq_true (by omega)
            clear c44
            refine Or.elim (Classical.em (1 < (y355.length : Int))) (fun c45 => ?_) (fun c45 => by rw [if_neg c45] at H; exact absurd H (by simp))
            rw [if_pos c45] at H
            have c45b0 : decide (1 < (y355.length : Int)) = true := decide_eq_true c45
            have c45b1 : decide (1 < y355.length) = true := decide_eq_true (by omega)
            clear c45
            refine Or.elim (Classical.em (2 < (y355.length : Int))) (fun c46 => ?_) (fun c46 => by rw [if_neg c46] at H; exact absurd H (by simp))
            rw [if_pos c46] at H
            have c46b0 : decide (2 < (y355.length : Int)) = true := decide_eq_true c46
            have c46b1 : decide (2 < y355.length) = true := decide_eq_true (by omega)
            clear c46
            refine Or.elim (Classical.em (3 < (y355.length : Int))) (fun c47 => ?_) (fun c47 => by rw [if_neg c47] at H; exact absurd H (by simp))
            rw [if_pos c47] at H
            have c47b0 : decide (3 < (y355.length : Int)) = true := decide_eq_true c47
            have c47b1 : decide (3 < y355.length) = true := decide_eq_true (by omega)
            clear c47
            refine Or.elim (Classical.em (4 < (y355.length : Int))) (fun c48 => ?_) (fun c48 => by rw [if_neg c48] at H; exact absurd H (by simp))
            rw [if_pos c48] at H
            have c48b0 : decide (4 < (y355.length : Int)) = true := decide_eq_true c48
            have c48b1 : decide (4 < y355.length) = true := decide_eq_true (by omega)
            clear c48
            refine Or.elim (Classical.em (6 < (t339.length : Int))) (fun c49 => ?_) (fun c49 => by rw [if_neg c49] at H; exact absurd H (by simp))
            rw [if_pos c49] at H
            have c49b0 : decide (6 < (t339.length : Int)) = true := decide_eq_true c49
            have c49b1 : decide (6 < t339.length) = true := decide_eq_true (by omega)
            clear c49
            refine Or.elim (Classical.em (7 < (t339.length : Int))) (fun c50 => ?_) (fun c50 => by rw [if_neg c50] at H; exact absurd H (by simp))
            rw [if_pos c50] at H
            have c50b0 : decide (7 < (t339.length : Int)) = true := decide_eq_true c50
            have c50b1 : decide (7 < t339.length) = true := decide_eq_true (by omega)
            clear c50
            refine Or.elim (Classical.em (x8_3.length < 1759218604441)) (fun c51 => ?_) (fun c51 => by rw [if_neg c51] at H; exact absurd H (by simp))
            rw [if_pos c51] at H
            have LMc51 := Aside0.mk c51
            clear c51
            obtain ⟨y366, hy366⟩ : ∃ y_ : List (S74), y_ = (x8_3 ++ [(⟨rdOf ByteArray.empty t339 6, rd y355 0, t343, rd y355 1, rd y355 2, rd y355 3, rd y355 4, rdOf ByteArray.empty t339 7⟩ : S74)]) := ⟨_, rfl⟩
            replace H : (spec_ReadItems.l1 k3 y366 t330 (t330.length : Int) (wrap64 (x49_3 + 1))) = some (r1, r2, r3) := by first | (rw [hy366]; with_reducible exact H) | (have H2_ := (Option.bind_some _ _).symm.trans H; rw [hy366]; with_reducible exact H2_) | (have H2_ := (Option.bind_some _ _).symm.trans H; with_reducible exact H2_) | with_reducible exact H | (rw [hy366]; exact H) | exact H
            have Ny366 := Aside0.mk hy366
            clear hy366
            have H' := Aside0.mk H
            clear H
            have p338 : 0 ≤ (x49_3 : Int) := of_decide_eq_true (by first | (with_reducible assumption) | assumption)
            have q338 : x49_3 < (t330.length : Int) := of_decide_eq_true (by first | (with_reducible assumption) | assumption)
            obtain ⟨ad338, e338, hx338_0⟩ := Kd.at_string (Kd.R_reads' HO_47.out).2.2 x49_3 p338 q338
            cases e338
            replace p338 := eq_true p338
            replace q338 := eq_true q338
            try go_wp2_with (first | ((with_reducible refine gate_callee (f := 67) rfl ?_); refine goesL_ (some 54) rfl rfl Tryz.func67 (by kernel_rfl) rfl #[.string (rdOf ByteArray.empty t330 x49_3), .int .u8 9] rfl (by (try simp only [List.map_toArray, List.map_cons, List.map_nil]); first | done | rfl | (simp only [List.length_drop, List.length_take]; rfl)) ?_; (with_reducible refine (spec_l1Split.calls k3 (rdOf ByteArray.empty t330 x49_3) 9 t339 _ A28.out).mono ?_); rintro e w52 ⟨v340, rfl, ho0, hb⟩; refine ⟨_, rfl, ?_⟩; have n0_ := Aside0.mk (Kd.R_below (by (with_reducible repeat (first | apply Kd.R_alloc | apply Kd.R_drewN | apply Kd.R_drew)); exact HO_8.out) hb); have n1_ := Aside0.mk (Kd.R_elder' (by (with_reducible repeat (first | apply Kd.R_alloc | apply Kd.R_drewN | apply Kd.R_drew)); exact HO_47.out) (Kd.R_base ho0) hb); have n2_ := Aside0.mk (Kd.R_lower (Kd.R_new' ho0 (Kd.R_lt (by (with_reducible repeat (first | apply Kd.R_alloc | apply Kd.R_drewN | apply Kd.R_drew)); exact HO_47.out))) (below_size (Gtr.bw HB.out))); have n3_ := Aside0.mk (below_step (Gtr.bw HB.out) hb); clear HO_8; clear HO_47; clear HB; have HO_8 := n0_; have HO_47 := n1_; have HO341 := n2_; have HB := n3_; clear n0_ n1_ n2_ n3_; (try clear hb); (try clear hb2); (try clear hk); (try clear hi); (try clear ho0); obtain ⟨Ao53, co53, eo53⟩ := Kd.R_slice HO341.out; subst eo53; have p342 : 0 ≤ (1 : Int) := (by omega); have q342 : 1 < (t339.length : Int) := of_decide_eq_true (by first | (with_reducible assumption) | assumption); obtain ⟨ad342, e342, hx342_0⟩ := Kd.at_string (Kd.R_reads' HO341.out).2.2 1 p342 q342; cases e342; (try simp only [show (1 : Int).toNat = 1 from rfl, Nat.reduceMul, Nat.reduceEqDiff, Go.Addr.add, ↓reduceIte] at hx342_0); have qi342 : (1 < t339.length) = True := eq_true (by omega); (try rw [show ((1 : Int)).toNat = 1 from rfl] at hx342_0); replace p342 := eq_true p342; replace q342 := eq_true q342) | ((with_reducible refine gate_callee (f := 68) rfl ?_); refine goesL_ (some 59) rfl rfl Tryz.func68 (by kernel_rfl) rfl #[.string (rdOf ByteArray.empty t339 1)] rfl (by (try simp only [List.map_toArray, List.map_cons, List.map_nil]); first | done | rfl | (simp only [List.length_drop, List.length_take]; rfl)) ?_; (with_reducible refine (spec_ReadOctal.calls k3 (rdOf ByteArray.empty t339 1) t343 true _ A30.out).mono ?_); rintro e w54 ⟨rfl, hb⟩; refine ⟨_, rfl, ?_⟩; have n0_ := Aside0.mk (Kd.R_below (by (with_reducible repeat (first | apply Kd.R_alloc | apply Kd.R_drewN | apply Kd.R_drew)); exact HO_8.out) hb); have n1_ := Aside0.mk (Kd.R_below (by (with_reducible repeat (first | apply Kd.R_alloc | apply Kd.R_drewN | apply Kd.R_drew)); exact HO_47.out) hb); have n2_ := Aside0.mk (Kd.R_below (by (with_reducible repeat (first | apply Kd.R_alloc | apply Kd.R_drewN | apply Kd.R_drew)); exact HO341.out) hb); have n3_ := Aside0.mk (below_step (Gtr.bw HB.out) hb); clear HO_8; clear HO_47; clear HO341; clear HB; have HO_8 := n0_; have HO_47 := n1_; have HO341 := n2_; have HB := n3_; clear n0_ n1_ n2_ n3_; (try clear hb); (try clear hb2); (try clear hk); (try clear hi)))
            have n0_ := Aside0.mk (Kd.R_drew HO_8.out)
            have n1_ := Aside0.mk (Kd.R_drew HO_47.out)
            have n2_ := Aside0.mk (Kd.R_drew HO341.out)
            have n3_ := Aside0.mk (below_drew1 HB.out)
            clear HO_8
            clear HO_47
            clear HO341
            clear HB
            have HO_8 := n0_
            have HO_47 := n1_
            have HO341 := n2_
            have HB := n3_
            clear n0_ n1_ n2_ n3_
            have p345 : 0 ≤ (0 : Int) := (by omega)
            have q345 : 0 < (t339.length : Int) := of_decide_eq_true (by first | (with_reducible assumption) | assumption)
            obtain ⟨ad345, e345, hx345_0⟩ := Kd.at_string (Kd.R_reads' HO341.out).2.2 0 p345 q345
            obtain rfl : ad342 = ad345 := (by injection e345)
            have qi345 : (0 < t339.length) = True := eq_true (by omega)
            (try rw [show ((0 : Int)).toNat = 0 from rfl] at hx345_0)
            (try rw [Addr.add_zero'] at hx345_0)
            replace p345 := eq_true p345
            replace q345 := eq_true q345
            have p347 : 0 ≤ (2 : Int) := (by omega)
            have q347 : 2 < (t339.length : Int) := of_decide_eq_true (by first | (with_reducible assumption) | assumption)
            obtain ⟨ad347, e347, hx347_0⟩ := Kd.at_string (Kd.R_reads' HO341.out).2.2 2 p347 q347
            obtain rfl : ad342 = ad347 := (by injection e347)
            (try simp only [show (2 : Int).toNat = 2 from rfl, Nat.reduceMul, Nat.reduceEqDiff, Go.Addr.add, ↓reduceIte] at hx347_0)
            have qi347 : (2 < t339.length) = True := eq_true (by omega)
            (try rw [show ((2 : Int)).toNat = 2 from rfl] at hx347_0)
            replace p347 := eq_true p347
            replace q347 := eq_true q347
            have p349 : 0 ≤ (3 : Int) := (by omega)
            have q349 : 3 < (t339.length : Int) := of_decide_eq_true (by first | (with_reducible assumption) | assumption)
            obtain ⟨ad349, e349, hx349_0⟩ := Kd.at_string (Kd.R_reads' HO341.out).2.2 3 p349 q349
            obtain rfl : ad342 = ad349 := (by injection e349)
            (try simp only [show (3 : Int).toNat = 3 from rfl, Nat.reduceMul, Nat.reduceEqDiff, Go.Addr.add, ↓reduceIte] at hx349_0)
            have qi349 : (3 < t339.length) = True := eq_true (by omega)
            (try rw [show ((3 : Int)).toNat = 3 from rfl] at hx349_0)
            replace p349 := eq_true p349
            replace q349 := eq_true q349
            have p351 : 0 ≤ (4 : Int) := (by omega)
            have q351 : 4 < (t339.length : Int) := of_decide_eq_true (by first | (with_reducible assumption) | assumption)
            obtain ⟨ad351, e351, hx351_0⟩ := Kd.at_string (Kd.R_reads' HO341.out).2.2 4 p351 q351
            obtain rfl : ad342 = ad351 := (by injection e351)
            (try simp only [show (4 : Int).toNat = 4 from rfl, Nat.reduceMul, Nat.reduceEqDiff, Go.Addr.add, ↓reduceIte] at hx351_0)
            have qi351 : (4 < t339.length) = True := eq_true (by omega)
            (try rw [show ((4 : Int)).toNat = 4 from rfl] at hx351_0)
            replace p351 := eq_true p351
            replace q351 := eq_true q351
            have p353 : 0 ≤ (5 : Int) := (by omega)
            have q353 : 5 < (t339.length : Int) := of_decide_eq_true (by first | (with_reducible assumption) | assumption)
            obtain ⟨ad353, e353, hx353_0⟩ := Kd.at_string (Kd.R_reads' HO341.out).2.2 5 p353 q353
            obtain rfl : ad342 = ad353 := (by injection e353)
            (try simp only [show (5 : Int).toNat = 5 from rfl, Nat.reduceMul, Nat.reduceEqDiff, Go.Addr.add, ↓reduceIte] at hx353_0)
            have qi353 : (5 < t339.length) = True := eq_true (by omega)
            (try rw [show ((5 : Int)).toNat = 5 from rfl] at hx353_0)
            replace p353 := eq_true p353
            replace q353 := eq_true q353
            refine start_ (n := 22) (S := fun w' => w'.cell? ad342 = some (.string (rdOf ByteArray.empty t339 0)) ∧ w'.cell? ⟨ad342.block, ad342.off + 2, none⟩ = some (.string (rdOf ByteArray.empty t339 2)) ∧ w'.cell? ⟨ad342.block, ad342.off + 3, none⟩ = some (.string (rdOf ByteArray.empty t339 3)) ∧ w'.cell? ⟨ad342.block, ad342.off + 4, none⟩ = some (.string (rdOf ByteArray.empty t339 4)) ∧ w'.cell? ⟨ad342.block, ad342.off + 5, none⟩ = some (.string (rdOf ByteArray.empty t339 5))) (ds := []) (Gtr.bb 22 0) (by kernel_rfl) rfl rfl ⟨hx345_0, hx347_0, hx349_0, hx351_0, hx353_0⟩ (fun hHeld => ?_); refine with_tabW spec_ReadItems.tab16 spec_ReadItems.bits16 (fun HT_ HW_ => ?_)
            generalize w54.drew = w55 at HO_8 HO_47 HO341 HB hx345_0 hx347_0 hx349_0 hx351_0 hx353_0 hHeld ⊢
            refine pure_ (i := 0) (N := some 62) (v := ?_) (a' := ?_) (Gtr.bb 22 1) rfl rfl (any_of HT_.out (by kernel_rfl)) (fun _ _ _ h => h) (Or.inl ⟨by rfl, ?_⟩) ?_ ?_
            rotate_left
            ·intro w'
             go_simp
             with_reducible rfl
            rotate_left
            ·simp only [Gtr.ps]
             rfl
            refine pure_ (i := 1) (N := some 63) (v := ?_) (a' := ?_) (Gtr.bb 22 3) rfl rfl (any_of HT_.out (by kernel_rfl)) (fun _ _ _ h => h) (Or.inl ⟨by rfl, ?_⟩) ?_ ?_
            rotate_left
            ·intro w'
             go_simp
             with_reducible rfl
            rotate_left
            ·simp only [Gtr.ps]
             rfl
            refine pure_ (i := 4) (N := some 66) (v := ?_) (a' := ?_) (Gtr.bb 22 19) rfl rfl (any_of HT_.out (by kernel_rfl)) (fun _ _ _ h => h) (Or.inl ⟨by rfl, ?_⟩) ?_ ?_
            rotate_left
            ·intro w'
             go_simp
             with_reducible rfl
            rotate_left
            ·simp only [Gtr.ps]
             rfl
            refine pure_ (i := 5) (N := some 67) (v := ?_) (a' := ?_) (Gtr.bb 22 51) rfl rfl (any_of HT_.out (by kernel_rfl)) (fun _ _ _ h => h) (Or.inl ⟨by rfl, ?_⟩) ?_ ?_
            rotate_left
            ·intro w'
             go_simp
             with_reducible rfl
            rotate_left
            ·simp only [Gtr.ps]
             rfl
            refine pure_ (i := 8) (N := some 70) (v := ?_) (a' := ?_) (Gtr.bb 22 307) rfl rfl (any_of HT_.out (by kernel_rfl)) (fun _ _ _ h => h) (Or.inl ⟨by rfl, ?_⟩) ?_ ?_
            rotate_left
            ·intro w'
             go_simp
             with_reducible rfl
            rotate_left
            ·simp only [Gtr.ps]
             rfl
            refine pure_ (i := 9) (N := some 71) (v := ?_) (a' := ?_) (Gtr.bb 22 819) rfl rfl (any_of HT_.out (by kernel_rfl)) (fun _ _ _ h => h) (Or.inl ⟨by rfl, ?_⟩) ?_ ?_
            rotate_left
            ·intro w'
             go_simp
             with_reducible rfl
            rotate_left
            ·simp only [Gtr.ps]
             rfl
            refine pure_ (i := 12) (N := some 74) (v := ?_) (a' := ?_) (Gtr.bb 22 4915) rfl rfl (any_of HT_.out (by kernel_rfl)) (fun _ _ _ h => h) (Or.inl ⟨by rfl, ?_⟩) ?_ ?_
            rotate_left
            ·intro w'
             go_simp
             with_reducible rfl
            rotate_left
            ·simp only [Gtr.ps]
             rfl
            refine pure_ (i := 13) (N := some 75) (v := ?_) (a' := ?_) (Gtr.bb 22 13107) rfl rfl (any_of HT_.out (by kernel_rfl)) (fun _ _ _ h => h) (Or.inl ⟨by rfl, ?_⟩) ?_ ?_
            rotate_left
            ·intro w'
             go_simp
             with_reducible rfl
            rotate_left
            ·simp only [Gtr.ps]
             rfl
            refine pure_ (i := 16) (N := some 78) (v := ?_) (a' := ?_) (Gtr.bb 22 78643) rfl rfl (any_of HT_.out (by kernel_rfl)) (fun _ _ _ h => h) (Or.inl ⟨by rfl, ?_⟩) ?_ ?_
            rotate_left
            ·intro w'
             go_simp
             with_reducible rfl
            rotate_left
            ·simp only [Gtr.ps]
             rfl
            refine pure_ (i := 17) (N := some 79) (v := ?_) (a' := ?_) (Gtr.bb 22 209715) rfl rfl (any_of HT_.out (by kernel_rfl)) (fun _ _ _ h => h) (Or.inl ⟨by rfl, ?_⟩) ?_ ?_
            rotate_left
            ·intro w'
             go_simp
             with_reducible rfl
            rotate_left
            ·simp only [Gtr.ps]
             rfl
            refine take_ (i := 2) (N := some 64) (v := ?_) (a' := ?_) (Gtr.bb 22 209719) rfl rfl (take_ofW HT_.out HW_.out (by kernel_rfl)) (fun _ _ _ h => h) (Or.inl ⟨by rfl, ?_⟩) hHeld ?_ ?_
            rotate_left
            ·rintro w' ⟨s0, s1, s2, s3, s4⟩
             go_simp
             with_reducible rfl
            rotate_left
            ·simp only [Gtr.ps]
             rfl
            refine take_ (i := 6) (N := some 68) (v := ?_) (a' := ?_) (Gtr.bb 22 209783) rfl rfl (take_ofW HT_.out HW_.out (by kernel_rfl)) (fun _ _ _ h => h) (Or.inl ⟨by rfl, ?_⟩) hHeld ?_ ?_
            rotate_left
            ·rintro w' ⟨s0, s1, s2, s3, s4⟩
             go_simp
             with_reducible rfl
            rotate_left
            ·simp only [Gtr.ps]
             rfl
            refine take_ (i := 10) (N := some 72) (v := ?_) (a' := ?_) (Gtr.bb 22 210807) rfl rfl (take_ofW HT_.out HW_.out (by kernel_rfl)) (fun _ _ _ h => h) (Or.inl ⟨by rfl, ?_⟩) hHeld ?_ ?_
            rotate_left
            ·rintro w' ⟨s0, s1, s2, s3, s4⟩
             go_simp
             with_reducible rfl
            rotate_left
            ·simp only [Gtr.ps]
             rfl
            refine take_ (i := 14) (N := some 76) (v := ?_) (a' := ?_) (Gtr.bb 22 227191) rfl rfl (take_ofW HT_.out HW_.out (by kernel_rfl)) (fun _ _ _ h => h) (Or.inl ⟨by rfl, ?_⟩) hHeld ?_ ?_
            rotate_left
            ·rintro w' ⟨s0, s1, s2, s3, s4⟩
             go_simp
             with_reducible rfl
            rotate_left
            ·simp only [Gtr.ps]
             rfl
            refine take_ (i := 18) (N := some 80) (v := ?_) (a' := ?_) (Gtr.bb 22 489335) rfl rfl (take_ofW HT_.out HW_.out (by kernel_rfl)) (fun _ _ _ h => h) (Or.inl ⟨by rfl, ?_⟩) hHeld ?_ ?_
            rotate_left
            ·rintro w' ⟨s0, s1, s2, s3, s4⟩
             go_simp
             with_reducible rfl
            rotate_left
            ·simp only [Gtr.ps]
             rfl
            refine one_ (i := 3) (N := some 65) (Gtr.bb 22 489343) rfl rfl (one_of HT_.out (by kernel_rfl)) (by decide) (fun K hK => ?_)
            refine goes_ Tryz.func69 (by kernel_rfl) rfl #[.string (rdOf ByteArray.empty t339 0)] (by rfl) rfl rfl (by (try simp only [List.map_toArray, List.map_cons, List.map_nil]); first | done | rfl | (simp only [List.length_drop, List.length_take]; rfl)) ?_
            with_reducible refine (spec_l17Num.calls k3 (rdOf ByteArray.empty t339 0) t346 _ A32.out).mono ?_
            rintro e w' ⟨rfl, ⟨nd, rfl⟩⟩
            refine ⟨_, rfl, ?_⟩
            refine hK.out _ _ ⟨hHeld.1, hHeld.2.1, hHeld.2.2.1, hHeld.2.2.2.1, hHeld.2.2.2.2⟩ (fun hHeld => ?_)
            clear hK K
            refine norm_ (a' := ?_) ?_ ?_
            rotate_left
            ·show Act.put _ (some 65) _ = _
             simp only [Gtr.ps]
             rfl
            refine one_ (i := 7) (N := some 69) (Gtr.bb 22 489471) rfl rfl (one_of HT_.out (by kernel_rfl)) (by decide) (fun K hK => ?_)
            refine goes_ Tryz.func69 (by kernel_rfl) rfl #[.string (rdOf ByteArray.empty t339 2)] (by rfl) rfl rfl (by (try simp only [List.map_toArray, List.map_cons, List.map_nil]); first | done | rfl | (simp only [List.length_drop, List.length_take]; rfl)) ?_
            with_reducible refine (spec_l17Num.calls k3 (rdOf ByteArray.empty t339 2) t348 _ A34.out).mono ?_
            rintro e w' ⟨rfl, ⟨nd, rfl⟩⟩
            refine ⟨_, rfl, ?_⟩
            refine hK.out _ _ ⟨hHeld.1, hHeld.2.1, hHeld.2.2.1, hHeld.2.2.2.1, hHeld.2.2.2.2⟩ (fun hHeld => ?_)
            clear hK K
            refine norm_ (a' := ?_) ?_ ?_
            rotate_left
            ·show Act.put _ (some 69) _ = _
             simp only [Gtr.ps]
             rfl
            refine one_ (i := 11) (N := some 73) (Gtr.bb 22 491519) rfl rfl (one_of HT_.out (by kernel_rfl)) (by decide) (fun K hK => ?_)
            refine goes_ Tryz.func69 (by kernel_rfl) rfl #[.string (rdOf ByteArray.empty t339 3)] (by rfl) rfl rfl (by (try simp only [List.map_toArray, List.map_cons, List.map_nil]); first | done | rfl | (simp only [List.length_drop, List.length_take]; rfl)) ?_
            with_reducible refine (spec_l17Num.calls k3 (rdOf ByteArray.empty t339 3) t350 _ A36.out).mono ?_
            rintro e w' ⟨rfl, ⟨nd, rfl⟩⟩
            refine ⟨_, rfl, ?_⟩
            refine hK.out _ _ ⟨hHeld.1, hHeld.2.1, hHeld.2.2.1, hHeld.2.2.2.1, hHeld.2.2.2.2⟩ (fun hHeld => ?_)
            clear hK K
            refine norm_ (a' := ?_) ?_ ?_
            rotate_left
            ·show Act.put _ (some 73) _ = _
             simp only [Gtr.ps]
             rfl
            refine one_ (i := 15) (N := some 77) (Gtr.bb 22 524287) rfl rfl (one_of HT_.out (by kernel_rfl)) (by decide) (fun K hK => ?_)
            refine goes_ Tryz.func69 (by kernel_rfl) rfl #[.string (rdOf ByteArray.empty t339 4)] (by rfl) rfl rfl (by (try simp only [List.map_toArray, List.map_cons, List.map_nil]); first | done | rfl | (simp only [List.length_drop, List.length_take]; rfl)) ?_
            with_reducible refine (spec_l17Num.calls k3 (rdOf ByteArray.empty t339 4) t352 _ A38.out).mono ?_
            rintro e w' ⟨rfl, ⟨nd, rfl⟩⟩
            refine ⟨_, rfl, ?_⟩
            refine hK.out _ _ ⟨hHeld.1, hHeld.2.1, hHeld.2.2.1, hHeld.2.2.2.1, hHeld.2.2.2.2⟩ (fun hHeld => ?_)
            clear hK K
            refine norm_ (a' := ?_) ?_ ?_
            rotate_left
            ·show Act.put _ (some 77) _ = _
             simp only [Gtr.ps]
             rfl
            refine one_ (i := 19) (N := some 81) (Gtr.bb 22 1048575) rfl rfl (one_of HT_.out (by kernel_rfl)) (by decide) (fun K hK => ?_)
            refine goes_ Tryz.func69 (by kernel_rfl) rfl #[.string (rdOf ByteArray.empty t339 5)] (by rfl) rfl rfl (by (try simp only [List.map_toArray, List.map_cons, List.map_nil]); first | done | rfl | (simp only [List.length_drop, List.length_take]; rfl)) ?_
            with_reducible refine (spec_l17Num.calls k3 (rdOf ByteArray.empty t339 5) t354 _ A40.out).mono ?_
            rintro e w' ⟨rfl, ⟨nd, rfl⟩⟩
            refine ⟨_, rfl, ?_⟩
            refine hK.out _ _ ⟨hHeld.1, hHeld.2.1, hHeld.2.2.1, hHeld.2.2.2.1, hHeld.2.2.2.2⟩ (fun hHeld => ?_)
            clear hK K
            refine norm_ (a' := ?_) ?_ ?_
            rotate_left
            ·show Act.put _ (some 81) _ = _
             simp only [Gtr.ps]
             rfl
            refine one_ (i := 20) (N := some 82) (Gtr.bb 22 2097151) rfl rfl (one_of HT_.out (by kernel_rfl)) (by decide) (fun K hK => ?_)
            refine Kd.R_lit_step (Kd.int .i64) _ 3 ?hg (N := 82) ?hd (xs := ([t346, t348, t350, t352, t354] : List Int)) (inner := [.int .i64 t346, .int .i64 t348, .int .i64 t350, .int .i64 t352, .int .i64 t354]) (ok := fun _ => True) (okp := fun _ => True) ?hr ?hp (fun _ hk => hk) trivial (Below.refl _ _) (Nat.le_refl _) (by simp) ?_; (case hd => rfl); (case hg => rfl); (case hr => first | (go_simp; done) | (go_simp; rfl)); (case hp => exact (Reps.one (show Kd.M (Kd.int .i64) _ _ _ t346 [.int .i64 t346] from rfl) (Reps.one (show Kd.M (Kd.int .i64) _ _ _ t348 [.int .i64 t348] from rfl) (Reps.one (show Kd.M (Kd.int .i64) _ _ _ t350 [.int .i64 t350] from rfl) (Reps.one (show Kd.M (Kd.int .i64) _ _ _ t352 [.int .i64 t352] from rfl) (Reps.one (show Kd.M (Kd.int .i64) _ _ _ t354 [.int .i64 t354] from rfl) (Reps.none _ _)))))))
            intro v356 w56 ho57 hb hg_ hnew_
            have HS0_ := (hb.cell (World.block_lt_of_cell? _ _ (hHeld.1))).trans (hHeld.1)
            have HS1_ := (hb.cell (World.block_lt_of_cell? _ _ (hHeld.2.1))).trans (hHeld.2.1)
            have HS2_ := (hb.cell (World.block_lt_of_cell? _ _ (hHeld.2.2.1))).trans (hHeld.2.2.1)
            have HS3_ := (hb.cell (World.block_lt_of_cell? _ _ (hHeld.2.2.2.1))).trans (hHeld.2.2.2.1)
            have HS4_ := (hb.cell (World.block_lt_of_cell? _ _ (hHeld.2.2.2.2))).trans (hHeld.2.2.2.2)
            clear hg_ hnew_
            (first | rw [← Ny355.out] at ho57 | (simp only [Int.reduceToNat] at ho57; rw [← Ny355.out] at ho57))
            have n0_ := Aside0.mk (Kd.R_below (by (with_reducible repeat (first | apply Kd.R_alloc | apply Kd.R_drewN | apply Kd.R_drew)); exact HO_8.out) hb)
            have n1_ := Aside0.mk (Kd.R_below (by (with_reducible repeat (first | apply Kd.R_alloc | apply Kd.R_drewN | apply Kd.R_drew)); exact HO_47.out) hb)
            have n2_ := Aside0.mk (Kd.R_below (by (with_reducible repeat (first | apply Kd.R_alloc | apply Kd.R_drewN | apply Kd.R_drew)); exact HO341.out) hb)
            have n3_ := Aside0.mk (Kd.R_lower ho57 (below_size (Gtr.bw HB.out)))
            have n4_ := Aside0.mk (below_step (Gtr.bw HB.out) hb)
            clear HO_8
            clear HO_47
            clear HO341
            clear HB
            have HO_8 := n0_
            have HO_47 := n1_
            have HO341 := n2_
            have HO357 := n3_
            have HB := n4_
            clear n0_ n1_ n2_ n3_ n4_
            clear hb ho57
            refine hK.out _ _ ⟨HS0_, HS1_, HS2_, HS3_, HS4_⟩ (fun hHeld => ?_)
            clear hK K
            refine norm_ (a' := ?_) ?_ ?_
            rotate_left
            ·show Act.put _ (some 82) _ = _
             simp only [Gtr.ps]
             rfl
            refine pure_ (i := 21) (N := some 14) (v := ?_) (a' := ?_) (Gtr.bb 22 4194303) rfl rfl (any_of HT_.out (by kernel_rfl)) (fun _ _ _ h => h) (Or.inl ⟨by rfl, ?_⟩) ?_ ?_
            rotate_left
            ·intro w'
             go_simp
             with_reducible rfl
            rotate_left
            ·simp only [Gtr.ps]
             rfl
            refine done_ (done_of HT_.out (by kernel_rfl)) ?_
            obtain ⟨Ao58, co58, eo58⟩ := Kd.R_slice HO357.out
            subst eo58
            try go_wp2_with (first | (go_at_call 70; (with_reducible refine (spec_l1All.calls k3 _ _ y355 0 9999999 true _ ?side1 ?side2 A42.out).mono ?_); (case side1 => repeat (first | exact (Kd.R_reads' HO357.out).2.2 | (with_reducible refine Kd.C_alloc ?_ _) | (with_reducible refine Kd.C_drewN ?_ _) | (with_reducible refine Kd.C_drew ?_))); (case side2 => exact (Kd.R_reads' HO357.out).2.1); rintro e w' ⟨rfl, ⟨nd, rfl⟩⟩))
            (try (rw [drewN_self w56]; generalize hq_ : World.drewN w56 _ = w56; have n0_ : Aside0 (Kd.R Kd.string 9 w56 w.heap.size (fun k_ => some k_ ≠ (.slice (some ad338) t330.length co15 : Value).ownBlock) (.slice (some ad342) t339.length co53) t339) := ⟨by rw [← hq_]; exact (by (with_reducible repeat (first | apply Kd.R_alloc | apply Kd.R_drewN | apply Kd.R_drew)); exact Kd.R_mono HO341.out (fun _ hk => hk.2))⟩; have n1_ : Aside0 (Kd.R (Kd.int .i64) 3 w56 w.heap.size (fun _ => True) (.slice Ao58 y355.length co58) y355) := ⟨by rw [← hq_]; exact (by (with_reducible repeat (first | apply Kd.R_alloc | apply Kd.R_drewN | apply Kd.R_drew)); exact HO357.out)⟩; have n2_ : Aside0 (Kd.R Kd.string 9 w56 w.heap.size (fun k_ => some k_ ≠ (.slice (some ad342) t339.length co53 : Value).ownBlock) (.slice (some ad338) t330.length co15) t330) := ⟨by rw [← hq_]; exact (by (with_reducible repeat (first | apply Kd.R_alloc | apply Kd.R_drewN | apply Kd.R_drew)); exact Kd.R_mono HO_47.out (fun _ hk => hk.2))⟩; have n3_ : Aside0 (Kd.R k74 74 w56 w.heap.size (fun _ => True) u8 x8_3) := ⟨by rw [← hq_]; exact (by (with_reducible repeat (first | apply Kd.R_alloc | apply Kd.R_drewN | apply Kd.R_drew)); exact HO_8.out)⟩; have n4_ : Aside0 (Below w.heap.size w w56) := ⟨by rw [← hq_]; exact (Gtr.bw HB.out)⟩; clear HO341 HO357 HO_47 HO_8 HB hq_; have HO341 := n0_; have HO357 := n1_; have HO_47 := n2_; have HO_8 := n3_; have HB := n4_; clear n0_ n1_ n2_ n3_ n4_))
            have n0_ := Aside0.mk (Kd.R_drew HO_8.out)
            have n1_ := Aside0.mk (Kd.R_drew HO_47.out)
            have n2_ := Aside0.mk (Kd.R_drew HO341.out)
            have n3_ := Aside0.mk (Kd.R_drew HO357.out)
            have n4_ := Aside0.mk (below_drew1 HB.out)
            clear HO_8
            clear HO_47
            clear HO341
            clear HO357
            clear HB
            have HO_8 := n0_
            have HO_47 := n1_
            have HO341 := n2_
            have HO357 := n3_
            have HB := n4_
            clear n0_ n1_ n2_ n3_ n4_
            have p359 : 0 ≤ (0 : Int) := (by omega)
            have q359 : 0 < (y355.length : Int) := of_decide_eq_true (by first | (with_reducible assumption) | assumption)
            obtain ⟨ad359, e359, hx359_0⟩ := Kd.at_int (Kd.R_reads' HO357.out).2.2 0 p359 q359
            cases e359
            have qi359 : (0 < y355.length) = True := eq_true (by omega)
            (try rw [show ((0 : Int)).toNat = 0 from rfl] at hx359_0)
            (try rw [Addr.add_zero'] at hx359_0)
            replace p359 := eq_true p359
            replace q359 := eq_true q359
            have p360 : 0 ≤ (1 : Int) := (by omega)
            have q360 : 1 < (y355.length : Int) := of_decide_eq_true (by first | (with_reducible assumption) | assumption)
            obtain ⟨ad360, e360, hx360_0⟩ := Kd.at_int (Kd.R_reads' HO357.out).2.2 1 p360 q360
            obtain rfl : ad359 = ad360 := (by injection e360)
            (try simp only [show (1 : Int).toNat = 1 from rfl, Nat.reduceMul, Nat.reduceEqDiff, Go.Addr.add, ↓reduceIte] at hx360_0)
            have qi360 : (1 < y355.length) = True := eq_true (by omega)
            (try rw [show ((1 : Int)).toNat = 1 from rfl] at hx360_0)
            replace p360 := eq_true p360
            replace q360 := eq_true q360
            have p361 : 0 ≤ (2 : Int) := (by omega)
            have q361 : 2 < (y355.length : Int) := of_decide_eq_true (by first | (with_reducible assumption) | assumption)
            obtain ⟨ad361, e361, hx361_0⟩ := Kd.at_int (Kd.R_reads' HO357.out).2.2 2 p361 q361
            obtain rfl : ad359 = ad361 := (by injection e361)
            (try simp only [show (2 : Int).toNat = 2 from rfl, Nat.reduceMul, Nat.reduceEqDiff, Go.Addr.add, ↓reduceIte] at hx361_0)
            have qi361 : (2 < y355.length) = True := eq_true (by omega)
            (try rw [show ((2 : Int)).toNat = 2 from rfl] at hx361_0)
            replace p361 := eq_true p361
            replace q361 := eq_true q361
            have p362 : 0 ≤ (3 : Int) := (by omega)
            have q362 : 3 < (y355.length : Int) := of_decide_eq_true (by first | (with_reducible assumption) | assumption)
            obtain ⟨ad362, e362, hx362_0⟩ := Kd.at_int (Kd.R_reads' HO357.out).2.2 3 p362 q362
            obtain rfl : ad359 = ad362 := (by injection e362)
            (try simp only [show (3 : Int).toNat = 3 from rfl, Nat.reduceMul, Nat.reduceEqDiff, Go.Addr.add, ↓reduceIte] at hx362_0)
            have qi362 : (3 < y355.length) = True := eq_true (by omega)
            (try rw [show ((3 : Int)).toNat = 3 from rfl] at hx362_0)
            replace p362 := eq_true p362
            replace q362 := eq_true q362
            have p363 : 0 ≤ (4 : Int) := (by omega)
            have q363 : 4 < (y355.length : Int) := of_decide_eq_true (by first | (with_reducible assumption) | assumption)
            obtain ⟨ad363, e363, hx363_0⟩ := Kd.at_int (Kd.R_reads' HO357.out).2.2 4 p363 q363
            obtain rfl : ad359 = ad363 := (by injection e363)
            (try simp only [show (4 : Int).toNat = 4 from rfl, Nat.reduceMul, Nat.reduceEqDiff, Go.Addr.add, ↓reduceIte] at hx363_0)
            have qi363 : (4 < y355.length) = True := eq_true (by omega)
            (try rw [show ((4 : Int)).toNat = 4 from rfl] at hx363_0)
            replace p363 := eq_true p363
            replace q363 := eq_true q363
            have p364 : 0 ≤ (6 : Int) := (by omega)
            have q364 : 6 < (t339.length : Int) := of_decide_eq_true (by first | (with_reducible assumption) | assumption)
            obtain ⟨ad364, e364, hx364_0⟩ := Kd.at_string (Kd.R_reads' HO341.out).2.2 6 p364 q364
            obtain rfl : ad342 = ad364 := (by injection e364)
            (try simp only [show (6 : Int).toNat = 6 from rfl, Nat.reduceMul, Nat.reduceEqDiff, Go.Addr.add, ↓reduceIte] at hx364_0)
            have qi364 : (6 < t339.length) = True := eq_true (by omega)
            (try rw [show ((6 : Int)).toNat = 6 from rfl] at hx364_0)
            replace p364 := eq_true p364
            replace q364 := eq_true q364
            have p365 : 0 ≤ (7 : Int) := (by omega)
            have q365 : 7 < (t339.length : Int) := of_decide_eq_true (by first | (with_reducible assumption) | assumption)
            obtain ⟨ad365, e365, hx365_0⟩ := Kd.at_string (Kd.R_reads' HO341.out).2.2 7 p365 q365
            obtain rfl : ad342 = ad365 := (by injection e365)
            (try simp only [show (7 : Int).toNat = 7 from rfl, Nat.reduceMul, Nat.reduceEqDiff, Go.Addr.add, ↓reduceIte] at hx365_0)
            have qi365 : (7 < t339.length) = True := eq_true (by omega)
            (try rw [show ((7 : Int)).toNat = 7 from rfl] at hx365_0)
            replace p365 := eq_true p365
            replace q365 := eq_true q365
            refine start_ (n := 27) (S := fun w' => w'.cell? ad359 = some (.int .i64 (rd y355 0)) ∧ w'.cell? ⟨ad359.block, ad359.off + 1, none⟩ = some (.int .i64 (rd y355 1)) ∧ w'.cell? ⟨ad359.block, ad359.off + 2, none⟩ = some (.int .i64 (rd y355 2)) ∧ w'.cell? ⟨ad359.block, ad359.off + 3, none⟩ = some (.int .i64 (rd y355 3)) ∧ w'.cell? ⟨ad359.block, ad359.off + 4, none⟩ = some (.int .i64 (rd y355 4)) ∧ w'.cell? ⟨ad342.block, ad342.off + 6, none⟩ = some (.string (rdOf ByteArray.empty t339 6)) ∧ w'.cell? ⟨ad342.block, ad342.off + 7, none⟩ = some (.string (rdOf ByteArray.empty t339 7))) (ds := [24, 25]) (Gtr.bb 27 0) (by kernel_rfl) rfl rfl ⟨hx359_0, hx360_0, hx361_0, hx362_0, hx363_0, hx364_0, hx365_0⟩ (fun hHeld => ?_); refine with_tabW spec_ReadItems.tab19 spec_ReadItems.bits19 (fun HT_ HW_ => ?_)
            generalize w56.drew = w59 at HO_8 HO_47 HO341 HO357 HB hx359_0 hx360_0 hx361_0 hx362_0 hx363_0 hx364_0 hx365_0 hHeld ⊢
            refine pure_ (i := 0) (N := some 90) (v := ?_) (a' := ?_) (Gtr.bb 27 1) rfl rfl (any_of HT_.out (by kernel_rfl)) (fun _ _ _ h => h) (Or.inl ⟨by rfl, ?_⟩) ?_ ?_
            rotate_left
            ·intro w'
             go_simp
             with_reducible rfl
            rotate_left
            ·simp only [Gtr.ps]
             rfl
            refine pure_ (i := 1) (N := some 91) (v := ?_) (a' := ?_) (Gtr.bb 27 3) rfl rfl (any_of HT_.out (by kernel_rfl)) (fun _ _ _ h => h) (Or.inl ⟨by rfl, ?_⟩) ?_ ?_
            rotate_left
            ·intro w'
             go_simp
             with_reducible rfl
            rotate_left
            ·simp only [Gtr.ps]
             rfl
            refine pure_ (i := 2) (N := some 92) (v := ?_) (a' := ?_) (Gtr.bb 27 7) rfl rfl (any_of HT_.out (by kernel_rfl)) (fun _ _ _ h => h) (Or.inl ⟨by rfl, ?_⟩) ?_ ?_
            rotate_left
            ·intro w'
             go_simp
             with_reducible rfl
            rotate_left
            ·simp only [Gtr.ps]
             rfl
            refine pure_ (i := 4) (N := some 94) (v := ?_) (a' := ?_) (Gtr.bb 27 23) rfl rfl (any_of HT_.out (by kernel_rfl)) (fun _ _ _ h => h) (Or.inl ⟨by rfl, ?_⟩) ?_ ?_
            rotate_left
            ·intro w'
             go_simp
             with_reducible rfl
            rotate_left
            ·simp only [Gtr.ps]
             rfl
            refine pure_ (i := 5) (N := some 95) (v := ?_) (a' := ?_) (Gtr.bb 27 55) rfl rfl (any_of HT_.out (by kernel_rfl)) (fun _ _ _ h => h) (Or.inl ⟨by rfl, ?_⟩) ?_ ?_
            rotate_left
            ·intro w'
             go_simp
             with_reducible rfl
            rotate_left
            ·simp only [Gtr.ps]
             rfl
            refine pure_ (i := 6) (N := some 96) (v := ?_) (a' := ?_) (Gtr.bb 27 119) rfl rfl (any_of HT_.out (by kernel_rfl)) (fun _ _ _ h => h) (Or.inl ⟨by rfl, ?_⟩) ?_ ?_
            rotate_left
            ·intro w'
             go_simp
             with_reducible rfl
            rotate_left
            ·simp only [Gtr.ps]
             rfl
            refine pure_ (i := 8) (N := some 98) (v := ?_) (a' := ?_) (Gtr.bb 27 375) rfl rfl (any_of HT_.out (by kernel_rfl)) (fun _ _ _ h => h) (Or.inl ⟨by rfl, ?_⟩) ?_ ?_
            rotate_left
            ·intro w'
             go_simp
             with_reducible rfl
            rotate_left
            ·simp only [Gtr.ps]
             rfl
            refine pure_ (i := 9) (N := some 99) (v := ?_) (a' := ?_) (Gtr.bb 27 887) rfl rfl (any_of HT_.out (by kernel_rfl)) (fun _ _ _ h => h) (Or.inl ⟨by rfl, ?_⟩) ?_ ?_
            rotate_left
            ·intro w'
             go_simp
             with_reducible rfl
            rotate_left
            ·simp only [Gtr.ps]
             rfl
            refine pure_ (i := 11) (N := some 101) (v := ?_) (a' := ?_) (Gtr.bb 27 2935) rfl rfl (any_of HT_.out (by kernel_rfl)) (fun _ _ _ h => h) (Or.inl ⟨by rfl, ?_⟩) ?_ ?_
            rotate_left
            ·intro w'
             go_simp
             with_reducible rfl
            rotate_left
            ·simp only [Gtr.ps]
             rfl
            refine pure_ (i := 12) (N := some 102) (v := ?_) (a' := ?_) (Gtr.bb 27 7031) rfl rfl (any_of HT_.out (by kernel_rfl)) (fun _ _ _ h => h) (Or.inl ⟨by rfl, ?_⟩) ?_ ?_
            rotate_left
            ·intro w'
             go_simp
             with_reducible rfl
            rotate_left
            ·simp only [Gtr.ps]
             rfl
            refine pure_ (i := 14) (N := some 104) (v := ?_) (a' := ?_) (Gtr.bb 27 23415) rfl rfl (any_of HT_.out (by kernel_rfl)) (fun _ _ _ h => h) (Or.inl ⟨by rfl, ?_⟩) ?_ ?_
            rotate_left
            ·intro w'
             go_simp
             with_reducible rfl
            rotate_left
            ·simp only [Gtr.ps]
             rfl
            refine pure_ (i := 15) (N := some 105) (v := ?_) (a' := ?_) (Gtr.bb 27 56183) rfl rfl (any_of HT_.out (by kernel_rfl)) (fun _ _ _ h => h) (Or.inl ⟨by rfl, ?_⟩) ?_ ?_
            rotate_left
            ·intro w'
             go_simp
             with_reducible rfl
            rotate_left
            ·simp only [Gtr.ps]
             rfl
            refine pure_ (i := 17) (N := some 107) (v := ?_) (a' := ?_) (Gtr.bb 27 187255) rfl rfl (any_of HT_.out (by kernel_rfl)) (fun _ _ _ h => h) (Or.inl ⟨by rfl, ?_⟩) ?_ ?_
            rotate_left
            ·intro w'
             go_simp
             with_reducible rfl
            rotate_left
            ·simp only [Gtr.ps]
             rfl
            refine pure_ (i := 18) (N := some 108) (v := ?_) (a' := ?_) (Gtr.bb 27 449399) rfl rfl (any_of HT_.out (by kernel_rfl)) (fun _ _ _ h => h) (Or.inl ⟨by rfl, ?_⟩) ?_ ?_
            rotate_left
            ·intro w'
             go_simp
             with_reducible rfl
            rotate_left
            ·simp only [Gtr.ps]
             rfl
            refine pure_ (i := 20) (N := some 110) (v := ?_) (a' := ?_) (Gtr.bb 27 1497975) rfl rfl (any_of HT_.out (by kernel_rfl)) (fun _ _ _ h => h) (Or.inl ⟨by rfl, ?_⟩) ?_ ?_
            rotate_left
            ·intro w'
             go_simp
             with_reducible rfl
            rotate_left
            ·simp only [Gtr.ps]
             rfl
            refine pure_ (i := 21) (N := some 111) (v := ?_) (a' := ?_) (Gtr.bb 27 3595127) rfl rfl (any_of HT_.out (by kernel_rfl)) (fun _ _ _ h => h) (Or.inl ⟨by rfl, ?_⟩) ?_ ?_
            rotate_left
            ·intro w'
             go_simp
             with_reducible rfl
            rotate_left
            ·simp only [Gtr.ps]
             rfl
            refine take_ (i := 3) (N := some 93) (v := ?_) (a' := ?_) (Gtr.bb 27 3595135) rfl rfl (take_ofW HT_.out HW_.out (by kernel_rfl)) (fun _ _ _ h => h) (Or.inl ⟨by rfl, ?_⟩) hHeld ?_ ?_
            rotate_left
            ·rintro w' ⟨s0, s1, s2, s3, s4, s5, s6⟩
             go_simp
             with_reducible rfl
            rotate_left
            ·simp only [Gtr.ps]
             rfl
            refine take_ (i := 7) (N := some 97) (v := ?_) (a' := ?_) (Gtr.bb 27 3595263) rfl rfl (take_ofW HT_.out HW_.out (by kernel_rfl)) (fun _ _ _ h => h) (Or.inl ⟨by rfl, ?_⟩) hHeld ?_ ?_
            rotate_left
            ·rintro w' ⟨s0, s1, s2, s3, s4, s5, s6⟩
             go_simp
             with_reducible rfl
            rotate_left
            ·simp only [Gtr.ps]
             rfl
            refine take_ (i := 10) (N := some 100) (v := ?_) (a' := ?_) (Gtr.bb 27 3596287) rfl rfl (take_ofW HT_.out HW_.out (by kernel_rfl)) (fun _ _ _ h => h) (Or.inl ⟨by rfl, ?_⟩) hHeld ?_ ?_
            rotate_left
            ·rintro w' ⟨s0, s1, s2, s3, s4, s5, s6⟩
             go_simp
             with_reducible rfl
            rotate_left
            ·simp only [Gtr.ps]
             rfl
            refine take_ (i := 13) (N := some 103) (v := ?_) (a' := ?_) (Gtr.bb 27 3604479) rfl rfl (take_ofW HT_.out HW_.out (by kernel_rfl)) (fun _ _ _ h => h) (Or.inl ⟨by rfl, ?_⟩) hHeld ?_ ?_
            rotate_left
            ·rintro w' ⟨s0, s1, s2, s3, s4, s5, s6⟩
             go_simp
             with_reducible rfl
            rotate_left
            ·simp only [Gtr.ps]
             rfl
            refine take_ (i := 16) (N := some 106) (v := ?_) (a' := ?_) (Gtr.bb 27 3670015) rfl rfl (take_ofW HT_.out HW_.out (by kernel_rfl)) (fun _ _ _ h => h) (Or.inl ⟨by rfl, ?_⟩) hHeld ?_ ?_
            rotate_left
            ·rintro w' ⟨s0, s1, s2, s3, s4, s5, s6⟩
             go_simp
             with_reducible rfl
            rotate_left
            ·simp only [Gtr.ps]
             rfl
            refine take_ (i := 19) (N := some 109) (v := ?_) (a' := ?_) (Gtr.bb 27 4194303) rfl rfl (take_ofW HT_.out HW_.out (by kernel_rfl)) (fun _ _ _ h => h) (Or.inl ⟨by rfl, ?_⟩) hHeld ?_ ?_
            rotate_left
            ·rintro w' ⟨s0, s1, s2, s3, s4, s5, s6⟩
             go_simp
             with_reducible rfl
            rotate_left
            ·simp only [Gtr.ps]
             rfl
            refine take_ (i := 22) (N := some 112) (v := ?_) (a' := ?_) (Gtr.bb 27 8388607) rfl rfl (take_ofW HT_.out HW_.out (by kernel_rfl)) (fun _ _ _ h => h) (Or.inl ⟨by rfl, ?_⟩) hHeld ?_ ?_
            rotate_left
            ·rintro w' ⟨s0, s1, s2, s3, s4, s5, s6⟩
             go_simp
             with_reducible rfl
            rotate_left
            ·simp only [Gtr.ps]
             rfl
            refine pure_ (i := 23) (N := some 113) (v := ?_) (a' := ?_) (Gtr.bb 27 16777215) rfl rfl (any_of HT_.out (by kernel_rfl)) (fun _ _ _ h => h) (Or.inl ⟨by rfl, ?_⟩) ?_ ?_
            rotate_left
            ·intro w'
             go_simp
             with_reducible rfl
            rotate_left
            ·simp only [Gtr.ps]
             rfl
            refine last_ (i := 24) (N := some 114) (Gtr.bb 27 33554431) rfl rfl (one_of HT_.out (by kernel_rfl)) (by decide) (fun K hK => ?_)
            refine value_ (w1 := ?_) (v := ?_) (by rfl) rfl ?_ ?_
            rotate_left 2
            ·go_simp
             constructor
             ·rfl
             ·rfl
            refine hK.out _ _ ?_
            clear hK K
            refine norm_ (a' := ?_) ?_ ?_
            rotate_left
            ·show Act.put _ (some 114) _ = _
             simp only [Gtr.ps]
             rfl
            refine last_ (i := 25) (N := some 115) (Gtr.bb 27 67108863) rfl rfl (one_of HT_.out (by kernel_rfl)) (by decide) (fun K hK => ?_)
            refine Kd.R_append_step k74 (w0 := w) w.heap.size (by rfl) (.tmp 90) (.tmp 114) 26 74 (.agg #[(.string ⟨#[]⟩), (.int .i64 0), (.int .i64 0), (.int .i64 0), (.int .i64 0), (.int .i64 0), (.int .i64 0), (.string ⟨#[]⟩)]) 80 rfl Tryz.underlying26 info74 rfl (by decide) (by omega) u8 x8_3 (⟨rdOf ByteArray.empty t339 6, rd y355 0, t343, rd y355 1, rd y355 2, rd y355 3, rd y355 4, rdOf ByteArray.empty t339 7⟩ : S74) [.string (rdOf ByteArray.empty t339 6), .int .i64 (rd y355 0), .int .i64 t343, .int .i64 (rd y355 1), .int .i64 (rd y355 2), .int .i64 (rd y355 3), .int .i64 (rd y355 4), .string (rdOf ByteArray.empty t339 7)] (fun _ => True) (fun _ => False) rfl rfl ?aP (fun _ hk => hk.elim) ?aF ?aO ?aB ?aS ?aL ?_
            (case aP => exact k74_mkM _ _ _ (⟨rdOf ByteArray.empty t339 6, rd y355 0, t343, rd y355 1, rd y355 2, rd y355 3, rd y355 4, rdOf ByteArray.empty t339 7⟩ : S74))
            (case aB => exact (Gtr.bw HB.out))
            (case aF => exact (fun _ _ => trivial))
            (case aO => exact (by (with_reducible repeat (first | apply Kd.R_alloc | apply Kd.R_drewN | apply Kd.R_drew)); exact HO_8.out))
            (case aS => exact (below_size (Gtr.bw HB.out)))
            (case aL => have := LMc51.out; omega)
            intro v367 w60 ho hb hg hat
            rw [← Ny366.out] at ho
            have n0_ := Aside0.mk (Kd.R_over' (by (with_reducible repeat (first | apply Kd.R_alloc | apply Kd.R_drewN | apply Kd.R_drew)); exact HO_47.out) (Kd.R_typed (by (with_reducible repeat (first | apply Kd.R_alloc | apply Kd.R_drewN | apply Kd.R_drew)); exact HO_8.out)) (by decide) hg)
            have n1_ := Aside0.mk (Kd.R_over' (by (with_reducible repeat (first | apply Kd.R_alloc | apply Kd.R_drewN | apply Kd.R_drew)); exact HO341.out) (Kd.R_typed (by (with_reducible repeat (first | apply Kd.R_alloc | apply Kd.R_drewN | apply Kd.R_drew)); exact HO_8.out)) (by decide) hg)
            have n2_ := Aside0.mk (Kd.R_over' (by (with_reducible repeat (first | apply Kd.R_alloc | apply Kd.R_drewN | apply Kd.R_drew)); exact HO357.out) (Kd.R_typed (by (with_reducible repeat (first | apply Kd.R_alloc | apply Kd.R_drewN | apply Kd.R_drew)); exact HO_8.out)) (by decide) hg)
            have n3_ := Aside0.mk (hb)
            have n4_ := Aside0.mk (ho)
            clear HO_47
            clear HO341
            clear HO357
            clear HB
            clear HO_8
            have HO_47 := n0_
            have HO341 := n1_
            have HO357 := n2_
            have HB := n3_
            have HO368 := n4_
            clear n0_ n1_ n2_ n3_ n4_
            clear ho hb hg hat
            refine hK.out _ _ ?_
            clear hK K
            refine norm_ (a' := ?_) ?_ ?_
            rotate_left
            ·show Act.put _ (some 115) _ = _
             simp only [Gtr.ps]
             rfl
            refine pure_ (i := 26) (N := some 8) (v := ?_) (a' := ?_) (Gtr.bb 27 134217727) rfl rfl (any_of HT_.out (by kernel_rfl)) (fun _ _ _ h => h) (Or.inl ⟨by rfl, ?_⟩) ?_ ?_
            rotate_left
            ·intro w'
             go_simp
             with_reducible rfl
            rotate_left
            ·simp only [Gtr.ps]
             rfl
            refine done_ (done_of HT_.out (by kernel_rfl)) ?_
            try go_wp2
            go_roundg k3
            case measure => have := HJ1.out; have := HK2.out; have := HK3.out; omega
            case rel => exact ⟨(y366), (wrap64 (x49_3 + 1)), (by first | rfl | (simp; done) | (simp [*]; done)), H', ⟨by have := HJ1.out; have := HK2.out; have := HK3.out; omega⟩, ⟨by (with_reducible repeat (first | apply Kd.R_alloc | apply Kd.R_drewN | apply Kd.R_drew)); exact HO368.out⟩, ⟨by (with_reducible repeat (first | apply Kd.R_alloc | apply Kd.R_drewN | apply Kd.R_drew)); exact Kd.R_mono HO_47.out (fun _ hk => trivial)⟩, ⟨(Gtr.bw HB.out)⟩⟩
           ·replace c43 := Bool.eq_false_iff.mpr c43
            subst c43
            have H1 : (some (([] : List (S74)), 3, false)) = some (r1, r2, r3) := by rw [if_neg (show ¬ (false = true) by decide)] at H; exact H
            clear H
            have H := H1
            clear H1
            simp only [Option.some.injEq, Prod.mk.injEq] at H
            obtain ⟨rfl, rfl, rfl⟩ := H
            have p338 : 0 ≤ (x49_3 : Int) := of_decide_eq_true (by first | (with_reducible assumption) | assumption)
            have q338 : x49_3 < (t330.length : Int) := of_decide_eq_true (by first | (with_reducible assumption) | assumption)
            obtain ⟨ad338, e338, hx338_0⟩ := Kd.at_string (Kd.R_reads' HO_47.out).2.2 x49_3 p338 q338
            cases e338
            replace p338 := eq_true p338
            replace q338 := eq_true q338
            try go_wp2_with (first | ((with_reducible refine gate_callee (f := 67) rfl ?_); refine goesL_ (some 54) rfl rfl Tryz.func67 (by kernel_rfl) rfl #[.string (rdOf ByteArray.empty t330 x49_3), .int .u8 9] rfl (by (try simp only [List.map_toArray, List.map_cons, List.map_nil]); first | done | rfl | (simp only [List.length_drop, List.length_take]; rfl)) ?_; (with_reducible refine (spec_l1Split.calls k3 (rdOf ByteArray.empty t330 x49_3) 9 t339 _ A28.out).mono ?_); rintro e w61 ⟨v340, rfl, ho0, hb⟩; refine ⟨_, rfl, ?_⟩; have n0_ := Aside0.mk (Kd.R_below (by (with_reducible repeat (first | apply Kd.R_alloc | apply Kd.R_drewN | apply Kd.R_drew)); exact HO_8.out) hb); have n1_ := Aside0.mk (Kd.R_elder' (by (with_reducible repeat (first | apply Kd.R_alloc | apply Kd.R_drewN | apply Kd.R_drew)); exact HO_47.out) (Kd.R_base ho0) hb); have n2_ := Aside0.mk (Kd.R_lower (Kd.R_new' ho0 (Kd.R_lt (by (with_reducible repeat (first | apply Kd.R_alloc | apply Kd.R_drewN | apply Kd.R_drew)); exact HO_47.out))) (below_size (Gtr.bw HB.out))); have n3_ := Aside0.mk (below_step (Gtr.bw HB.out) hb); clear HO_8; clear HO_47; clear HB; have HO_8 := n0_; have HO_47 := n1_; have HO341 := n2_; have HB := n3_; clear n0_ n1_ n2_ n3_; (try clear hb); (try clear hb2); (try clear hk); (try clear hi); (try clear ho0); obtain ⟨Ao62, co62, eo62⟩ := Kd.R_slice HO341.out; subst eo62; have p342 : 0 ≤ (1 : Int) := (by omega); have q342 : 1 < (t339.length : Int) := of_decide_eq_true (by first | (with_reducible assumption) | assumption); obtain ⟨ad342, e342, hx342_0⟩ := Kd.at_string (Kd.R_reads' HO341.out).2.2 1 p342 q342; cases e342; (try simp only [show (1 : Int).toNat = 1 from rfl, Nat.reduceMul, Nat.reduceEqDiff, Go.Addr.add, ↓reduceIte] at hx342_0); have qi342 : (1 < t339.length) = True := eq_true (by omega); (try rw [show ((1 : Int)).toNat = 1 from rfl] at hx342_0); replace p342 := eq_true p342; replace q342 := eq_true q342) | ((with_reducible refine gate_callee (f := 68) rfl ?_); refine goesL_ (some 59) rfl rfl Tryz.func68 (by kernel_rfl) rfl #[.string (rdOf ByteArray.empty t339 1)] rfl (by (try simp only [List.map_toArray, List.map_cons, List.map_nil]); first | done | rfl | (simp only [List.length_drop, List.length_take]; rfl)) ?_; (with_reducible refine (spec_ReadOctal.calls k3 (rdOf ByteArray.empty t339 1) t343 true _ A30.out).mono ?_); rintro e w63 ⟨rfl, hb⟩; refine ⟨_, rfl, ?_⟩; have n0_ := Aside0.mk (Kd.R_below (by (with_reducible repeat (first | apply Kd.R_alloc | apply Kd.R_drewN | apply Kd.R_drew)); exact HO_8.out) hb); have n1_ := Aside0.mk (Kd.R_below (by (with_reducible repeat (first | apply Kd.R_alloc | apply Kd.R_drewN | apply Kd.R_drew)); exact HO_47.out) hb); have n2_ := Aside0.mk (Kd.R_below (by (with_reducible repeat (first | apply Kd.R_alloc | apply Kd.R_drewN | apply Kd.R_drew)); exact HO341.out) hb); have n3_ := Aside0.mk (below_step (Gtr.bw HB.out) hb); clear HO_8; clear HO_47; clear HO341; clear HB; have HO_8 := n0_; have HO_47 := n1_; have HO341 := n2_; have HB := n3_; clear n0_ n1_ n2_ n3_; (try clear hb); (try clear hb2); (try clear hk); (try clear hi)))
            have n0_ := Aside0.mk (Kd.R_drew HO_8.out)
            have n1_ := Aside0.mk (Kd.R_drew HO_47.out)
            have n2_ := Aside0.mk (Kd.R_drew HO341.out)
            have n3_ := Aside0.mk (below_drew1 HB.out)
            clear HO_8
            clear HO_47
            clear HO341
            clear HB
            have HO_8 := n0_
            have HO_47 := n1_
            have HO341 := n2_
            have HB := n3_
            clear n0_ n1_ n2_ n3_
            have p345 : 0 ≤ (0 : Int) := (by omega)
            have q345 : 0 < (t339.length : Int) := of_decide_eq_true (by first | (with_reducible assumption) | assumption)
            obtain ⟨ad345, e345, hx345_0⟩ := Kd.at_string (Kd.R_reads' HO341.out).2.2 0 p345 q345
            obtain rfl : ad342 = ad345 := (by injection e345)
            have qi345 : (0 < t339.length) = True := eq_true (by omega)
            (try rw [show ((0 : Int)).toNat = 0 from rfl] at hx345_0)
            (try rw [Addr.add_zero'] at hx345_0)
            replace p345 := eq_true p345
            replace q345 := eq_true q345
            have p347 : 0 ≤ (2 : Int) := (by omega)
            have q347 : 2 < (t339.length : Int) := of_decide_eq_true (by first | (with_reducible assumption) | assumption)
            obtain ⟨ad347, e347, hx347_0⟩ := Kd.at_string (Kd.R_reads' HO341.out).2.2 2 p347 q347
            obtain rfl : ad342 = ad347 := (by injection e347)
            (try simp only [show (2 : Int).toNat = 2 from rfl, Nat.reduceMul, Nat.reduceEqDiff, Go.Addr.add, ↓reduceIte] at hx347_0)
            have qi347 : (2 < t339.length) = True := eq_true (by omega)
            (try rw [show ((2 : Int)).toNat = 2 from rfl] at hx347_0)
            replace p347 := eq_true p347
            replace q347 := eq_true q347
            have p349 : 0 ≤ (3 : Int) := (by omega)
            have q349 : 3 < (t339.length : Int) := of_decide_eq_true (by first | (with_reducible assumption) | assumption)
            obtain ⟨ad349, e349, hx349_0⟩ := Kd.at_string (Kd.R_reads' HO341.out).2.2 3 p349 q349
            obtain rfl : ad342 = ad349 := (by injection e349)
            (try simp only [show (3 : Int).toNat = 3 from rfl, Nat.reduceMul, Nat.reduceEqDiff, Go.Addr.add, ↓reduceIte] at hx349_0)
            have qi349 : (3 < t339.length) = True := eq_true (by omega)
            (try rw [show ((3 : Int)).toNat = 3 from rfl] at hx349_0)
            replace p349 := eq_true p349
            replace q349 := eq_true q349
            have p351 : 0 ≤ (4 : Int) := (by omega)
            have q351 : 4 < (t339.length : Int) := of_decide_eq_true (by first | (with_reducible assumption) | assumption)
            obtain ⟨ad351, e351, hx351_0⟩ := Kd.at_string (Kd.R_reads' HO341.out).2.2 4 p351 q351
            obtain rfl : ad342 = ad351 := (by injection e351)
            (try simp only [show (4 : Int).toNat = 4 from rfl, Nat.reduceMul, Nat.reduceEqDiff, Go.Addr.add, ↓reduceIte] at hx351_0)
            have qi351 : (4 < t339.length) = True := eq_true (by omega)
            (try rw [show ((4 : Int)).toNat = 4 from rfl] at hx351_0)
            replace p351 := eq_true p351
            replace q351 := eq_true q351
            have p353 : 0 ≤ (5 : Int) := (by omega)
            have q353 : 5 < (t339.length : Int) := of_decide_eq_true (by first | (with_reducible assumption) | assumption)
            obtain ⟨ad353, e353, hx353_0⟩ := Kd.at_string (Kd.R_reads' HO341.out).2.2 5 p353 q353
            obtain rfl : ad342 = ad353 := (by injection e353)
            (try simp only [show (5 : Int).toNat = 5 from rfl, Nat.reduceMul, Nat.reduceEqDiff, Go.Addr.add, ↓reduceIte] at hx353_0)
            have qi353 : (5 < t339.length) = True := eq_true (by omega)
            (try rw [show ((5 : Int)).toNat = 5 from rfl] at hx353_0)
            replace p353 := eq_true p353
            replace q353 := eq_true q353
            refine start_ (n := 22) (S := fun w' => w'.cell? ad342 = some (.string (rdOf ByteArray.empty t339 0)) ∧ w'.cell? ⟨ad342.block, ad342.off + 2, none⟩ = some (.string (rdOf ByteArray.empty t339 2)) ∧ w'.cell? ⟨ad342.block, ad342.off + 3, none⟩ = some (.string (rdOf ByteArray.empty t339 3)) ∧ w'.cell? ⟨ad342.block, ad342.off + 4, none⟩ = some (.string (rdOf ByteArray.empty t339 4)) ∧ w'.cell? ⟨ad342.block, ad342.off + 5, none⟩ = some (.string (rdOf ByteArray.empty t339 5))) (ds := []) (Gtr.bb 22 0) (by kernel_rfl) rfl rfl ⟨hx345_0, hx347_0, hx349_0, hx351_0, hx353_0⟩ (fun hHeld => ?_); refine with_tabW spec_ReadItems.tab16 spec_ReadItems.bits16 (fun HT_ HW_ => ?_)
            generalize w63.drew = w64 at HO_8 HO_47 HO341 HB hx345_0 hx347_0 hx349_0 hx351_0 hx353_0 hHeld ⊢
            refine pure_ (i := 0) (N := some 62) (v := ?_) (a' := ?_) (Gtr.bb 22 1) rfl rfl (any_of HT_.out (by kernel_rfl)) (fun _ _ _ h => h) (Or.inl ⟨by rfl, ?_⟩) ?_ ?_
            rotate_left
            ·intro w'
             go_simp
             with_reducible rfl
            rotate_left
            ·simp only [Gtr.ps]
             rfl
            refine pure_ (i := 1) (N := some 63) (v := ?_) (a' := ?_) (Gtr.bb 22 3) rfl rfl (any_of HT_.out (by kernel_rfl)) (fun _ _ _ h => h) (Or.inl ⟨by rfl, ?_⟩) ?_ ?_
            rotate_left
            ·intro w'
             go_simp
             with_reducible rfl
            rotate_left
            ·simp only [Gtr.ps]
             rfl
            refine pure_ (i := 4) (N := some 66) (v := ?_) (a' := ?_) (Gtr.bb 22 19) rfl rfl (any_of HT_.out (by kernel_rfl)) (fun _ _ _ h => h) (Or.inl ⟨by rfl, ?_⟩) ?_ ?_
            rotate_left
            ·intro w'
             go_simp
             with_reducible rfl
            rotate_left
            ·simp only [Gtr.ps]
             rfl
            refine pure_ (i := 5) (N := some 67) (v := ?_) (a' := ?_) (Gtr.bb 22 51) rfl rfl (any_of HT_.out (by kernel_rfl)) (fun _ _ _ h => h) (Or.inl ⟨by rfl, ?_⟩) ?_ ?_
            rotate_left
            ·intro w'
             go_simp
             with_reducible rfl
            rotate_left
            ·simp only [Gtr.ps]
             rfl
            refine pure_ (i := 8) (N := some 70) (v := ?_) (a' := ?_) (Gtr.bb 22 307) rfl rfl (any_of HT_.out (by kernel_rfl)) (fun _ _ _ h => h) (Or.inl ⟨by rfl, ?_⟩) ?_ ?_
            rotate_left
            ·intro w'
             go_simp
             with_reducible rfl
            rotate_left
            ·simp only [Gtr.ps]
             rfl
            refine pure_ (i := 9) (N := some 71) (v := ?_) (a' := ?_) (Gtr.bb 22 819) rfl rfl (any_of HT_.out (by kernel_rfl)) (fun _ _ _ h => h) (Or.inl ⟨by rfl, ?_⟩) ?_ ?_
            rotate_left
            ·intro w'
             go_simp
             with_reducible rfl
            rotate_left
            ·simp only [Gtr.ps]
             rfl
            refine pure_ (i := 12) (N := some 74) (v := ?_) (a' := ?_) (Gtr.bb 22 4915) rfl rfl (any_of HT_.out (by kernel_rfl)) (fun _ _ _ h => h) (Or.inl ⟨by rfl, ?_⟩) ?_ ?_
            rotate_left
            ·intro w'
             go_simp
             with_reducible rfl
            rotate_left
            ·simp only [Gtr.ps]
             rfl
            refine pure_ (i := 13) (N := some 75) (v := ?_) (a' := ?_) (Gtr.bb 22 13107) rfl rfl (any_of HT_.out (by kernel_rfl)) (fun _ _ _ h => h) (Or.inl ⟨by rfl, ?_⟩) ?_ ?_
            rotate_left
            ·intro w'
             go_simp
             with_reducible rfl
            rotate_left
            ·simp only [Gtr.ps]
             rfl
            refine pure_ (i := 16) (N := some 78) (v := ?_) (a' := ?_) (Gtr.bb 22 78643) rfl rfl (any_of HT_.out (by kernel_rfl)) (fun _ _ _ h => h) (Or.inl ⟨by rfl, ?_⟩) ?_ ?_
            rotate_left
            ·intro w'
             go_simp
             with_reducible rfl
            rotate_left
            ·simp only [Gtr.ps]
             rfl
            refine pure_ (i := 17) (N := some 79) (v := ?_) (a' := ?_) (Gtr.bb 22 209715) rfl rfl (any_of HT_.out (by kernel_rfl)) (fun _ _ _ h => h) (Or.inl ⟨by rfl, ?_⟩) ?_ ?_
            rotate_left
            ·intro w'
             go_simp
             with_reducible rfl
            rotate_left
            ·simp only [Gtr.ps]
             rfl
            refine take_ (i := 2) (N := some 64) (v := ?_) (a' := ?_) (Gtr.bb 22 209719) rfl rfl (take_ofW HT_.out HW_.out (by kernel_rfl)) (fun _ _ _ h => h) (Or.inl ⟨by rfl, ?_⟩) hHeld ?_ ?_
            rotate_left
            ·rintro w' ⟨s0, s1, s2, s3, s4⟩
             go_simp
             with_reducible rfl
            rotate_left
            ·simp only [Gtr.ps]
             rfl
            refine take_ (i := 6) (N := some 68) (v := ?_) (a' := ?_) (Gtr.bb 22 209783) rfl rfl (take_ofW HT_.out HW_.out (by kernel_rfl)) (fun _ _ _ h => h) (Or.inl ⟨by rfl, ?_⟩) hHeld ?_ ?_
            rotate_left
            ·rintro w' ⟨s0, s1, s2, s3, s4⟩
             go_simp
             with_reducible rfl
            rotate_left
            ·simp only [Gtr.ps]
             rfl
            refine take_ (i := 10) (N := some 72) (v := ?_) (a' := ?_) (Gtr.bb 22 210807) rfl rfl (take_ofW HT_.out HW_.out (by kernel_rfl)) (fun _ _ _ h => h) (Or.inl ⟨by rfl, ?_⟩) hHeld ?_ ?_
            rotate_left
            ·rintro w' ⟨s0, s1, s2, s3, s4⟩
             go_simp
             with_reducible rfl
            rotate_left
            ·simp only [Gtr.ps]
             rfl
            refine take_ (i := 14) (N := some 76) (v := ?_) (a' := ?_) (Gtr.bb 22 227191) rfl rfl (take_ofW HT_.out HW_.out (by kernel_rfl)) (fun _ _ _ h => h) (Or.inl ⟨by rfl, ?_⟩) hHeld ?_ ?_
            rotate_left
            ·rintro w' ⟨s0, s1, s2, s3, s4⟩
             go_simp
             with_reducible rfl
            rotate_left
            ·simp only [Gtr.ps]
             rfl
            refine take_ (i := 18) (N := some 80) (v := ?_) (a' := ?_) (Gtr.bb 22 489335) rfl rfl (take_ofW HT_.out HW_.out (by kernel_rfl)) (fun _ _ _ h => h) (Or.inl ⟨by rfl, ?_⟩) hHeld ?_ ?_
            rotate_left
            ·rintro w' ⟨s0, s1, s2, s3, s4⟩
             go_simp
             with_reducible rfl
            rotate_left
            ·simp only [Gtr.ps]
             rfl
            refine one_ (i := 3) (N := some 65) (Gtr.bb 22 489343) rfl rfl (one_of HT_.out (by kernel_rfl)) (by decide) (fun K hK => ?_)
            refine goes_ Tryz.func69 (by kernel_rfl) rfl #[.string (rdOf ByteArray.empty t339 0)] (by rfl) rfl rfl (by (try simp only [List.map_toArray, List.map_cons, List.map_nil]); first | done | rfl | (simp only [List.length_drop, List.length_take]; rfl)) ?_
            with_reducible refine (spec_l17Num.calls k3 (rdOf ByteArray.empty t339 0) t346 _ A32.out).mono ?_
            rintro e w' ⟨rfl, ⟨nd, rfl⟩⟩
            refine ⟨_, rfl, ?_⟩
            refine hK.out _ _ ⟨hHeld.1, hHeld.2.1, hHeld.2.2.1, hHeld.2.2.2.1, hHeld.2.2.2.2⟩ (fun hHeld => ?_)
            clear hK K
            refine norm_ (a' := ?_) ?_ ?_
            rotate_left
            ·show Act.put _ (some 65) _ = _
             simp only [Gtr.ps]
             rfl
            refine one_ (i := 7) (N := some 69) (Gtr.bb 22 489471) rfl rfl (one_of HT_.out (by kernel_rfl)) (by decide) (fun K hK => ?_)
            refine goes_ Tryz.func69 (by kernel_rfl) rfl #[.string (rdOf ByteArray.empty t339 2)] (by rfl) rfl rfl (by (try simp only [List.map_toArray, List.map_cons, List.map_nil]); first | done | rfl | (simp only [List.length_drop, List.length_take]; rfl)) ?_
            with_reducible refine (spec_l17Num.calls k3 (rdOf ByteArray.empty t339 2) t348 _ A34.out).mono ?_
            rintro e w' ⟨rfl, ⟨nd, rfl⟩⟩
            refine ⟨_, rfl, ?_⟩
            refine hK.out _ _ ⟨hHeld.1, hHeld.2.1, hHeld.2.2.1, hHeld.2.2.2.1, hHeld.2.2.2.2⟩ (fun hHeld => ?_)
            clear hK K
            refine norm_ (a' := ?_) ?_ ?_
            rotate_left
            ·show Act.put _ (some 69) _ = _
             simp only [Gtr.ps]
             rfl
            refine one_ (i := 11) (N := some 73) (Gtr.bb 22 491519) rfl rfl (one_of HT_.out (by kernel_rfl)) (by decide) (fun K hK => ?_)
            refine goes_ Tryz.func69 (by kernel_rfl) rfl #[.string (rdOf ByteArray.empty t339 3)] (by rfl) rfl rfl (by (try simp only [List.map_toArray, List.map_cons, List.map_nil]); first | done | rfl | (simp only [List.length_drop, List.length_take]; rfl)) ?_
            with_reducible refine (spec_l17Num.calls k3 (rdOf ByteArray.empty t339 3) t350 _ A36.out).mono ?_
            rintro e w' ⟨rfl, ⟨nd, rfl⟩⟩
            refine ⟨_, rfl, ?_⟩
            refine hK.out _ _ ⟨hHeld.1, hHeld.2.1, hHeld.2.2.1, hHeld.2.2.2.1, hHeld.2.2.2.2⟩ (fun hHeld => ?_)
            clear hK K
            refine norm_ (a' := ?_) ?_ ?_
            rotate_left
            ·show Act.put _ (some 73) _ = _
             simp only [Gtr.ps]
             rfl
            refine one_ (i := 15) (N := some 77) (Gtr.bb 22 524287) rfl rfl (one_of HT_.out (by kernel_rfl)) (by decide) (fun K hK => ?_)
            refine goes_ Tryz.func69 (by kernel_rfl) rfl #[.string (rdOf ByteArray.empty t339 4)] (by rfl) rfl rfl (by (try simp only [List.map_toArray, List.map_cons, List.map_nil]); first | done | rfl | (simp only [List.length_drop, List.length_take]; rfl)) ?_
            with_reducible refine (spec_l17Num.calls k3 (rdOf ByteArray.empty t339 4) t352 _ A38.out).mono ?_
            rintro e w' ⟨rfl, ⟨nd, rfl⟩⟩
            refine ⟨_, rfl, ?_⟩
            refine hK.out _ _ ⟨hHeld.1, hHeld.2.1, hHeld.2.2.1, hHeld.2.2.2.1, hHeld.2.2.2.2⟩ (fun hHeld => ?_)
            clear hK K
            refine norm_ (a' := ?_) ?_ ?_
            rotate_left
            ·show Act.put _ (some 77) _ = _
             simp only [Gtr.ps]
             rfl
            refine one_ (i := 19) (N := some 81) (Gtr.bb 22 1048575) rfl rfl (one_of HT_.out (by kernel_rfl)) (by decide) (fun K hK => ?_)
            refine goes_ Tryz.func69 (by kernel_rfl) rfl #[.string (rdOf ByteArray.empty t339 5)] (by rfl) rfl rfl (by (try simp only [List.map_toArray, List.map_cons, List.map_nil]); first | done | rfl | (simp only [List.length_drop, List.length_take]; rfl)) ?_
            with_reducible refine (spec_l17Num.calls k3 (rdOf ByteArray.empty t339 5) t354 _ A40.out).mono ?_
            rintro e w' ⟨rfl, ⟨nd, rfl⟩⟩
            refine ⟨_, rfl, ?_⟩
            refine hK.out _ _ ⟨hHeld.1, hHeld.2.1, hHeld.2.2.1, hHeld.2.2.2.1, hHeld.2.2.2.2⟩ (fun hHeld => ?_)
            clear hK K
            refine norm_ (a' := ?_) ?_ ?_
            rotate_left
            ·show Act.put _ (some 81) _ = _
             simp only [Gtr.ps]
             rfl
            refine one_ (i := 20) (N := some 82) (Gtr.bb 22 2097151) rfl rfl (one_of HT_.out (by kernel_rfl)) (by decide) (fun K hK => ?_)
            refine Kd.R_lit_step (Kd.int .i64) _ 3 ?hg (N := 82) ?hd (xs := ([t346, t348, t350, t352, t354] : List Int)) (inner := [.int .i64 t346, .int .i64 t348, .int .i64 t350, .int .i64 t352, .int .i64 t354]) (ok := fun _ => True) (okp := fun _ => True) ?hr ?hp (fun _ hk => hk) trivial (Below.refl _ _) (Nat.le_refl _) (by simp) ?_; (case hd => rfl); (case hg => rfl); (case hr => first | (go_simp; done) | (go_simp; rfl)); (case hp => exact (Reps.one (show Kd.M (Kd.int .i64) _ _ _ t346 [.int .i64 t346] from rfl) (Reps.one (show Kd.M (Kd.int .i64) _ _ _ t348 [.int .i64 t348] from rfl) (Reps.one (show Kd.M (Kd.int .i64) _ _ _ t350 [.int .i64 t350] from rfl) (Reps.one (show Kd.M (Kd.int .i64) _ _ _ t352 [.int .i64 t352] from rfl) (Reps.one (show Kd.M (Kd.int .i64) _ _ _ t354 [.int .i64 t354] from rfl) (Reps.none _ _)))))))
            intro v356 w65 ho66 hb hg_ hnew_
            have HS0_ := (hb.cell (World.block_lt_of_cell? _ _ (hHeld.1))).trans (hHeld.1)
            have HS1_ := (hb.cell (World.block_lt_of_cell? _ _ (hHeld.2.1))).trans (hHeld.2.1)
            have HS2_ := (hb.cell (World.block_lt_of_cell? _ _ (hHeld.2.2.1))).trans (hHeld.2.2.1)
            have HS3_ := (hb.cell (World.block_lt_of_cell? _ _ (hHeld.2.2.2.1))).trans (hHeld.2.2.2.1)
            have HS4_ := (hb.cell (World.block_lt_of_cell? _ _ (hHeld.2.2.2.2))).trans (hHeld.2.2.2.2)
            clear hg_ hnew_
            (first | rw [← Ny355.out] at ho66 | (simp only [Int.reduceToNat] at ho66; rw [← Ny355.out] at ho66))
            have n0_ := Aside0.mk (Kd.R_below (by (with_reducible repeat (first | apply Kd.R_alloc | apply Kd.R_drewN | apply Kd.R_drew)); exact HO_8.out) hb)
            have n1_ := Aside0.mk (Kd.R_below (by (with_reducible repeat (first | apply Kd.R_alloc | apply Kd.R_drewN | apply Kd.R_drew)); exact HO_47.out) hb)
            have n2_ := Aside0.mk (Kd.R_below (by (with_reducible repeat (first | apply Kd.R_alloc | apply Kd.R_drewN | apply Kd.R_drew)); exact HO341.out) hb)
            have n3_ := Aside0.mk (Kd.R_lower ho66 (below_size (Gtr.bw HB.out)))
            have n4_ := Aside0.mk (below_step (Gtr.bw HB.out) hb)
            clear HO_8
            clear HO_47
            clear HO341
            clear HB
            have HO_8 := n0_
            have HO_47 := n1_
            have HO341 := n2_
            have HO357 := n3_
            have HB := n4_
            clear n0_ n1_ n2_ n3_ n4_
            clear hb ho66
            refine hK.out _ _ ⟨HS0_, HS1_, HS2_, HS3_, HS4_⟩ (fun hHeld => ?_)
            clear hK K
            refine norm_ (a' := ?_) ?_ ?_
            rotate_left
            ·show Act.put _ (some 82) _ = _
             simp only [Gtr.ps]
             rfl
            refine pure_ (i := 21) (N := some 14) (v := ?_) (a' := ?_) (Gtr.bb 22 4194303) rfl rfl (any_of HT_.out (by kernel_rfl)) (fun _ _ _ h => h) (Or.inl ⟨by rfl, ?_⟩) ?_ ?_
            rotate_left
            ·intro w'
             go_simp
             with_reducible rfl
            rotate_left
            ·simp only [Gtr.ps]
             rfl
            refine done_ (done_of HT_.out (by kernel_rfl)) ?_
            obtain ⟨Ao67, co67, eo67⟩ := Kd.R_slice HO357.out
            subst eo67
            try go_wp2_with (first | (go_at_call 70; (with_reducible refine (spec_l1All.calls k3 _ _ y355 0 9999999 false _ ?side1 ?side2 A42.out).mono ?_); (case side1 => repeat (first | exact (Kd.R_reads' HO357.out).2.2 | (with_reducible refine Kd.C_alloc ?_ _) | (with_reducible refine Kd.C_drewN ?_ _) | (with_reducible refine Kd.C_drew ?_))); (case side2 => exact (Kd.R_reads' HO357.out).2.1); rintro e w' ⟨rfl, ⟨nd, rfl⟩⟩))
            go_ret3
            exact ⟨_, by first | rfl | (simp [errW_none, errW_some] <;> rfl) | (simp only [← hji10]; first | rfl | (simp [errW_none, errW_some] <;> rfl)) | (simp [*, errW_none, errW_some] <;> rfl), by first | exact Kd.R_nil _ _ _ _ _ | exact Kd.N_nil _ _ _ _ _ | exact Kd.V_nil _ _ _ _ _ | exact Kd.Q_nil _ _ _ _ _ | exact Kd.S_nil _ _ _ _ _, (Gtr.bw HB.out)⟩
          ·replace c41 := Bool.eq_false_iff.mpr c41
           subst c41
           have H1 : (some (([] : List (S74)), 3, false)) = some (r1, r2, r3) := by rw [if_neg (show ¬ (false = true) by decide)] at H; exact H
           clear H
           have H := H1
           clear H1
           simp only [Option.some.injEq, Prod.mk.injEq] at H
           obtain ⟨rfl, rfl, rfl⟩ := H
           have p338 : 0 ≤ (x49_3 : Int) := of_decide_eq_true (by first | (with_reducible assumption) | assumption)
           have q338 : x49_3 < (t330.length : Int) := of_decide_eq_true (by first | (with_reducible assumption) | assumption)
           obtain ⟨ad338, e338, hx338_0⟩ := Kd.at_string (Kd.R_reads' HO_47.out).2.2 x49_3 p338 q338
           cases e338
           replace p338 := eq_true p338
           replace q338 := eq_true q338
           try go_wp2_with (first | ((with_reducible refine gate_callee (f := 67) rfl ?_); refine goesL_ (some 54) rfl rfl Tryz.func67 (by kernel_rfl) rfl #[.string (rdOf ByteArray.empty t330 x49_3), .int .u8 9] rfl (by (try simp only [List.map_toArray, List.map_cons, List.map_nil]); first | done | rfl | (simp only [List.length_drop, List.length_take]; rfl)) ?_; (with_reducible refine (spec_l1Split.calls k3 (rdOf ByteArray.empty t330 x49_3) 9 t339 _ A28.out).mono ?_); rintro e w68 ⟨v340, rfl, ho0, hb⟩; refine ⟨_, rfl, ?_⟩; have n0_ := Aside0.mk (Kd.R_below (by (with_reducible repeat (first | apply Kd.R_alloc | apply Kd.R_drewN | apply Kd.R_drew)); exact HO_8.out) hb); have n1_ := Aside0.mk (Kd.R_elder' (by (with_reducible repeat (first | apply Kd.R_alloc | apply Kd.R_drewN | apply Kd.R_drew)); exact HO_47.out) (Kd.R_base ho0) hb); have n2_ := Aside0.mk (Kd.R_lower (Kd.R_new' ho0 (Kd.R_lt (by (with_reducible repeat (first | apply Kd.R_alloc | apply Kd.R_drewN | apply Kd.R_drew)); exact HO_47.out))) (below_size (Gtr.bw HB.out))); have n3_ := Aside0.mk (below_step (Gtr.bw HB.out) hb); clear HO_8; clear HO_47; clear HB; have HO_8 := n0_; have HO_47 := n1_; have HO341 := n2_; have HB := n3_; clear n0_ n1_ n2_ n3_; (try clear hb); (try clear hb2); (try clear hk); (try clear hi); (try clear ho0); obtain ⟨Ao69, co69, eo69⟩ := Kd.R_slice HO341.out; subst eo69; have p342 : 0 ≤ (1 : Int) := (by omega); have q342 : 1 < (t339.length : Int) := of_decide_eq_true (by first | (with_reducible assumption) | assumption); obtain ⟨ad342, e342, hx342_0⟩ := Kd.at_string (Kd.R_reads' HO341.out).2.2 1 p342 q342; cases e342; (try simp only [show (1 : Int).toNat = 1 from rfl, Nat.reduceMul, Nat.reduceEqDiff, Go.Addr.add, ↓reduceIte] at hx342_0); have qi342 : (1 < t339.length) = True := eq_true (by omega); (try rw [show ((1 : Int)).toNat = 1 from rfl] at hx342_0); replace p342 := eq_true p342; replace q342 := eq_true q342) | ((with_reducible refine gate_callee (f := 68) rfl ?_); refine goesL_ (some 59) rfl rfl Tryz.func68 (by kernel_rfl) rfl #[.string (rdOf ByteArray.empty t339 1)] rfl (by (try simp only [List.map_toArray, List.map_cons, List.map_nil]); first | done | rfl | (simp only [List.length_drop, List.length_take]; rfl)) ?_; (with_reducible refine (spec_ReadOctal.calls k3 (rdOf ByteArray.empty t339 1) t343 false _ A30.out).mono ?_); rintro e w70 ⟨rfl, hb⟩; refine ⟨_, rfl, ?_⟩; have n0_ := Aside0.mk (Kd.R_below (by (with_reducible repeat (first | apply Kd.R_alloc | apply Kd.R_drewN | apply Kd.R_drew)); exact HO_8.out) hb); have n1_ := Aside0.mk (Kd.R_below (by (with_reducible repeat (first | apply Kd.R_alloc | apply Kd.R_drewN | apply Kd.R_drew)); exact HO_47.out) hb); have n2_ := Aside0.mk (Kd.R_below (by (with_reducible repeat (first | apply Kd.R_alloc | apply Kd.R_drewN | apply Kd.R_drew)); exact HO341.out) hb); have n3_ := Aside0.mk (below_step (Gtr.bw HB.out) hb); clear HO_8; clear HO_47; clear HO341; clear HB; have HO_8 := n0_; have HO_47 := n1_; have HO341 := n2_; have HB := n3_; clear n0_ n1_ n2_ n3_; (try clear hb); (try clear hb2); (try clear hk); (try clear hi)))
           have n0_ := Aside0.mk (Kd.R_drew HO_8.out)
           have n1_ := Aside0.mk (Kd.R_drew HO_47.out)
           have n2_ := Aside0.mk (Kd.R_drew HO341.out)
           have n3_ := Aside0.mk (below_drew1 HB.out)
           clear HO_8
           clear HO_47
           clear HO341
           clear HB
           have HO_8 := n0_
           have HO_47 := n1_
           have HO341 := n2_
           have HB := n3_
           clear n0_ n1_ n2_ n3_
           have p345 : 0 ≤ (0 : Int) := (by omega)
           have q345 : 0 < (t339.length : Int) := of_decide_eq_true (by first | (with_reducible assumption) | assumption)
           obtain ⟨ad345, e345, hx345_0⟩ := Kd.at_string (Kd.R_reads' HO341.out).2.2 0 p345 q345
           obtain rfl : ad342 = ad345 := (by injection e345)
           have qi345 : (0 < t339.length) = True := eq_true (by omega)
           (try rw [show ((0 : Int)).toNat = 0 from rfl] at hx345_0)
           (try rw [Addr.add_zero'] at hx345_0)
           replace p345 := eq_true p345
           replace q345 := eq_true q345
           have p347 : 0 ≤ (2 : Int) := (by omega)
           have q347 : 2 < (t339.length : Int) := of_decide_eq_true (by first | (with_reducible assumption) | assumption)
           obtain ⟨ad347, e347, hx347_0⟩ := Kd.at_string (Kd.R_reads' HO341.out).2.2 2 p347 q347
           obtain rfl : ad342 = ad347 := (by injection e347)
           (try simp only [show (2 : Int).toNat = 2 from rfl, Nat.reduceMul, Nat.reduceEqDiff, Go.Addr.add, ↓reduceIte] at hx347_0)
           have qi347 : (2 < t339.length) = True := eq_true (by omega)
           (try rw [show ((2 : Int)).toNat = 2 from rfl] at hx347_0)
           replace p347 := eq_true p347
           replace q347 := eq_true q347
           have p349 : 0 ≤ (3 : Int) := (by omega)
           have q349 : 3 < (t339.length : Int) := of_decide_eq_true (by first | (with_reducible assumption) | assumption)
           obtain ⟨ad349, e349, hx349_0⟩ := Kd.at_string (Kd.R_reads' HO341.out).2.2 3 p349 q349
           obtain rfl : ad342 = ad349 := (by injection e349)
           (try simp only [show (3 : Int).toNat = 3 from rfl, Nat.reduceMul, Nat.reduceEqDiff, Go.Addr.add, ↓reduceIte] at hx349_0)
           have qi349 : (3 < t339.length) = True := eq_true (by omega)
           (try rw [show ((3 : Int)).toNat = 3 from rfl] at hx349_0)
           replace p349 := eq_true p349
           replace q349 := eq_true q349
           have p351 : 0 ≤ (4 : Int) := (by omega)
           have q351 : 4 < (t339.length : Int) := of_decide_eq_true (by first | (with_reducible assumption) | assumption)
           obtain ⟨ad351, e351, hx351_0⟩ := Kd.at_string (Kd.R_reads' HO341.out).2.2 4 p351 q351
           obtain rfl : ad342 = ad351 := (by injection e351)
           (try simp only [show (4 : Int).toNat = 4 from rfl, Nat.reduceMul, Nat.reduceEqDiff, Go.Addr.add, ↓reduceIte] at hx351_0)
           have qi351 : (4 < t339.length) = True := eq_true (by omega)
           (try rw [show ((4 : Int)).toNat = 4 from rfl] at hx351_0)
           replace p351 := eq_true p351
           replace q351 := eq_true q351
           have p353 : 0 ≤ (5 : Int) := (by omega)
           have q353 : 5 < (t339.length : Int) := of_decide_eq_true (by first | (with_reducible assumption) | assumption)
           obtain ⟨ad353, e353, hx353_0⟩ := Kd.at_string (Kd.R_reads' HO341.out).2.2 5 p353 q353
           obtain rfl : ad342 = ad353 := (by injection e353)
           (try simp only [show (5 : Int).toNat = 5 from rfl, Nat.reduceMul, Nat.reduceEqDiff, Go.Addr.add, ↓reduceIte] at hx353_0)
           have qi353 : (5 < t339.length) = True := eq_true (by omega)
           (try rw [show ((5 : Int)).toNat = 5 from rfl] at hx353_0)
           replace p353 := eq_true p353
           replace q353 := eq_true q353
           refine start_ (n := 22) (S := fun w' => w'.cell? ad342 = some (.string (rdOf ByteArray.empty t339 0)) ∧ w'.cell? ⟨ad342.block, ad342.off + 2, none⟩ = some (.string (rdOf ByteArray.empty t339 2)) ∧ w'.cell? ⟨ad342.block, ad342.off + 3, none⟩ = some (.string (rdOf ByteArray.empty t339 3)) ∧ w'.cell? ⟨ad342.block, ad342.off + 4, none⟩ = some (.string (rdOf ByteArray.empty t339 4)) ∧ w'.cell? ⟨ad342.block, ad342.off + 5, none⟩ = some (.string (rdOf ByteArray.empty t339 5))) (ds := []) (Gtr.bb 22 0) (by kernel_rfl) rfl rfl ⟨hx345_0, hx347_0, hx349_0, hx351_0, hx353_0⟩ (fun hHeld => ?_); refine with_tabW spec_ReadItems.tab16 spec_ReadItems.bits16 (fun HT_ HW_ => ?_)
           generalize w70.drew = w71 at HO_8 HO_47 HO341 HB hx345_0 hx347_0 hx349_0 hx351_0 hx353_0 hHeld ⊢
           refine pure_ (i := 0) (N := some 62) (v := ?_) (a' := ?_) (Gtr.bb 22 1) rfl rfl (any_of HT_.out (by kernel_rfl)) (fun _ _ _ h => h) (Or.inl ⟨by rfl, ?_⟩) ?_ ?_
           rotate_left
           ·intro w'
            go_simp
            with_reducible rfl
           rotate_left
           ·simp only [Gtr.ps]
            rfl
           refine pure_ (i := 1) (N := some 63) (v := ?_) (a' := ?_) (Gtr.bb 22 3) rfl rfl (any_of HT_.out (by kernel_rfl)) (fun _ _ _ h => h) (Or.inl ⟨by rfl, ?_⟩) ?_ ?_
           rotate_left
           ·intro w'
            go_simp
            with_reducible rfl
           rotate_left
           ·simp only [Gtr.ps]
            rfl
           refine pure_ (i := 4) (N := some 66) (v := ?_) (a' := ?_) (Gtr.bb 22 19) rfl rfl (any_of HT_.out (by kernel_rfl)) (fun _ _ _ h => h) (Or.inl ⟨by rfl, ?_⟩) ?_ ?_
           rotate_left
           ·intro w'
            go_simp
            with_reducible rfl
           rotate_left
           ·simp only [Gtr.ps]
            rfl
           refine pure_ (i := 5) (N := some 67) (v := ?_) (a' := ?_) (Gtr.bb 22 51) rfl rfl (any_of HT_.out (by kernel_rfl)) (fun _ _ _ h => h) (Or.inl ⟨by rfl, ?_⟩) ?_ ?_
           rotate_left
           ·intro w'
            go_simp
            with_reducible rfl
           rotate_left
           ·simp only [Gtr.ps]
            rfl
           refine pure_ (i := 8) (N := some 70) (v := ?_) (a' := ?_) (Gtr.bb 22 307) rfl rfl (any_of HT_.out (by kernel_rfl)) (fun _ _ _ h => h) (Or.inl ⟨by rfl, ?_⟩) ?_ ?_
           rotate_left
           ·intro w'
            go_simp
            with_reducible rfl
           rotate_left
           ·simp only [Gtr.ps]
            rfl
           refine pure_ (i := 9) (N := some 71) (v := ?_) (a' := ?_) (Gtr.bb 22 819) rfl rfl (any_of HT_.out (by kernel_rfl)) (fun _ _ _ h => h) (Or.inl ⟨by rfl, ?_⟩) ?_ ?_
           rotate_left
           ·intro w'
            go_simp
            with_reducible rfl
           rotate_left
           ·simp only [Gtr.ps]
            rfl
           refine pure_ (i := 12) (N := some 74) (v := ?_) (a' := ?_) (Gtr.bb 22 4915) rfl rfl (any_of HT_.out (by kernel_rfl)) (fun _ _ _ h => h) (Or.inl ⟨by rfl, ?_⟩) ?_ ?_
           rotate_left
           ·intro w'
            go_simp
            with_reducible rfl
           rotate_left
           ·simp only [Gtr.ps]
            rfl
           refine pure_ (i := 13) (N := some 75) (v := ?_) (a' := ?_) (Gtr.bb 22 13107) rfl rfl (any_of HT_.out (by kernel_rfl)) (fun _ _ _ h => h) (Or.inl ⟨by rfl, ?_⟩) ?_ ?_
           rotate_left
           ·intro w'
            go_simp
            with_reducible rfl
           rotate_left
           ·simp only [Gtr.ps]
            rfl
           refine pure_ (i := 16) (N := some 78) (v := ?_) (a' := ?_) (Gtr.bb 22 78643) rfl rfl (any_of HT_.out (by kernel_rfl)) (fun _ _ _ h => h) (Or.inl ⟨by rfl, ?_⟩) ?_ ?_
           rotate_left
           ·intro w'
            go_simp
            with_reducible rfl
           rotate_left
           ·simp only [Gtr.ps]
            rfl
           refine pure_ (i := 17) (N := some 79) (v := ?_) (a' := ?_) (Gtr.bb 22 209715) rfl rfl (any_of HT_.out (by kernel_rfl)) (fun _ _ _ h => h) (Or.inl ⟨by rfl, ?_⟩) ?_ ?_
           rotate_left
           ·intro w'
            go_simp
            with_reducible rfl
           rotate_left
           ·simp only [Gtr.ps]
            rfl
           refine take_ (i := 2) (N := some 64) (v := ?_) (a' := ?_) (Gtr.bb 22 209719) rfl rfl (take_ofW HT_.out HW_.out (by kernel_rfl)) (fun _ _ _ h => h) (Or.inl ⟨by rfl, ?_⟩) hHeld ?_ ?_
           rotate_left
           ·rintro w' ⟨s0, s1, s2, s3, s4⟩
            go_simp
            with_reducible rfl
           rotate_left
           ·simp only [Gtr.ps]
            rfl
           refine take_ (i := 6) (N := some 68) (v := ?_) (a' := ?_) (Gtr.bb 22 209783) rfl rfl (take_ofW HT_.out HW_.out (by kernel_rfl)) (fun _ _ _ h => h) (Or.inl ⟨by rfl, ?_⟩) hHeld ?_ ?_
           rotate_left
           ·rintro w' ⟨s0, s1, s2, s3, s4⟩
            go_simp
            with_reducible rfl
           rotate_left
           ·simp only [Gtr.ps]
            rfl
           refine take_ (i := 10) (N := some 72) (v := ?_) (a' := ?_) (Gtr.bb 22 210807) rfl rfl (take_ofW HT_.out HW_.out (by kernel_rfl)) (fun _ _ _ h => h) (Or.inl ⟨by rfl, ?_⟩) hHeld ?_ ?_
           rotate_left
           ·rintro w' ⟨s0, s1, s2, s3, s4⟩
            go_simp
            with_reducible rfl
           rotate_left
           ·simp only [Gtr.ps]
            rfl
           refine take_ (i := 14) (N := some 76) (v := ?_) (a' := ?_) (Gtr.bb 22 227191) rfl rfl (take_ofW HT_.out HW_.out (by kernel_rfl)) (fun _ _ _ h => h) (Or.inl ⟨by rfl, ?_⟩) hHeld ?_ ?_
           rotate_left
           ·rintro w' ⟨s0, s1, s2, s3, s4⟩
            go_simp
            with_reducible rfl
           rotate_left
           ·simp only [Gtr.ps]
            rfl
           refine take_ (i := 18) (N := some 80) (v := ?_) (a' := ?_) (Gtr.bb 22 489335) rfl rfl (take_ofW HT_.out HW_.out (by kernel_rfl)) (fun _ _ _ h => h) (Or.inl ⟨by rfl, ?_⟩) hHeld ?_ ?_
           rotate_left
           ·rintro w' ⟨s0, s1, s2, s3, s4⟩
            go_simp
            with_reducible rfl
           rotate_left
           ·simp only [Gtr.ps]
            rfl
           refine one_ (i := 3) (N := some 65) (Gtr.bb 22 489343) rfl rfl (one_of HT_.out (by kernel_rfl)) (by decide) (fun K hK => ?_)
           refine goes_ Tryz.func69 (by kernel_rfl) rfl #[.string (rdOf ByteArray.empty t339 0)] (by rfl) rfl rfl (by (try simp only [List.map_toArray, List.map_cons, List.map_nil]); first | done | rfl | (simp only [List.length_drop, List.length_take]; rfl)) ?_
           with_reducible refine (spec_l17Num.calls k3 (rdOf ByteArray.empty t339 0) t346 _ A32.out).mono ?_
           rintro e w' ⟨rfl, ⟨nd, rfl⟩⟩
           refine ⟨_, rfl, ?_⟩
           refine hK.out _ _ ⟨hHeld.1, hHeld.2.1, hHeld.2.2.1, hHeld.2.2.2.1, hHeld.2.2.2.2⟩ (fun hHeld => ?_)
           clear hK K
           refine norm_ (a' := ?_) ?_ ?_
           rotate_left
           ·show Act.put _ (some 65) _ = _
            simp only [Gtr.ps]
            rfl
           refine one_ (i := 7) (N := some 69) (Gtr.bb 22 489471) rfl rfl (one_of HT_.out (by kernel_rfl)) (by decide) (fun K hK => ?_)
           refine goes_ Tryz.func69 (by kernel_rfl) rfl #[.string (rdOf ByteArray.empty t339 2)] (by rfl) rfl rfl (by (try simp only [List.map_toArray, List.map_cons, List.map_nil]); first | done | rfl | (simp only [List.length_drop, List.length_take]; rfl)) ?_
           with_reducible refine (spec_l17Num.calls k3 (rdOf ByteArray.empty t339 2) t348 _ A34.out).mono ?_
           rintro e w' ⟨rfl, ⟨nd, rfl⟩⟩
           refine ⟨_, rfl, ?_⟩
           refine hK.out _ _ ⟨hHeld.1, hHeld.2.1, hHeld.2.2.1, hHeld.2.2.2.1, hHeld.2.2.2.2⟩ (fun hHeld => ?_)
           clear hK K
           refine norm_ (a' := ?_) ?_ ?_
           rotate_left
           ·show Act.put _ (some 69) _ = _
            simp only [Gtr.ps]
            rfl
           refine one_ (i := 11) (N := some 73) (Gtr.bb 22 491519) rfl rfl (one_of HT_.out (by kernel_rfl)) (by decide) (fun K hK => ?_)
           refine goes_ Tryz.func69 (by kernel_rfl) rfl #[.string (rdOf ByteArray.empty t339 3)] (by rfl) rfl rfl (by (try simp only [List.map_toArray, List.map_cons, List.map_nil]); first | done | rfl | (simp only [List.length_drop, List.length_take]; rfl)) ?_
           with_reducible refine (spec_l17Num.calls k3 (rdOf ByteArray.empty t339 3) t350 _ A36.out).mono ?_
           rintro e w' ⟨rfl, ⟨nd, rfl⟩⟩
           refine ⟨_, rfl, ?_⟩
           refine hK.out _ _ ⟨hHeld.1, hHeld.2.1, hHeld.2.2.1, hHeld.2.2.2.1, hHeld.2.2.2.2⟩ (fun hHeld => ?_)
           clear hK K
           refine norm_ (a' := ?_) ?_ ?_
           rotate_left
           ·show Act.put _ (some 73) _ = _
            simp only [Gtr.ps]
            rfl
           refine one_ (i := 15) (N := some 77) (Gtr.bb 22 524287) rfl rfl (one_of HT_.out (by kernel_rfl)) (by decide) (fun K hK => ?_)
           refine goes_ Tryz.func69 (by kernel_rfl) rfl #[.string (rdOf ByteArray.empty t339 4)] (by rfl) rfl rfl (by (try simp only [List.map_toArray, List.map_cons, List.map_nil]); first | done | rfl | (simp only [List.length_drop, List.length_take]; rfl)) ?_
           with_reducible refine (spec_l17Num.calls k3 (rdOf ByteArray.empty t339 4) t352 _ A38.out).mono ?_
           rintro e w' ⟨rfl, ⟨nd, rfl⟩⟩
           refine ⟨_, rfl, ?_⟩
           refine hK.out _ _ ⟨hHeld.1, hHeld.2.1, hHeld.2.2.1, hHeld.2.2.2.1, hHeld.2.2.2.2⟩ (fun hHeld => ?_)
           clear hK K
           refine norm_ (a' := ?_) ?_ ?_
           rotate_left
           ·show Act.put _ (some 77) _ = _
            simp only [Gtr.ps]
            rfl
           refine one_ (i := 19) (N := some 81) (Gtr.bb 22 1048575) rfl rfl (one_of HT_.out (by kernel_rfl)) (by decide) (fun K hK => ?_)
           refine goes_ Tryz.func69 (by kernel_rfl) rfl #[.string (rdOf ByteArray.empty t339 5)] (by rfl) rfl rfl (by (try simp only [List.map_toArray, List.map_cons, List.map_nil]); first | done | rfl | (simp only [List.length_drop, List.length_take]; rfl)) ?_
           with_reducible refine (spec_l17Num.calls k3 (rdOf ByteArray.empty t339 5) t354 _ A40.out).mono ?_
           rintro e w' ⟨rfl, ⟨nd, rfl⟩⟩
           refine ⟨_, rfl, ?_⟩
           refine hK.out _ _ ⟨hHeld.1, hHeld.2.1, hHeld.2.2.1, hHeld.2.2.2.1, hHeld.2.2.2.2⟩ (fun hHeld => ?_)
           clear hK K
           refine norm_ (a' := ?_) ?_ ?_
           rotate_left
           ·show Act.put _ (some 81) _ = _
            simp only [Gtr.ps]
            rfl
           refine one_ (i := 20) (N := some 82) (Gtr.bb 22 2097151) rfl rfl (one_of HT_.out (by kernel_rfl)) (by decide) (fun K hK => ?_)
           refine Kd.R_lit_step (Kd.int .i64) _ 3 ?hg (N := 82) ?hd (xs := ([t346, t348, t350, t352, t354] : List Int)) (inner := [.int .i64 t346, .int .i64 t348, .int .i64 t350, .int .i64 t352, .int .i64 t354]) (ok := fun _ => True) (okp := fun _ => True) ?hr ?hp (fun _ hk => hk) trivial (Below.refl _ _) (Nat.le_refl _) (by simp) ?_; (case hd => rfl); (case hg => rfl); (case hr => first | (go_simp; done) | (go_simp; rfl)); (case hp => exact (Reps.one (show Kd.M (Kd.int .i64) _ _ _ t346 [.int .i64 t346] from rfl) (Reps.one (show Kd.M (Kd.int .i64) _ _ _ t348 [.int .i64 t348] from rfl) (Reps.one (show Kd.M (Kd.int .i64) _ _ _ t350 [.int .i64 t350] from rfl) (Reps.one (show Kd.M (Kd.int .i64) _ _ _ t352 [.int .i64 t352] from rfl) (Reps.one (show Kd.M (Kd.int .i64) _ _ _ t354 [.int .i64 t354] from rfl) (Reps.none _ _)))))))
           intro v356 w72 ho73 hb hg_ hnew_
           have HS0_ := (hb.cell (World.block_lt_of_cell? _ _ (hHeld.1))).trans (hHeld.1)
           have HS1_ := (hb.cell (World.block_lt_of_cell? _ _ (hHeld.2.1))).trans (hHeld.2.1)
           have HS2_ := (hb.cell (World.block_lt_of_cell? _ _ (hHeld.2.2.1))).trans (hHeld.2.2.1)
           have HS3_ := (hb.cell (World.block_lt_of_cell? _ _ (hHeld.2.2.2.1))).trans (hHeld.2.2.2.1)
           have HS4_ := (hb.cell (World.block_lt_of_cell? _ _ (hHeld.2.2.2.2))).trans (hHeld.2.2.2.2)
           clear hg_ hnew_
           (first | rw [← Ny355.out] at ho73 | (simp only [Int.reduceToNat] at ho73; rw [← Ny355.out] at ho73))
           have n0_ := Aside0.mk (Kd.R_below (by (with_reducible repeat (first | apply Kd.R_alloc | apply Kd.R_drewN | apply Kd.R_drew)); exact HO_8.out) hb)
           have n1_ := Aside0.mk (Kd.R_below (by (with_reducible repeat (first | apply Kd.R_alloc | apply Kd.R_drewN | apply Kd.R_drew)); exact HO_47.out) hb)
           have n2_ := Aside0.mk (Kd.R_below (by (with_reducible repeat (first | apply Kd.R_alloc | apply Kd.R_drewN | apply Kd.R_drew)); exact HO341.out) hb)
           have n3_ := Aside0.mk (Kd.R_lower ho73 (below_size (Gtr.bw HB.out)))
           have n4_ := Aside0.mk (below_step (Gtr.bw HB.out) hb)
           clear HO_8
           clear HO_47
           clear HO341
           clear HB
           have HO_8 := n0_
           have HO_47 := n1_
           have HO341 := n2_
           have HO357 := n3_
           have HB := n4_
           clear n0_ n1_ n2_ n3_ n4_
           clear hb ho73
           refine hK.out _ _ ⟨HS0_, HS1_, HS2_, HS3_, HS4_⟩ (fun hHeld => ?_)
           clear hK K
           refine norm_ (a' := ?_) ?_ ?_
           rotate_left
           ·show Act.put _ (some 82) _ = _
            simp only [Gtr.ps]
            rfl
           refine pure_ (i := 21) (N := some 14) (v := ?_) (a' := ?_) (Gtr.bb 22 4194303) rfl rfl (any_of HT_.out (by kernel_rfl)) (fun _ _ _ h => h) (Or.inl ⟨by rfl, ?_⟩) ?_ ?_
           rotate_left
           ·intro w'
            go_simp
            with_reducible rfl
           rotate_left
           ·simp only [Gtr.ps]
            rfl
           refine done_ (done_of HT_.out (by kernel_rfl)) ?_
           try go_wp2
           go_ret3
           exact ⟨_, by first | rfl | (simp [errW_none, errW_some] <;> rfl) | (simp only [← hji10]; first | rfl | (simp [errW_none, errW_some] <;> rfl)) | (simp [*, errW_none, errW_some] <;> rfl), by first | exact Kd.R_nil _ _ _ _ _ | exact Kd.N_nil _ _ _ _ _ | exact Kd.V_nil _ _ _ _ _ | exact Kd.Q_nil _ _ _ _ _ | exact Kd.S_nil _ _ _ _ _, (Gtr.bw HB.out)⟩
         ·rw [if_neg c25] at H
          have c25b0 : decide (x49_3 < (t330.length : Int)) = false := decide_eq_false c25
          clear c25
          replace H := Option.bind_eq_some_iff.mp H
          obtain ⟨t337, A740, H⟩ := H
          try dsimp only at H
          have A74 := Aside0.mk A740
          clear A740
          by_cases c75 : t337 = true
          ·subst c75
           have H1 := H
           rw [if_pos rfl] at H1
           clear H
           have H := H1
           clear H1
           simp only [Option.some.injEq, Prod.mk.injEq] at H
           obtain ⟨rfl, rfl, rfl⟩ := H
           obtain ⟨Ao76, co76, eo76⟩ := Kd.R_slice HO_8.out
           subst eo76
           go_wp2_with (first | ((with_reducible refine gate_callee (f := 56) rfl ?_); refine goesL_ (some 118) rfl rfl Tryz.func56 (by kernel_rfl) rfl #[.slice Ao76 x8_3.length co76] rfl (by (try simp only [List.map_toArray, List.map_cons, List.map_nil]); first | done | rfl | (simp only [List.length_drop, List.length_take]; rfl)) ?_; (with_reducible refine (spec_l17Good.calls k3 _ _ x8_3 true _ ?side1 ?side2 A74.out).mono ?_); (case side1 => repeat (first | exact (Kd.R_reads' HO_8.out).2.2 | (with_reducible refine Kd.C_alloc ?_ _) | (with_reducible refine Kd.C_drewN ?_ _) | (with_reducible refine Kd.C_drew ?_))); (case side2 => exact (Kd.R_reads' HO_8.out).2.1); rintro e w77 ⟨rfl, hb⟩; refine ⟨_, rfl, ?_⟩; have n0_ := Aside0.mk (Kd.R_below (by (with_reducible repeat (first | apply Kd.R_alloc | apply Kd.R_drewN | apply Kd.R_drew)); exact HO_8.out) hb); have n1_ := Aside0.mk (Kd.R_below (by (with_reducible repeat (first | apply Kd.R_alloc | apply Kd.R_drewN | apply Kd.R_drew)); exact HO_47.out) hb); have n2_ := Aside0.mk (below_step (Gtr.bw HB.out) hb); clear HO_8; clear HO_47; clear HB; have HO_8 := n0_; have HO_47 := n1_; have HB := n2_; clear n0_ n1_ n2_; (try clear hb); (try clear hb2); (try clear hk); (try clear hi)))
           go_ret3
           exact ⟨_, by first | rfl | (simp [errW_none, errW_some] <;> rfl) | (simp only [← hji10]; first | rfl | (simp [errW_none, errW_some] <;> rfl)) | (simp [*, errW_none, errW_some] <;> rfl), by (with_reducible repeat (first | apply Kd.R_alloc | apply Kd.R_drewN | apply Kd.R_drew)); exact HO_8.out, (Gtr.bw HB.out)⟩
          ·replace c75 := Bool.eq_false_iff.mpr c75
           subst c75
           have H1 : (some (([] : List (S74)), 4, false)) = some (r1, r2, r3) := by rw [if_neg (show ¬ (false = true) by decide)] at H; exact H
           clear H
           have H := H1
           clear H1
           simp only [Option.some.injEq, Prod.mk.injEq] at H
           obtain ⟨rfl, rfl, rfl⟩ := H
           obtain ⟨Ao78, co78, eo78⟩ := Kd.R_slice HO_8.out
           subst eo78
           go_wp2_with (first | ((with_reducible refine gate_callee (f := 56) rfl ?_); refine goesL_ (some 118) rfl rfl Tryz.func56 (by kernel_rfl) rfl #[.slice Ao78 x8_3.length co78] rfl (by (try simp only [List.map_toArray, List.map_cons, List.map_nil]); first | done | rfl | (simp only [List.length_drop, List.length_take]; rfl)) ?_; (with_reducible refine (spec_l17Good.calls k3 _ _ x8_3 false _ ?side1 ?side2 A74.out).mono ?_); (case side1 => repeat (first | exact (Kd.R_reads' HO_8.out).2.2 | (with_reducible refine Kd.C_alloc ?_ _) | (with_reducible refine Kd.C_drewN ?_ _) | (with_reducible refine Kd.C_drew ?_))); (case side2 => exact (Kd.R_reads' HO_8.out).2.1); rintro e w79 ⟨rfl, hb⟩; refine ⟨_, rfl, ?_⟩; have n0_ := Aside0.mk (Kd.R_below (by (with_reducible repeat (first | apply Kd.R_alloc | apply Kd.R_drewN | apply Kd.R_drew)); exact HO_8.out) hb); have n1_ := Aside0.mk (Kd.R_below (by (with_reducible repeat (first | apply Kd.R_alloc | apply Kd.R_drewN | apply Kd.R_drew)); exact HO_47.out) hb); have n2_ := Aside0.mk (below_step (Gtr.bw HB.out) hb); clear HO_8; clear HO_47; clear HB; have HO_8 := n0_; have HO_47 := n1_; have HB := n2_; clear n0_ n1_ n2_; (try clear hb); (try clear hb2); (try clear hk); (try clear hi)))
           go_ret3
           exact ⟨_, by first | rfl | (simp [errW_none, errW_some] <;> rfl) | (simp only [← hji10]; first | rfl | (simp [errW_none, errW_some] <;> rfl)) | (simp [*, errW_none, errW_some] <;> rfl), by first | exact Kd.R_nil _ _ _ _ _ | exact Kd.N_nil _ _ _ _ _ | exact Kd.V_nil _ _ _ _ _ | exact Kd.Q_nil _ _ _ _ _ | exact Kd.S_nil _ _ _ _ _, (Gtr.bw HB.out)⟩
end Go.Proofs.YthhmkbchdiflcaaGreatDoor.Q
