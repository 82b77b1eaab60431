/- Texts of this claim, merged by a program (wip/tools/merge.py): Q115. -/
import Derived.Test.YthhmkbchdiflcaaGreatDoorR1
import Derived.Test.YthhmkbchdiflcaaGreatDoorR2
-- Printed by a program of this session (wip/tools/myprint.py) that runs the kit's print, hand-proved functions among the others.
namespace Go.Proofs.YthhmkbchdiflcaaGreatDoor.Q
open Go.RowKit Go.Proofs.YthhmkbchdiflcaaGreatDoorW.PrintWords Go.Proofs.YthhmkbchdiflcaaGreatDoorW.PrintLast Go.Proofs.YthhmkbchdiflcaaGreatDoorW.PrintMore
attribute [local go_sem] max2_int min2_int max_two min_two max_three min_three max_four min_four   -- for this text's walks alone
set_option linter.unusedVariables false
set_option linter.unusedSimpArgs false

/-! ### laws_heldItemS: function 18 -/
def laws_heldItemS.l0 : Nat → List (S74) → Int → Int → Option (Int)
 | 0, _, _, _ => none
 | k + 1, x0, x1, x5 => if x5 < (x0.length : Int) then (if 0 ≤ x5 then ((laws_markText.f k x1).bind fun t431 => (if ((rd_T74 x0 x5).f0).toList = t431.toList then (if ((rd_T74 x0 x5).f1) = (wrap64 (x1 + 1)) then (if ((rd_T74 x0 x5).f2) = (wrap64 ((wrap64 (x1 + 1)) + 1)) then (if ((rd_T74 x0 x5).f3) = (wrap64 ((wrap64 ((wrap64 (x1 + 1)) + 1)) + 1)) then (if ((rd_T74 x0 x5).f4) = (wrap64 ((wrap64 ((wrap64 ((wrap64 (x1 + 1)) + 1)) + 1)) + 1)) then (if ((rd_T74 x0 x5).f5) = (wrap64 ((wrap64 ((wrap64 ((wrap64 ((wrap64 (x1 + 1)) + 1)) + 1)) + 1)) + 1)) then (if ((rd_T74 x0 x5).f6) = (wrap64 ((wrap64 ((wrap64 ((wrap64 ((wrap64 ((wrap64 (x1 + 1)) + 1)) + 1)) + 1)) + 1)) + 1)) then ((laws_markText.f k (wrap64 ((wrap64 ((wrap64 ((wrap64 ((wrap64 ((wrap64 ((wrap64 (x1 + 1)) + 1)) + 1)) + 1)) + 1)) + 1)) + 1))).bind fun t439 => (if ((rd_T74 x0 x5).f7).toList = t439.toList then (laws_heldItemS.l0 k x0 (wrap64 ((wrap64 ((wrap64 ((wrap64 ((wrap64 ((wrap64 ((wrap64 ((wrap64 (x1 + 1)) + 1)) + 1)) + 1)) + 1)) + 1)) + 1)) + 1)) (wrap64 (x5 + 1))) else (some (-1)))) else (some (-1))) else (some (-1))) else (some (-1))) else (some (-1))) else (some (-1))) else (some (-1))) else (some (-1)))) else (none)) else (some x1)
def laws_heldItemS.f (k : Nat) (l0 : List (S74)) (a1 : Int) : Option (Int) := laws_heldItemS.l0 k l0 a1 0
def laws_heldItemS.T4 : Bool × List (List Nat × List Nat) := (true, [([], []), ([], []), ([0, 1], [0, 1]), ([2], [2]), ([3], [3]), ([], []), ([5], [5]), ([4, 6], [4, 6])])
def laws_heldItemS.B4 : List Nat := [0, 0, 3, 7, 15, 0, 32, 127]
theorem laws_heldItemS.tab4 : rtab .any (opsOf Tryz.f18 4) = laws_heldItemS.T4 := by kernel_rfl
theorem laws_heldItemS.bits4 : waitsOk laws_heldItemS.T4.2 laws_heldItemS.B4 = true := by kernel_rfl
def laws_heldItemS.T25 : Bool × List (List Nat × List Nat) := (true, [([], []), ([], []), ([0, 1], [0, 1]), ([2], [2]), ([3], [3]), ([], []), ([5], [5]), ([4, 6], [4, 6])])
def laws_heldItemS.B25 : List Nat := [0, 0, 3, 7, 15, 0, 32, 127]
theorem laws_heldItemS.tab25 : rtab .any (opsOf Tryz.f18 25) = laws_heldItemS.T25 := by kernel_rfl
theorem laws_heldItemS.bits25 : waitsOk laws_heldItemS.T25.2 laws_heldItemS.B25 = true := by kernel_rfl
set_option maxHeartbeats 8000000 in
set_option maxRecDepth 100000 in
theorem laws_heldItemS.calls (k : Nat) (A0 : Option Addr) (c0 : Nat) (l0 : List (S74)) (a1 : Int) (r : Int) (w : World) (hr0 : Kd.C k74 w A0 l0.length l0) (hc0 : l0.length ≤ c0) (h : laws_heldItemS.f k l0 a1 = some r) :
  Calls Tryz.prog 18 #[.slice A0 l0.length c0, .int .i64 a1] w fun e w' => e = .returned (.int .i64 r) ∧ Below w.heap.size w w' := by
 have HR0 := Aside0.mk hr0
 have HC0 := Aside0.mk hc0
 clear hr0 hc0
 have HB := Aside0.mk (Below.refl w.heap.size w)
 have H : (laws_heldItemS.l0 k l0 a1 0) = some r := h
 clear h
 have H' := Aside0.mk H
 clear H
 go_enter Tryz.func18, Tryz.ntmps18
 go_wp2
 go_loopg [1, 5] k (fun kq v1 v5 w' => ∃ (x1_1 : Int) (x5_1 : Int), v1 = .int .i64 x1_1 ∧ v5 = .int .i64 x5_1 ∧ Aside0 (laws_heldItemS.l0 kq l0 x1_1 x5_1 = some r) ∧ Aside0 (kq ≤ k) ∧ Aside0 (Below w.heap.size w w'))
 case atStart => exact ⟨(a1), (0), (by first | rfl | (simp; done) | (simp [*]; done)), (by first | rfl | (simp; done) | (simp [*]; done)), H', ⟨Nat.le_refl _⟩, ⟨(Gtr.bw HB.out)⟩⟩
 case round =>
  clear H'
  (try clear c1);(try clear p2)
  obtain ⟨x1_1, x5_1, rfl, rfl, HA, HK1, HB⟩ := hrel
  cases gk with
  | zero => exact absurd HA.out (by simp [laws_heldItemS.l0])
  | succ k1 =>
   have H := HA.out
   clear HA
   simp only [laws_heldItemS.l0] at H
   by_cases c3 : x5_1 < (l0.length : Int)
   ·rw [if_pos c3] at H
    have c3b0 : decide (x5_1 < (l0.length : Int)) = true := decide_eq_true c3
    clear c3
    refine Or.elim (Classical.em (0 ≤ x5_1)) (fun c4 => ?_) (fun c4 => by rw [if_neg c4] at H; exact absurd H (by simp))
    rw [if_pos c4] at H
    have c4b0 : decide (0 ≤ x5_1) = true := decide_eq_true c4
    clear c4
    replace H := Option.bind_eq_some_iff.mp H
    obtain ⟨t431, A50, H⟩ := H
    try dsimp only at H
    have A5 := Aside0.mk A50
    clear A50
    by_cases c6 : ((rd_T74 l0 x5_1).f0).toList = t431.toList
    ·rw [if_pos c6] at H
     have c6b0 : (((rd_T74 l0 x5_1).f0).toList == t431.toList) = true := beq_iff_eq.mpr c6
     have c6b1 : (((rd_T74 l0 x5_1).f0).toList != t431.toList) = false := bne_eq_false_iff_eq.mpr c6
     clear c6
     by_cases c7 : ((rd_T74 l0 x5_1).f1) = (wrap64 (x1_1 + 1))
     ·rw [if_pos c7] at H
      have c7b0 : (((rd_T74 l0 x5_1).f1) == (wrap64 (x1_1 + 1))) = true := beq_iff_eq.mpr c7
      have c7b1 : (((rd_T74 l0 x5_1).f1) != (wrap64 (x1_1 + 1))) = false := bne_eq_false_iff_eq.mpr c7
      clear c7
      by_cases c8 : ((rd_T74 l0 x5_1).f2) = (wrap64 ((wrap64 (x1_1 + 1)) + 1))
      ·rw [if_pos c8] at H
       have c8b0 : (((rd_T74 l0 x5_1).f2) == (wrap64 ((wrap64 (x1_1 + 1)) + 1))) = true := beq_iff_eq.mpr c8
       have c8b1 : (((rd_T74 l0 x5_1).f2) != (wrap64 ((wrap64 (x1_1 + 1)) + 1))) = false := bne_eq_false_iff_eq.mpr c8
       clear c8
       by_cases c9 : ((rd_T74 l0 x5_1).f3) = (wrap64 ((wrap64 ((wrap64 (x1_1 + 1)) + 1)) + 1))
       ·rw [if_pos c9] at H
        have c9b0 : (((rd_T74 l0 x5_1).f3) == (wrap64 ((wrap64 ((wrap64 (x1_1 + 1)) + 1)) + 1))) = true := beq_iff_eq.mpr c9
        have c9b1 : (((rd_T74 l0 x5_1).f3) != (wrap64 ((wrap64 ((wrap64 (x1_1 + 1)) + 1)) + 1))) = false := bne_eq_false_iff_eq.mpr c9
        clear c9
        by_cases c10 : ((rd_T74 l0 x5_1).f4) = (wrap64 ((wrap64 ((wrap64 ((wrap64 (x1_1 + 1)) + 1)) + 1)) + 1))
        ·rw [if_pos c10] at H
         have c10b0 : (((rd_T74 l0 x5_1).f4) == (wrap64 ((wrap64 ((wrap64 ((wrap64 (x1_1 + 1)) + 1)) + 1)) + 1))) = true := beq_iff_eq.mpr c10
         have c10b1 : (((rd_T74 l0 x5_1).f4) != (wrap64 ((wrap64 ((wrap64 ((wrap64 (x1_1 + 1)) + 1)) + 1)) + 1))) = false := bne_eq_false_iff_eq.mpr c10
         clear c10
         by_cases c11 : ((rd_T74 l0 x5_1).f5) = (wrap64 ((wrap64 ((wrap64 ((wrap64 ((wrap64 (x1_1 + 1)) + 1)) + 1)) + 1)) + 1))
         ·rw [if_pos c11] at H
          have c11b0 : (((rd_T74 l0 x5_1).f5) == (wrap64 ((wrap64 ((wrap64 ((wrap64 ((wrap64 (x1_1 + 1)) + 1)) + 1)) + 1)) + 1))) = true := beq_iff_eq.mpr c11
          have c11b1 : (((rd_T74 l0 x5_1).f5) != (wrap64 ((wrap64 ((wrap64 ((wrap64 ((wrap64 (x1_1 + 1)) + 1)) + 1)) + 1)) + 1))) = false := bne_eq_false_iff_eq.mpr c11
          clear c11
          by_cases c12 : ((rd_T74 l0 x5_1).f6) = (wrap64 ((wrap64 ((wrap64 ((wrap64 ((wrap64 ((wrap64 (x1_1 + 1)) + 1)) + 1)) + 1)) + 1)) + 1))
          ·rw [if_pos c12] at H
           have c12b0 : (((rd_T74 l0 x5_1).f6) == (wrap64 ((wrap64 ((wrap64 ((wrap64 ((wrap64 ((wrap64 (x1_1 + 1)) + 1)) + 1)) + 1)) + 1)) + 1))) = true := beq_iff_eq.mpr c12
           have c12b1 : (((rd_T74 l0 x5_1).f6) != (wrap64 ((wrap64 ((wrap64 ((wrap64 ((wrap64 ((wrap64 (x1_1 + 1)) + 1)) + 1)) + 1)) + 1)) + 1))) = false := bne_eq_false_iff_eq.mpr c12
           clear c12
           replace H := Option.bind_eq_some_iff.mp H
           obtain ⟨t439, A130, H⟩ := H
           try dsimp only at H
           have A13 := Aside0.mk A130
           clear A130
           by_cases c14 : ((rd_T74 l0 x5_1).f7).toList = t439.toList
           ·rw [if_pos c14] at H
            have c14b0 : (((rd_T74 l0 x5_1).f7).toList == t439.toList) = true := beq_iff_eq.mpr c14
            have c14b1 : (((rd_T74 l0 x5_1).f7).toList != t439.toList) = false := bne_eq_false_iff_eq.mpr c14
            clear c14
            have H' := Aside0.mk H
            clear H
            try go_wp2
            have n0_ := Aside0.mk (below_drew1 HB.out)
            clear HB
            have HB := n0_
            clear n0_
            have p430 : 0 ≤ (x5_1 : Int) := of_decide_eq_true (by first | (with_reducible assumption) | assumption)
            have q430 : x5_1 < (l0.length : Int) := of_decide_eq_true (by first | (with_reducible assumption) | assumption)
            obtain ⟨ad430, e430, hx430_0, hx430_1, hx430_2, hx430_3, hx430_4, hx430_5, hx430_6, hx430_7⟩ := at_T74 HR0.out x5_1 p430 q430
            have hw430_7 := hx430_7
            have hw430_6 := hx430_6
            have hw430_5 := hx430_5
            have hw430_4 := hx430_4
            have hw430_3 := hx430_3
            have hw430_2 := hx430_2
            have hw430_1 := hx430_1
            have hw430_0 := hx430_0
            cases e430
            replace hx430_0 := (HB.out.cell (World.block_lt_of_cell? w _ hx430_0)).trans hx430_0
            replace hx430_1 := (HB.out.cell (World.block_lt_of_cell? w _ hx430_1)).trans hx430_1
            replace hx430_2 := (HB.out.cell (World.block_lt_of_cell? w _ hx430_2)).trans hx430_2
            replace hx430_3 := (HB.out.cell (World.block_lt_of_cell? w _ hx430_3)).trans hx430_3
            replace hx430_4 := (HB.out.cell (World.block_lt_of_cell? w _ hx430_4)).trans hx430_4
            replace hx430_5 := (HB.out.cell (World.block_lt_of_cell? w _ hx430_5)).trans hx430_5
            replace hx430_6 := (HB.out.cell (World.block_lt_of_cell? w _ hx430_6)).trans hx430_6
            replace hx430_7 := (HB.out.cell (World.block_lt_of_cell? w _ hx430_7)).trans hx430_7
            replace p430 := eq_true p430
            replace q430 := eq_true q430
            refine start_ (n := 8) (S := fun w' => w'.cell? (ad430.add ((x5_1).toNat * 8)) = some (.string ((rd_T74 l0 x5_1).f0)) ∧ w'.cell? ⟨(ad430.add ((x5_1).toNat * 8)).block, (ad430.add ((x5_1).toNat * 8)).off + 1, none⟩ = some (.int .i64 ((rd_T74 l0 x5_1).f1)) ∧ w'.cell? ⟨(ad430.add ((x5_1).toNat * 8)).block, (ad430.add ((x5_1).toNat * 8)).off + 2, none⟩ = some (.int .i64 ((rd_T74 l0 x5_1).f2)) ∧ w'.cell? ⟨(ad430.add ((x5_1).toNat * 8)).block, (ad430.add ((x5_1).toNat * 8)).off + 3, none⟩ = some (.int .i64 ((rd_T74 l0 x5_1).f3)) ∧ w'.cell? ⟨(ad430.add ((x5_1).toNat * 8)).block, (ad430.add ((x5_1).toNat * 8)).off + 4, none⟩ = some (.int .i64 ((rd_T74 l0 x5_1).f4)) ∧ w'.cell? ⟨(ad430.add ((x5_1).toNat * 8)).block, (ad430.add ((x5_1).toNat * 8)).off + 5, none⟩ = some (.int .i64 ((rd_T74 l0 x5_1).f5)) ∧ w'.cell? ⟨(ad430.add ((x5_1).toNat * 8)).block, (ad430.add ((x5_1).toNat * 8)).off + 6, none⟩ = some (.int .i64 ((rd_T74 l0 x5_1).f6)) ∧ w'.cell? ⟨(ad430.add ((x5_1).toNat * 8)).block, (ad430.add ((x5_1).toNat * 8)).off + 7, none⟩ = some (.string ((rd_T74 l0 x5_1).f7))) (ds := []) (Gtr.bb 8 0) (by kernel_rfl) rfl rfl ⟨((HB.out.cell (World.block_lt_of_cell? w _ hw430_0)).trans hw430_0), ((HB.out.cell (World.block_lt_of_cell? w _ hw430_1)).trans hw430_1), ((HB.out.cell (World.block_lt_of_cell? w _ hw430_2)).trans hw430_2), ((HB.out.cell (World.block_lt_of_cell? w _ hw430_3)).trans hw430_3), ((HB.out.cell (World.block_lt_of_cell? w _ hw430_4)).trans hw430_4), ((HB.out.cell (World.block_lt_of_cell? w _ hw430_5)).trans hw430_5), ((HB.out.cell (World.block_lt_of_cell? w _ hw430_6)).trans hw430_6), ((HB.out.cell (World.block_lt_of_cell? w _ hw430_7)).trans hw430_7)⟩ (fun hHeld => ?_); refine with_tabW laws_heldItemS.tab4 laws_heldItemS.bits4 (fun HT_ HW_ => ?_)
            generalize wr.drew = w15 at HB hx430_0 hx430_1 hx430_2 hx430_3 hx430_4 hx430_5 hx430_6 hx430_7 hHeld ⊢
            refine pure_ (i := 0) (N := some 12) (v := ?_) (a' := ?_) (Gtr.bb 8 1) rfl rfl (any_of HT_.out (by kernel_rfl)) (fun _ _ _ h => h) (Or.inl ⟨by rfl, ?_⟩) ?_ ?_
            rotate_left
            ·intro w'
             go_simp
             with_reducible rfl
            rotate_left
            ·simp only [Gtr.ps]
             rfl
            refine pure_ (i := 1) (N := some 13) (v := ?_) (a' := ?_) (Gtr.bb 8 3) rfl rfl (any_of HT_.out (by kernel_rfl)) (fun _ _ _ h => h) (Or.inl ⟨by rfl, ?_⟩) ?_ ?_
            rotate_left
            ·intro w'
             go_simp
             with_reducible rfl
            rotate_left
            ·simp only [Gtr.ps]
             rfl
            refine pure_ (i := 2) (N := some 14) (v := ?_) (a' := ?_) (Gtr.bb 8 7) rfl rfl (any_of HT_.out (by kernel_rfl)) (fun _ _ _ h => h) (Or.inl ⟨by rfl, ?_⟩) ?_ ?_
            rotate_left
            ·intro w'
             go_simp
             with_reducible rfl
            rotate_left
            ·simp only [Gtr.ps]
             rfl
            refine pure_ (i := 3) (N := some 15) (v := ?_) (a' := ?_) (Gtr.bb 8 15) rfl rfl (any_of HT_.out (by kernel_rfl)) (fun _ _ _ h => h) (Or.inl ⟨by rfl, ?_⟩) ?_ ?_
            rotate_left
            ·intro w'
             go_simp
             with_reducible rfl
            rotate_left
            ·simp only [Gtr.ps]
             rfl
            refine pure_ (i := 5) (N := some 17) (v := ?_) (a' := ?_) (Gtr.bb 8 47) rfl rfl (any_of HT_.out (by kernel_rfl)) (fun _ _ _ h => h) (Or.inl ⟨by rfl, ?_⟩) ?_ ?_
            rotate_left
            ·intro w'
             go_simp
             with_reducible rfl
            rotate_left
            ·simp only [Gtr.ps]
             rfl
            refine take_ (i := 4) (N := some 16) (v := ?_) (a' := ?_) (Gtr.bb 8 63) rfl rfl (take_ofW HT_.out HW_.out (by kernel_rfl)) (fun _ _ _ h => h) (Or.inl ⟨by rfl, ?_⟩) hHeld ?_ ?_
            rotate_left
            ·rintro w' ⟨s0, s1, s2, s3, s4, s5, s6, s7⟩
             go_simp
             with_reducible rfl
            rotate_left
            ·simp only [Gtr.ps]
             rfl
            refine one_ (i := 6) (N := some 18) (Gtr.bb 8 127) rfl rfl (one_of HT_.out (by kernel_rfl)) (by decide) (fun K hK => ?_)
            refine goes_ Tryz.func74 (by kernel_rfl) rfl #[.int .i64 x1_1] (by rfl) rfl rfl (by (try simp only [List.map_toArray, List.map_cons, List.map_nil]); first | done | rfl | (simp only [List.length_drop, List.length_take]; rfl)) ?_
            with_reducible refine (laws_markText.calls k1 x1_1 t431 _ A5.out).mono ?_
            rintro e w16 ⟨rfl, hb⟩
            refine ⟨_, rfl, ?_⟩
            have n0_ := Aside0.mk (below_step (Gtr.bw HB.out) hb)
            clear HB
            have HB := n0_
            clear n0_
            (try clear hb);(try clear hb2);(try clear hk);(try clear hi)
            refine hK.out _ _ ⟨((HB.out.cell (World.block_lt_of_cell? w _ hw430_0)).trans hw430_0), ((HB.out.cell (World.block_lt_of_cell? w _ hw430_1)).trans hw430_1), ((HB.out.cell (World.block_lt_of_cell? w _ hw430_2)).trans hw430_2), ((HB.out.cell (World.block_lt_of_cell? w _ hw430_3)).trans hw430_3), ((HB.out.cell (World.block_lt_of_cell? w _ hw430_4)).trans hw430_4), ((HB.out.cell (World.block_lt_of_cell? w _ hw430_5)).trans hw430_5), ((HB.out.cell (World.block_lt_of_cell? w _ hw430_6)).trans hw430_6), ((HB.out.cell (World.block_lt_of_cell? w _ hw430_7)).trans hw430_7)⟩ (fun hHeld => ?_)
            clear hK K
            refine norm_ (a' := ?_) ?_ ?_
            rotate_left
            ·show Act.put _ (some 18) _ = _
             simp only [Gtr.ps]
             rfl
            refine pure_ (i := 7) (N := some 19) (v := ?_) (a' := ?_) (Gtr.bb 8 255) rfl rfl (any_of HT_.out (by kernel_rfl)) (fun _ _ _ h => h) (Or.inl ⟨by rfl, ?_⟩) ?_ ?_
            rotate_left
            ·intro w'
             go_simp
             with_reducible rfl
            rotate_left
            ·simp only [Gtr.ps]
             rfl
            refine done_ (done_of HT_.out (by kernel_rfl)) ?_
            have p432 : 0 ≤ (x5_1 : Int) := of_decide_eq_true (by first | (with_reducible assumption) | assumption)
            have q432 : x5_1 < (l0.length : Int) := of_decide_eq_true (by first | (with_reducible assumption) | assumption)
            obtain ⟨ad432, e432, hx432_0, hx432_1, hx432_2, hx432_3, hx432_4, hx432_5, hx432_6, hx432_7⟩ := at_T74 HR0.out x5_1 p432 q432
            obtain rfl : ad430 = ad432 := (by injection e432)
            replace hx432_0 := (HB.out.cell (World.block_lt_of_cell? w _ hx432_0)).trans hx432_0
            replace hx432_1 := (HB.out.cell (World.block_lt_of_cell? w _ hx432_1)).trans hx432_1
            replace hx432_2 := (HB.out.cell (World.block_lt_of_cell? w _ hx432_2)).trans hx432_2
            replace hx432_3 := (HB.out.cell (World.block_lt_of_cell? w _ hx432_3)).trans hx432_3
            replace hx432_4 := (HB.out.cell (World.block_lt_of_cell? w _ hx432_4)).trans hx432_4
            replace hx432_5 := (HB.out.cell (World.block_lt_of_cell? w _ hx432_5)).trans hx432_5
            replace hx432_6 := (HB.out.cell (World.block_lt_of_cell? w _ hx432_6)).trans hx432_6
            replace hx432_7 := (HB.out.cell (World.block_lt_of_cell? w _ hx432_7)).trans hx432_7
            replace p432 := eq_true p432
            replace q432 := eq_true q432
            have p433 : 0 ≤ (x5_1 : Int) := of_decide_eq_true (by first | (with_reducible assumption) | assumption)
            have q433 : x5_1 < (l0.length : Int) := of_decide_eq_true (by first | (with_reducible assumption) | assumption)
            obtain ⟨ad433, e433, hx433_0, hx433_1, hx433_2, hx433_3, hx433_4, hx433_5, hx433_6, hx433_7⟩ := at_T74 HR0.out x5_1 p433 q433
            obtain rfl : ad430 = ad433 := (by injection e433)
            replace hx433_0 := (HB.out.cell (World.block_lt_of_cell? w _ hx433_0)).trans hx433_0
            replace hx433_1 := (HB.out.cell (World.block_lt_of_cell? w _ hx433_1)).trans hx433_1
            replace hx433_2 := (HB.out.cell (World.block_lt_of_cell? w _ hx433_2)).trans hx433_2
            replace hx433_3 := (HB.out.cell (World.block_lt_of_cell? w _ hx433_3)).trans hx433_3
            replace hx433_4 := (HB.out.cell (World.block_lt_of_cell? w _ hx433_4)).trans hx433_4
            replace hx433_5 := (HB.out.cell (World.block_lt_of_cell? w _ hx433_5)).trans hx433_5
            replace hx433_6 := (HB.out.cell (World.block_lt_of_cell? w _ hx433_6)).trans hx433_6
            replace hx433_7 := (HB.out.cell (World.block_lt_of_cell? w _ hx433_7)).trans hx433_7
            replace p433 := eq_true p433
            replace q433 := eq_true q433
            have p434 : 0 ≤ (x5_1 : Int) := of_decide_eq_true (by first | (with_reducible assumption) | assumption)
            have q434 : x5_1 < (l0.length : Int) := of_decide_eq_true (by first | (with_reducible assumption) | assumption)
            obtain ⟨ad434, e434, hx434_0, hx434_1, hx434_2, hx434_3, hx434_4, hx434_5, hx434_6, hx434_7⟩ := at_T74 HR0.out x5_1 p434 q434
            obtain rfl : ad430 = ad434 := (by injection e434)
            replace hx434_0 := (HB.out.cell (World.block_lt_of_cell? w _ hx434_0)).trans hx434_0
            replace hx434_1 := (HB.out.cell (World.block_lt_of_cell? w _ hx434_1)).trans hx434_1
            replace hx434_2 := (HB.out.cell (World.block_lt_of_cell? w _ hx434_2)).trans hx434_2
            replace hx434_3 := (HB.out.cell (World.block_lt_of_cell? w _ hx434_3)).trans hx434_3
            replace hx434_4 := (HB.out.cell (World.block_lt_of_cell? w _ hx434_4)).trans hx434_4
            replace hx434_5 := (HB.out.cell (World.block_lt_of_cell? w _ hx434_5)).trans hx434_5
            replace hx434_6 := (HB.out.cell (World.block_lt_of_cell? w _ hx434_6)).trans hx434_6
            replace hx434_7 := (HB.out.cell (World.block_lt_of_cell? w _ hx434_7)).trans hx434_7
            replace p434 := eq_true p434
            replace q434 := eq_true q434
            have p435 : 0 ≤ (x5_1 : Int) := of_decide_eq_true (by first | (with_reducible assumption) | assumption)
            have q435 : x5_1 < (l0.length : Int) := of_decide_eq_true (by first | (with_reducible assumption) | assumption)
            obtain ⟨ad435, e435, hx435_0, hx435_1, hx435_2, hx435_3, hx435_4, hx435_5, hx435_6, hx435_7⟩ := at_T74 HR0.out x5_1 p435 q435
            obtain rfl : ad430 = ad435 := (by injection e435)
            replace hx435_0 := (HB.out.cell (World.block_lt_of_cell? w _ hx435_0)).trans hx435_0
            replace hx435_1 := (HB.out.cell (World.block_lt_of_cell? w _ hx435_1)).trans hx435_1
            replace hx435_2 := (HB.out.cell (World.block_lt_of_cell? w _ hx435_2)).trans hx435_2
            replace hx435_3 := (HB.out.cell (World.block_lt_of_cell? w _ hx435_3)).trans hx435_3
            replace hx435_4 := (HB.out.cell (World.block_lt_of_cell? w _ hx435_4)).trans hx435_4
            replace hx435_5 := (HB.out.cell (World.block_lt_of_cell? w _ hx435_5)).trans hx435_5
            replace hx435_6 := (HB.out.cell (World.block_lt_of_cell? w _ hx435_6)).trans hx435_6
            replace hx435_7 := (HB.out.cell (World.block_lt_of_cell? w _ hx435_7)).trans hx435_7
            replace p435 := eq_true p435
            replace q435 := eq_true q435
            have p436 : 0 ≤ (x5_1 : Int) := of_decide_eq_true (by first | (with_reducible assumption) | assumption)
            have q436 : x5_1 < (l0.length : Int) := of_decide_eq_true (by first | (with_reducible assumption) | assumption)
            obtain ⟨ad436, e436, hx436_0, hx436_1, hx436_2, hx436_3, hx436_4, hx436_5, hx436_6, hx436_7⟩ := at_T74 HR0.out x5_1 p436 q436
            obtain rfl : ad430 = ad436 := (by injection e436)
            replace hx436_0 := (HB.out.cell (World.block_lt_of_cell? w _ hx436_0)).trans hx436_0
            replace hx436_1 := (HB.out.cell (World.block_lt_of_cell? w _ hx436_1)).trans hx436_1
            replace hx436_2 := (HB.out.cell (World.block_lt_of_cell? w _ hx436_2)).trans hx436_2
            replace hx436_3 := (HB.out.cell (World.block_lt_of_cell? w _ hx436_3)).trans hx436_3
            replace hx436_4 := (HB.out.cell (World.block_lt_of_cell? w _ hx436_4)).trans hx436_4
            replace hx436_5 := (HB.out.cell (World.block_lt_of_cell? w _ hx436_5)).trans hx436_5
            replace hx436_6 := (HB.out.cell (World.block_lt_of_cell? w _ hx436_6)).trans hx436_6
            replace hx436_7 := (HB.out.cell (World.block_lt_of_cell? w _ hx436_7)).trans hx436_7
            replace p436 := eq_true p436
            replace q436 := eq_true q436
            have p437 : 0 ≤ (x5_1 : Int) := of_decide_eq_true (by first | (with_reducible assumption) | assumption)
            have q437 : x5_1 < (l0.length : Int) := of_decide_eq_true (by first | (with_reducible assumption) | assumption)
            obtain ⟨ad437, e437, hx437_0, hx437_1, hx437_2, hx437_3, hx437_4, hx437_5, hx437_6, hx437_7⟩ := at_T74 HR0.out x5_1 p437 q437
            obtain rfl : ad430 = ad437 := (by injection e437)
            replace hx437_0 := (HB.out.cell (World.block_lt_of_cell? w _ hx437_0)).trans hx437_0
            replace hx437_1 := (HB.out.cell (World.block_lt_of_cell? w _ hx437_1)).trans hx437_1
            replace hx437_2 := (HB.out.cell (World.block_lt_of_cell? w _ hx437_2)).trans hx437_2
            replace hx437_3 := (HB.out.cell (World.block_lt_of_cell? w _ hx437_3)).trans hx437_3
            replace hx437_4 := (HB.out.cell (World.block_lt_of_cell? w _ hx437_4)).trans hx437_4
            replace hx437_5 := (HB.out.cell (World.block_lt_of_cell? w _ hx437_5)).trans hx437_5
            replace hx437_6 := (HB.out.cell (World.block_lt_of_cell? w _ hx437_6)).trans hx437_6
            replace hx437_7 := (HB.out.cell (World.block_lt_of_cell? w _ hx437_7)).trans hx437_7
            replace p437 := eq_true p437
            replace q437 := eq_true q437
            try go_wp2
            have n0_ := Aside0.mk (below_drew1 HB.out)
            clear HB
            have HB := n0_
            clear n0_
            have p438 : 0 ≤ (x5_1 : Int) := of_decide_eq_true (by first | (with_reducible assumption) | assumption)
            have q438 : x5_1 < (l0.length : Int) := of_decide_eq_true (by first | (with_reducible assumption) | assumption)
            obtain ⟨ad438, e438, hx438_0, hx438_1, hx438_2, hx438_3, hx438_4, hx438_5, hx438_6, hx438_7⟩ := at_T74 HR0.out x5_1 p438 q438
            have hw438_7 := hx438_7
            have hw438_6 := hx438_6
            have hw438_5 := hx438_5
            have hw438_4 := hx438_4
            have hw438_3 := hx438_3
            have hw438_2 := hx438_2
            have hw438_1 := hx438_1
            have hw438_0 := hx438_0
            obtain rfl : ad430 = ad438 := (by injection e438)
            replace hx438_0 := (HB.out.cell (World.block_lt_of_cell? w _ hx438_0)).trans hx438_0
            replace hx438_1 := (HB.out.cell (World.block_lt_of_cell? w _ hx438_1)).trans hx438_1
            replace hx438_2 := (HB.out.cell (World.block_lt_of_cell? w _ hx438_2)).trans hx438_2
            replace hx438_3 := (HB.out.cell (World.block_lt_of_cell? w _ hx438_3)).trans hx438_3
            replace hx438_4 := (HB.out.cell (World.block_lt_of_cell? w _ hx438_4)).trans hx438_4
            replace hx438_5 := (HB.out.cell (World.block_lt_of_cell? w _ hx438_5)).trans hx438_5
            replace hx438_6 := (HB.out.cell (World.block_lt_of_cell? w _ hx438_6)).trans hx438_6
            replace hx438_7 := (HB.out.cell (World.block_lt_of_cell? w _ hx438_7)).trans hx438_7
            replace p438 := eq_true p438
            replace q438 := eq_true q438
            refine start_ (n := 8) (S := fun w' => w'.cell? (ad430.add ((x5_1).toNat * 8)) = some (.string ((rd_T74 l0 x5_1).f0)) ∧ w'.cell? ⟨(ad430.add ((x5_1).toNat * 8)).block, (ad430.add ((x5_1).toNat * 8)).off + 1, none⟩ = some (.int .i64 ((rd_T74 l0 x5_1).f1)) ∧ w'.cell? ⟨(ad430.add ((x5_1).toNat * 8)).block, (ad430.add ((x5_1).toNat * 8)).off + 2, none⟩ = some (.int .i64 ((rd_T74 l0 x5_1).f2)) ∧ w'.cell? ⟨(ad430.add ((x5_1).toNat * 8)).block, (ad430.add ((x5_1).toNat * 8)).off + 3, none⟩ = some (.int .i64 ((rd_T74 l0 x5_1).f3)) ∧ w'.cell? ⟨(ad430.add ((x5_1).toNat * 8)).block, (ad430.add ((x5_1).toNat * 8)).off + 4, none⟩ = some (.int .i64 ((rd_T74 l0 x5_1).f4)) ∧ w'.cell? ⟨(ad430.add ((x5_1).toNat * 8)).block, (ad430.add ((x5_1).toNat * 8)).off + 5, none⟩ = some (.int .i64 ((rd_T74 l0 x5_1).f5)) ∧ w'.cell? ⟨(ad430.add ((x5_1).toNat * 8)).block, (ad430.add ((x5_1).toNat * 8)).off + 6, none⟩ = some (.int .i64 ((rd_T74 l0 x5_1).f6)) ∧ w'.cell? ⟨(ad430.add ((x5_1).toNat * 8)).block, (ad430.add ((x5_1).toNat * 8)).off + 7, none⟩ = some (.string ((rd_T74 l0 x5_1).f7))) (ds := []) (Gtr.bb 8 0) (by kernel_rfl) rfl rfl ⟨((HB.out.cell (World.block_lt_of_cell? w _ hw438_0)).trans hw438_0), ((HB.out.cell (World.block_lt_of_cell? w _ hw438_1)).trans hw438_1), ((HB.out.cell (World.block_lt_of_cell? w _ hw438_2)).trans hw438_2), ((HB.out.cell (World.block_lt_of_cell? w _ hw438_3)).trans hw438_3), ((HB.out.cell (World.block_lt_of_cell? w _ hw438_4)).trans hw438_4), ((HB.out.cell (World.block_lt_of_cell? w _ hw438_5)).trans hw438_5), ((HB.out.cell (World.block_lt_of_cell? w _ hw438_6)).trans hw438_6), ((HB.out.cell (World.block_lt_of_cell? w _ hw438_7)).trans hw438_7)⟩ (fun hHeld => ?_); refine with_tabW laws_heldItemS.tab25 laws_heldItemS.bits25 (fun HT_ HW_ => ?_)
            generalize w16.drew = w17 at HB hx438_0 hx438_1 hx438_2 hx438_3 hx438_4 hx438_5 hx438_6 hx438_7 hHeld ⊢
            refine pure_ (i := 0) (N := some 76) (v := ?_) (a' := ?_) (Gtr.bb 8 1) rfl rfl (any_of HT_.out (by kernel_rfl)) (fun _ _ _ h => h) (Or.inl ⟨by rfl, ?_⟩) ?_ ?_
            rotate_left
            ·intro w'
             go_simp
             with_reducible rfl
            rotate_left
            ·simp only [Gtr.ps]
             rfl
            refine pure_ (i := 1) (N := some 77) (v := ?_) (a' := ?_) (Gtr.bb 8 3) rfl rfl (any_of HT_.out (by kernel_rfl)) (fun _ _ _ h => h) (Or.inl ⟨by rfl, ?_⟩) ?_ ?_
            rotate_left
            ·intro w'
             go_simp
             with_reducible rfl
            rotate_left
            ·simp only [Gtr.ps]
             rfl
            refine pure_ (i := 2) (N := some 78) (v := ?_) (a' := ?_) (Gtr.bb 8 7) rfl rfl (any_of HT_.out (by kernel_rfl)) (fun _ _ _ h => h) (Or.inl ⟨by rfl, ?_⟩) ?_ ?_
            rotate_left
            ·intro w'
             go_simp
             with_reducible rfl
            rotate_left
            ·simp only [Gtr.ps]
             rfl
            refine pure_ (i := 3) (N := some 79) (v := ?_) (a' := ?_) (Gtr.bb 8 15) rfl rfl (any_of HT_.out (by kernel_rfl)) (fun _ _ _ h => h) (Or.inl ⟨by rfl, ?_⟩) ?_ ?_
            rotate_left
            ·intro w'
             go_simp
             with_reducible rfl
            rotate_left
            ·simp only [Gtr.ps]
             rfl
            refine pure_ (i := 5) (N := some 81) (v := ?_) (a' := ?_) (Gtr.bb 8 47) rfl rfl (any_of HT_.out (by kernel_rfl)) (fun _ _ _ h => h) (Or.inl ⟨by rfl, ?_⟩) ?_ ?_
            rotate_left
            ·intro w'
             go_simp
             with_reducible rfl
            rotate_left
            ·simp only [Gtr.ps]
             rfl
            refine take_ (i := 4) (N := some 80) (v := ?_) (a' := ?_) (Gtr.bb 8 63) rfl rfl (take_ofW HT_.out HW_.out (by kernel_rfl)) (fun _ _ _ h => h) (Or.inl ⟨by rfl, ?_⟩) hHeld ?_ ?_
            rotate_left
            ·rintro w' ⟨s0, s1, s2, s3, s4, s5, s6, s7⟩
             go_simp
             with_reducible rfl
            rotate_left
            ·simp only [Gtr.ps]
             rfl
            refine one_ (i := 6) (N := some 82) (Gtr.bb 8 127) rfl rfl (one_of HT_.out (by kernel_rfl)) (by decide) (fun K hK => ?_)
            refine goes_ Tryz.func74 (by kernel_rfl) rfl #[.int .i64 (wrap64 ((wrap64 ((wrap64 ((wrap64 ((wrap64 ((wrap64 ((wrap64 (x1_1 + 1)) + 1)) + 1)) + 1)) + 1)) + 1)) + 1))] (by rfl) rfl rfl (by (try simp only [List.map_toArray, List.map_cons, List.map_nil]); first | done | rfl | (simp only [List.length_drop, List.length_take]; rfl)) ?_
            with_reducible refine (laws_markText.calls k1 (wrap64 ((wrap64 ((wrap64 ((wrap64 ((wrap64 ((wrap64 ((wrap64 (x1_1 + 1)) + 1)) + 1)) + 1)) + 1)) + 1)) + 1)) t439 _ A13.out).mono ?_
            rintro e w18 ⟨rfl, hb⟩
            refine ⟨_, rfl, ?_⟩
            have n0_ := Aside0.mk (below_step (Gtr.bw HB.out) hb)
            clear HB
            have HB := n0_
            clear n0_
            (try clear hb);(try clear hb2);(try clear hk);(try clear hi)
            refine hK.out _ _ ⟨((HB.out.cell (World.block_lt_of_cell? w _ hw438_0)).trans hw438_0), ((HB.out.cell (World.block_lt_of_cell? w _ hw438_1)).trans hw438_1), ((HB.out.cell (World.block_lt_of_cell? w _ hw438_2)).trans hw438_2), ((HB.out.cell (World.block_lt_of_cell? w _ hw438_3)).trans hw438_3), ((HB.out.cell (World.block_lt_of_cell? w _ hw438_4)).trans hw438_4), ((HB.out.cell (World.block_lt_of_cell? w _ hw438_5)).trans hw438_5), ((HB.out.cell (World.block_lt_of_cell? w _ hw438_6)).trans hw438_6), ((HB.out.cell (World.block_lt_of_cell? w _ hw438_7)).trans hw438_7)⟩ (fun hHeld => ?_)
            clear hK K
            refine norm_ (a' := ?_) ?_ ?_
            rotate_left
            ·show Act.put _ (some 82) _ = _
             simp only [Gtr.ps]
             rfl
            refine pure_ (i := 7) (N := some 83) (v := ?_) (a' := ?_) (Gtr.bb 8 255) rfl rfl (any_of HT_.out (by kernel_rfl)) (fun _ _ _ h => h) (Or.inl ⟨by rfl, ?_⟩) ?_ ?_
            rotate_left
            ·intro w'
             go_simp
             with_reducible rfl
            rotate_left
            ·simp only [Gtr.ps]
             rfl
            refine done_ (done_of HT_.out (by kernel_rfl)) ?_
            try go_wp2
            go_roundg k1
            case measure => have := HK1.out; omega
            case rel => exact ⟨(wrap64 ((wrap64 ((wrap64 ((wrap64 ((wrap64 ((wrap64 ((wrap64 ((wrap64 (x1_1 + 1)) + 1)) + 1)) + 1)) + 1)) + 1)) + 1)) + 1)), (wrap64 (x5_1 + 1)), (by first | rfl | (simp; done) | (simp [*]; done)), (by first | rfl | (simp; done) | (simp [*]; done)), H', ⟨by have := HK1.out; omega⟩, ⟨(Gtr.bw HB.out)⟩⟩
           ·rw [if_neg c14] at H
            have c14b0 : (((rd_T74 l0 x5_1).f7).toList == t439.toList) = false := beq_eq_false_iff_ne.mpr c14
            have c14b1 : (((rd_T74 l0 x5_1).f7).toList != t439.toList) = true := bne_iff_ne.mpr c14
            obtain rfl := Option.some.inj H
            try go_wp2
            have n0_ := Aside0.mk (below_drew1 HB.out)
            clear HB
            have HB := n0_
            clear n0_
            have p430 : 0 ≤ (x5_1 : Int) := of_decide_eq_true (by first | (with_reducible assumption) | assumption)
            have q430 : x5_1 < (l0.length : Int) := of_decide_eq_true (by first | (with_reducible assumption) | assumption)
            obtain ⟨ad430, e430, hx430_0, hx430_1, hx430_2, hx430_3, hx430_4, hx430_5, hx430_6, hx430_7⟩ := at_T74 HR0.out x5_1 p430 q430
            have hw430_7 := hx430_7
            have hw430_6 := hx430_6
            have hw430_5 := hx430_5
            have hw430_4 := hx430_4
            have hw430_3 := hx430_3
            have hw430_2 := hx430_2
            have hw430_1 := hx430_1
            have hw430_0 := hx430_0
            cases e430
            replace hx430_0 := (HB.out.cell (World.block_lt_of_cell? w _ hx430_0)).trans hx430_0
            replace hx430_1 := (HB.out.cell (World.block_lt_of_cell? w _ hx430_1)).trans hx430_1
            replace hx430_2 := (HB.out.cell (World.block_lt_of_cell? w _ hx430_2)).trans hx430_2
            replace hx430_3 := (HB.out.cell (World.block_lt_of_cell? w _ hx430_3)).trans hx430_3
            replace hx430_4 := (HB.out.cell (World.block_lt_of_cell? w _ hx430_4)).trans hx430_4
            replace hx430_5 := (HB.out.cell (World.block_lt_of_cell? w _ hx430_5)).trans hx430_5
            replace hx430_6 := (HB.out.cell (World.block_lt_of_cell? w _ hx430_6)).trans hx430_6
            replace hx430_7 := (HB.out.cell (World.block_lt_of_cell? w _ hx430_7)).trans hx430_7
            replace p430 := eq_true p430
            replace q430 := eq_true q430
            refine start_ (n := 8) (S := fun w' => w'.cell? (ad430.add ((x5_1).toNat * 8)) = some (.string ((rd_T74 l0 x5_1).f0)) ∧ w'.cell? ⟨(ad430.add ((x5_1).toNat * 8)).block, (ad430.add ((x5_1).toNat * 8)).off + 1, none⟩ = some (.int .i64 ((rd_T74 l0 x5_1).f1)) ∧ w'.cell? ⟨(ad430.add ((x5_1).toNat * 8)).block, (ad430.add ((x5_1).toNat * 8)).off + 2, none⟩ = some (.int .i64 ((rd_T74 l0 x5_1).f2)) ∧ w'.cell? ⟨(ad430.add ((x5_1).toNat * 8)).block, (ad430.add ((x5_1).toNat * 8)).off + 3, none⟩ = some (.int .i64 ((rd_T74 l0 x5_1).f3)) ∧ w'.cell? ⟨(ad430.add ((x5_1).toNat * 8)).block, (ad430.add ((x5_1).toNat * 8)).off + 4, none⟩ = some (.int .i64 ((rd_T74 l0 x5_1).f4)) ∧ w'.cell? ⟨(ad430.add ((x5_1).toNat * 8)).block, (ad430.add ((x5_1).toNat * 8)).off + 5, none⟩ = some (.int .i64 ((rd_T74 l0 x5_1).f5)) ∧ w'.cell? ⟨(ad430.add ((x5_1).toNat * 8)).block, (ad430.add ((x5_1).toNat * 8)).off + 6, none⟩ = some (.int .i64 ((rd_T74 l0 x5_1).f6)) ∧ w'.cell? ⟨(ad430.add ((x5_1).toNat * 8)).block, (ad430.add ((x5_1).toNat * 8)).off + 7, none⟩ = some (.string ((rd_T74 l0 x5_1).f7))) (ds := []) (Gtr.bb 8 0) (by kernel_rfl) rfl rfl ⟨((HB.out.cell (World.block_lt_of_cell? w _ hw430_0)).trans hw430_0), ((HB.out.cell (World.block_lt_of_cell? w _ hw430_1)).trans hw430_1), ((HB.out.cell (World.block_lt_of_cell? w _ hw430_2)).trans hw430_2), ((HB.out.cell (World.block_lt_of_cell? w _ hw430_3)).trans hw430_3), ((HB.out.cell (World.block_lt_of_cell? w _ hw430_4)).trans hw430_4), ((HB.out.cell (World.block_lt_of_cell? w _ hw430_5)).trans hw430_5), ((HB.out.cell (World.block_lt_of_cell? w _ hw430_6)).trans hw430_6), ((HB.out.cell (World.block_lt_of_cell? w _ hw430_7)).trans hw430_7)⟩ (fun hHeld => ?_); refine with_tabW laws_heldItemS.tab4 laws_heldItemS.bits4 (fun HT_ HW_ => ?_)
            generalize wr.drew = w19 at HB hx430_0 hx430_1 hx430_2 hx430_3 hx430_4 hx430_5 hx430_6 hx430_7 hHeld ⊢
            refine pure_ (i := 0) (N := some 12) (v := ?_) (a' := ?_) (Gtr.bb 8 1) rfl rfl (any_of HT_.out (by kernel_rfl)) (fun _ _ _ h => h) (Or.inl ⟨by rfl, ?_⟩) ?_ ?_
            rotate_left
            ·intro w'
             go_simp
             with_reducible rfl
            rotate_left
            ·simp only [Gtr.ps]
             rfl
            refine pure_ (i := 1) (N := some 13) (v := ?_) (a' := ?_) (Gtr.bb 8 3) rfl rfl (any_of HT_.out (by kernel_rfl)) (fun _ _ _ h => h) (Or.inl ⟨by rfl, ?_⟩) ?_ ?_
            rotate_left
            ·intro w'
             go_simp
             with_reducible rfl
            rotate_left
            ·simp only [Gtr.ps]
             rfl
            refine pure_ (i := 2) (N := some 14) (v := ?_) (a' := ?_) (Gtr.bb 8 7) rfl rfl (any_of HT_.out (by kernel_rfl)) (fun _ _ _ h => h) (Or.inl ⟨by rfl, ?_⟩) ?_ ?_
            rotate_left
            ·intro w'
             go_simp
             with_reducible rfl
            rotate_left
            ·simp only [Gtr.ps]
             rfl
            refine pure_ (i := 3) (N := some 15) (v := ?_) (a' := ?_) (Gtr.bb 8 15) rfl rfl (any_of HT_.out (by kernel_rfl)) (fun _ _ _ h => h) (Or.inl ⟨by rfl, ?_⟩) ?_ ?_
            rotate_left
            ·intro w'
             go_simp
             with_reducible rfl
            rotate_left
            ·simp only [Gtr.ps]
             rfl
            refine pure_ (i := 5) (N := some 17) (v := ?_) (a' := ?_) (Gtr.bb 8 47) rfl rfl (any_of HT_.out (by kernel_rfl)) (fun _ _ _ h => h) (Or.inl ⟨by rfl, ?_⟩) ?_ ?_
            rotate_left
            ·intro w'
             go_simp
             with_reducible rfl
            rotate_left
            ·simp only [Gtr.ps]
             rfl
            refine take_ (i := 4) (N := some 16) (v := ?_) (a' := ?_) (Gtr.bb 8 63) rfl rfl (take_ofW HT_.out HW_.out (by kernel_rfl)) (fun _ _ _ h => h) (Or.inl ⟨by rfl, ?_⟩) hHeld ?_ ?_
            rotate_left
            ·rintro w' ⟨s0, s1, s2, s3, s4, s5, s6, s7⟩
             go_simp
             with_reducible rfl
            rotate_left
            ·simp only [Gtr.ps]
             rfl
            refine one_ (i := 6) (N := some 18) (Gtr.bb 8 127) rfl rfl (one_of HT_.out (by kernel_rfl)) (by decide) (fun K hK => ?_)
            refine goes_ Tryz.func74 (by kernel_rfl) rfl #[.int .i64 x1_1] (by rfl) rfl rfl (by (try simp only [List.map_toArray, List.map_cons, List.map_nil]); first | done | rfl | (simp only [List.length_drop, List.length_take]; rfl)) ?_
            with_reducible refine (laws_markText.calls k1 x1_1 t431 _ A5.out).mono ?_
            rintro e w20 ⟨rfl, hb⟩
            refine ⟨_, rfl, ?_⟩
            have n0_ := Aside0.mk (below_step (Gtr.bw HB.out) hb)
            clear HB
            have HB := n0_
            clear n0_
            (try clear hb);(try clear hb2);(try clear hk);(try clear hi)
            refine hK.out _ _ ⟨((HB.out.cell (World.block_lt_of_cell? w _ hw430_0)).trans hw430_0), ((HB.out.cell (World.block_lt_of_cell? w _ hw430_1)).trans hw430_1), ((HB.out.cell (World.block_lt_of_cell? w _ hw430_2)).trans hw430_2), ((HB.out.cell (World.block_lt_of_cell? w _ hw430_3)).trans hw430_3), ((HB.out.cell (World.block_lt_of_cell? w _ hw430_4)).trans hw430_4), ((HB.out.cell (World.block_lt_of_cell? w _ hw430_5)).trans hw430_5), ((HB.out.cell (World.block_lt_of_cell? w _ hw430_6)).trans hw430_6), ((HB.out.cell (World.block_lt_of_cell? w _ hw430_7)).trans hw430_7)⟩ (fun hHeld => ?_)
            clear hK K
            refine norm_ (a' := ?_) ?_ ?_
            rotate_left
            ·show Act.put _ (some 18) _ = _
             simp only [Gtr.ps]
             rfl
            refine pure_ (i := 7) (N := some 19) (v := ?_) (a' := ?_) (Gtr.bb 8 255) rfl rfl (any_of HT_.out (by kernel_rfl)) (fun _ _ _ h => h) (Or.inl ⟨by rfl, ?_⟩) ?_ ?_
            rotate_left
            ·intro w'
             go_simp
             with_reducible rfl
            rotate_left
            ·simp only [Gtr.ps]
             rfl
            refine done_ (done_of HT_.out (by kernel_rfl)) ?_
            have p432 : 0 ≤ (x5_1 : Int) := of_decide_eq_true (by first | (with_reducible assumption) | assumption)
            have q432 : x5_1 < (l0.length : Int) := of_decide_eq_true (by first | (with_reducible assumption) | assumption)
            obtain ⟨ad432, e432, hx432_0, hx432_1, hx432_2, hx432_3, hx432_4, hx432_5, hx432_6, hx432_7⟩ := at_T74 HR0.out x5_1 p432 q432
            obtain rfl : ad430 = ad432 := (by injection e432)
            replace hx432_0 := (HB.out.cell (World.block_lt_of_cell? w _ hx432_0)).trans hx432_0
            replace hx432_1 := (HB.out.cell (World.block_lt_of_cell? w _ hx432_1)).trans hx432_1
            replace hx432_2 := (HB.out.cell (World.block_lt_of_cell? w _ hx432_2)).trans hx432_2
            replace hx432_3 := (HB.out.cell (World.block_lt_of_cell? w _ hx432_3)).trans hx432_3
            replace hx432_4 := (HB.out.cell (World.block_lt_of_cell? w _ hx432_4)).trans hx432_4
            replace hx432_5 := (HB.out.cell (World.block_lt_of_cell? w _ hx432_5)).trans hx432_5
            replace hx432_6 := (HB.out.cell (World.block_lt_of_cell? w _ hx432_6)).trans hx432_6
            replace hx432_7 := (HB.out.cell (World.block_lt_of_cell? w _ hx432_7)).trans hx432_7
            replace p432 := eq_true p432
            replace q432 := eq_true q432
            have p433 : 0 ≤ (x5_1 : Int) := of_decide_eq_true (by first | (with_reducible assumption) | assumption)
            have q433 : x5_1 < (l0.length : Int) := of_decide_eq_true (by first | (with_reducible assumption) | assumption)
            obtain ⟨ad433, e433, hx433_0, hx433_1, hx433_2, hx433_3, hx433_4, hx433_5, hx433_6, hx433_7⟩ := at_T74 HR0.out x5_1 p433 q433
            obtain rfl : ad430 = ad433 := (by injection e433)
            replace hx433_0 := (HB.out.cell (World.block_lt_of_cell? w _ hx433_0)).trans hx433_0
            replace hx433_1 := (HB.out.cell (World.block_lt_of_cell? w _ hx433_1)).trans hx433_1
            replace hx433_2 := (HB.out.cell (World.block_lt_of_cell? w _ hx433_2)).trans hx433_2
            replace hx433_3 := (HB.out.cell (World.block_lt_of_cell? w _ hx433_3)).trans hx433_3
            replace hx433_4 := (HB.out.cell (World.block_lt_of_cell? w _ hx433_4)).trans hx433_4
            replace hx433_5 := (HB.out.cell (World.block_lt_of_cell? w _ hx433_5)).trans hx433_5
            replace hx433_6 := (HB.out.cell (World.block_lt_of_cell? w _ hx433_6)).trans hx433_6
            replace hx433_7 := (HB.out.cell (World.block_lt_of_cell? w _ hx433_7)).trans hx433_7
            replace p433 := eq_true p433
            replace q433 := eq_true q433
            have p434 : 0 ≤ (x5_1 : Int) := of_decide_eq_true (by first | (with_reducible assumption) | assumption)
            have q434 : x5_1 < (l0.length : Int) := of_decide_eq_true (by first | (with_reducible assumption) | assumption)
            obtain ⟨ad434, e434, hx434_0, hx434_1, hx434_2, hx434_3, hx434_4, hx434_5, hx434_6, hx434_7⟩ := at_T74 HR0.out x5_1 p434 q434
            obtain rfl : ad430 = ad434 := (by injection e434)
            replace hx434_0 := (HB.out.cell (World.block_lt_of_cell? w _ hx434_0)).trans hx434_0
            replace hx434_1 := (HB.out.cell (World.block_lt_of_cell? w _ hx434_1)).trans hx434_1
            replace hx434_2 := (HB.out.cell (World.block_lt_of_cell? w _ hx434_2)).trans hx434_2
            replace hx434_3 := (HB.out.cell (World.block_lt_of_cell? w _ hx434_3)).trans hx434_3
            replace hx434_4 := (HB.out.cell (World.block_lt_of_cell? w _ hx434_4)).trans hx434_4
            replace hx434_5 := (HB.out.cell (World.block_lt_of_cell? w _ hx434_5)).trans hx434_5
            replace hx434_6 := (HB.out.cell (World.block_lt_of_cell? w _ hx434_6)).trans hx434_6
            replace hx434_7 := (HB.out.cell (World.block_lt_of_cell? w _ hx434_7)).trans hx434_7
            replace p434 := eq_true p434
            replace q434 := eq_true q434
            have p435 : 0 ≤ (x5_1 : Int) := of_decide_eq_true (by first | (with_reducible assumption) | assumption)
            have q435 : x5_1 < (l0.length : Int) := of_decide_eq_true (by first | (with_reducible assumption) | assumption)
            obtain ⟨ad435, e435, hx435_0, hx435_1, hx435_2, hx435_3, hx435_4, hx435_5, hx435_6, hx435_7⟩ := at_T74 HR0.out x5_1 p435 q435
            obtain rfl : ad430 = ad435 := (by injection e435)
            replace hx435_0 := (HB.out.cell (World.block_lt_of_cell? w _ hx435_0)).trans hx435_0
            replace hx435_1 := (HB.out.cell (World.block_lt_of_cell? w _ hx435_1)).trans hx435_1
            replace hx435_2 := (HB.out.cell (World.block_lt_of_cell? w _ hx435_2)).trans hx435_2
            replace hx435_3 := (HB.out.cell (World.block_lt_of_cell? w _ hx435_3)).trans hx435_3
            replace hx435_4 := (HB.out.cell (World.block_lt_of_cell? w _ hx435_4)).trans hx435_4
            replace hx435_5 := (HB.out.cell (World.block_lt_of_cell? w _ hx435_5)).trans hx435_5
            replace hx435_6 := (HB.out.cell (World.block_lt_of_cell? w _ hx435_6)).trans hx435_6
            replace hx435_7 := (HB.out.cell (World.block_lt_of_cell? w _ hx435_7)).trans hx435_7
            replace p435 := eq_true p435
            replace q435 := eq_true q435
            have p436 : 0 ≤ (x5_1 : Int) := of_decide_eq_true (by first | (with_reducible assumption) | assumption)
            have q436 : x5_1 < (l0.length : Int) := of_decide_eq_true (by first | (with_reducible assumption) | assumption)
            obtain ⟨ad436, e436, hx436_0, hx436_1, hx436_2, hx436_3, hx436_4, hx436_5, hx436_6, hx436_7⟩ := at_T74 HR0.out x5_1 p436 q436
            obtain rfl : ad430 = ad436 := (by injection e436)
            replace hx436_0 := (HB.out.cell (World.block_lt_of_cell? w _ hx436_0)).trans hx436_0
            replace hx436_1 := (HB.out.cell (World.block_lt_of_cell? w _ hx436_1)).trans hx436_1
            replace hx436_2 := (HB.out.cell (World.block_lt_of_cell? w _ hx436_2)).trans hx436_2
            replace hx436_3 := (HB.out.cell (World.block_lt_of_cell? w _ hx436_3)).trans hx436_3
            replace hx436_4 := (HB.out.cell (World.block_lt_of_cell? w _ hx436_4)).trans hx436_4
            replace hx436_5 := (HB.out.cell (World.block_lt_of_cell? w _ hx436_5)).trans hx436_5
            replace hx436_6 := (HB.out.cell (World.block_lt_of_cell? w _ hx436_6)).trans hx436_6
            replace hx436_7 := (HB.out.cell (World.block_lt_of_cell? w _ hx436_7)).trans hx436_7
            replace p436 := eq_true p436
            replace q436 := eq_true q436
            have p437 : 0 ≤ (x5_1 : Int) := of_decide_eq_true (by first | (with_reducible assumption) | assumption)
            have q437 : x5_1 < (l0.length : Int) := of_decide_eq_true (by first | (with_reducible assumption) | assumption)
            obtain ⟨ad437, e437, hx437_0, hx437_1, hx437_2, hx437_3, hx437_4, hx437_5, hx437_6, hx437_7⟩ := at_T74 HR0.out x5_1 p437 q437
            obtain rfl : ad430 = ad437 := (by injection e437)
            replace hx437_0 := (HB.out.cell (World.block_lt_of_cell? w _ hx437_0)).trans hx437_0
            replace hx437_1 := (HB.out.cell (World.block_lt_of_cell? w _ hx437_1)).trans hx437_1
            replace hx437_2 := (HB.out.cell (World.block_lt_of_cell? w _ hx437_2)).trans hx437_2
            replace hx437_3 := (HB.out.cell (World.block_lt_of_cell? w _ hx437_3)).trans hx437_3
            replace hx437_4 := (HB.out.cell (World.block_lt_of_cell? w _ hx437_4)).trans hx437_4
            replace hx437_5 := (HB.out.cell (World.block_lt_of_cell? w _ hx437_5)).trans hx437_5
            replace hx437_6 := (HB.out.cell (World.block_lt_of_cell? w _ hx437_6)).trans hx437_6
            replace hx437_7 := (HB.out.cell (World.block_lt_of_cell? w _ hx437_7)).trans hx437_7
            replace p437 := eq_true p437
            replace q437 := eq_true q437
            try go_wp2
            have n0_ := Aside0.mk (below_drew1 HB.out)
            clear HB
            have HB := n0_
            clear n0_
            have p438 : 0 ≤ (x5_1 : Int) := of_decide_eq_true (by first | (with_reducible assumption) | assumption)
            have q438 : x5_1 < (l0.length : Int) := of_decide_eq_true (by first | (with_reducible assumption) | assumption)
            obtain ⟨ad438, e438, hx438_0, hx438_1, hx438_2, hx438_3, hx438_4, hx438_5, hx438_6, hx438_7⟩ := at_T74 HR0.out x5_1 p438 q438
            have hw438_7 := hx438_7
            have hw438_6 := hx438_6
            have hw438_5 := hx438_5
            have hw438_4 := hx438_4
            have hw438_3 := hx438_3
            have hw438_2 := hx438_2
            have hw438_1 := hx438_1
            have hw438_0 := hx438_0
            obtain rfl : ad430 = ad438 := (by injection e438)
            replace hx438_0 := (HB.out.cell (World.block_lt_of_cell? w _ hx438_0)).trans hx438_0
            replace hx438_1 := (HB.out.cell (World.block_lt_of_cell? w _ hx438_1)).trans hx438_1
            replace hx438_2 := (HB.out.cell (World.block_lt_of_cell? w _ hx438_2)).trans hx438_2
            replace hx438_3 := (HB.out.cell (World.block_lt_of_cell? w _ hx438_3)).trans hx438_3
            replace hx438_4 := (HB.out.cell (World.block_lt_of_cell? w _ hx438_4)).trans hx438_4
            replace hx438_5 := (HB.out.cell (World.block_lt_of_cell? w _ hx438_5)).trans hx438_5
            replace hx438_6 := (HB.out.cell (World.block_lt_of_cell? w _ hx438_6)).trans hx438_6
            replace hx438_7 := (HB.out.cell (World.block_lt_of_cell? w _ hx438_7)).trans hx438_7
            replace p438 := eq_true p438
            replace q438 := eq_true q438
            refine start_ (n := 8) (S := fun w' => w'.cell? (ad430.add ((x5_1).toNat * 8)) = some (.string ((rd_T74 l0 x5_1).f0)) ∧ w'.cell? ⟨(ad430.add ((x5_1).toNat * 8)).block, (ad430.add ((x5_1).toNat * 8)).off + 1, none⟩ = some (.int .i64 ((rd_T74 l0 x5_1).f1)) ∧ w'.cell? ⟨(ad430.add ((x5_1).toNat * 8)).block, (ad430.add ((x5_1).toNat * 8)).off + 2, none⟩ = some (.int .i64 ((rd_T74 l0 x5_1).f2)) ∧ w'.cell? ⟨(ad430.add ((x5_1).toNat * 8)).block, (ad430.add ((x5_1).toNat * 8)).off + 3, none⟩ = some (.int .i64 ((rd_T74 l0 x5_1).f3)) ∧ w'.cell? ⟨(ad430.add ((x5_1).toNat * 8)).block, (ad430.add ((x5_1).toNat * 8)).off + 4, none⟩ = some (.int .i64 ((rd_T74 l0 x5_1).f4)) ∧ w'.cell? ⟨(ad430.add ((x5_1).toNat * 8)).block, (ad430.add ((x5_1).toNat * 8)).off + 5, none⟩ = some (.int .i64 ((rd_T74 l0 x5_1).f5)) ∧ w'.cell? ⟨(ad430.add ((x5_1).toNat * 8)).block, (ad430.add ((x5_1).toNat * 8)).off + 6, none⟩ = some (.int .i64 ((rd_T74 l0 x5_1).f6)) ∧ w'.cell? ⟨(ad430.add ((x5_1).toNat * 8)).block, (ad430.add ((x5_1).toNat * 8)).off + 7, none⟩ = some (.string ((rd_T74 l0 x5_1).f7))) (ds := []) (Gtr.bb 8 0) (by kernel_rfl) rfl rfl ⟨((HB.out.cell (World.block_lt_of_cell? w _ hw438_0)).trans hw438_0), ((HB.out.cell (World.block_lt_of_cell? w _ hw438_1)).trans hw438_1), ((HB.out.cell (World.block_lt_of_cell? w _ hw438_2)).trans hw438_2), ((HB.out.cell (World.block_lt_of_cell? w _ hw438_3)).trans hw438_3), ((HB.out.cell (World.block_lt_of_cell? w _ hw438_4)).trans hw438_4), ((HB.out.cell (World.block_lt_of_cell? w _ hw438_5)).trans hw438_5), ((HB.out.cell (World.block_lt_of_cell? w _ hw438_6)).trans hw438_6), ((HB.out.cell (World.block_lt_of_cell? w _ hw438_7)).trans hw438_7)⟩ (fun hHeld => ?_); refine with_tabW laws_heldItemS.tab25 laws_heldItemS.bits25 (fun HT_ HW_ => ?_)
            generalize w20.drew = w21 at HB hx438_0 hx438_1 hx438_2 hx438_3 hx438_4 hx438_5 hx438_6 hx438_7 hHeld ⊢
            refine pure_ (i := 0) (N := some 76) (v := ?_) (a' := ?_) (Gtr.bb 8 1) rfl rfl (any_of HT_.out (by kernel_rfl)) (fun _ _ _ h => h) (Or.inl ⟨by rfl, ?_⟩) ?_ ?_
            rotate_left
            ·intro w'
             go_simp
             with_reducible rfl
            rotate_left
            ·simp only [Gtr.ps]
             rfl
            refine pure_ (i := 1) (N := some 77) (v := ?_) (a' := ?_) (Gtr.bb 8 3) rfl rfl (any_of HT_.out (by kernel_rfl)) (fun _ _ _ h => h) (Or.inl ⟨by rfl, ?_⟩) ?_ ?_
            rotate_left
            ·intro w'
             go_simp
             with_reducible rfl
            rotate_left
            ·simp only [Gtr.ps]
             rfl
            refine pure_ (i := 2) (N := some 78) (v := ?_) (a' := ?_) (Gtr.bb 8 7) rfl rfl (any_of HT_.out (by kernel_rfl)) (fun _ _ _ h => h) (Or.inl ⟨by rfl, ?_⟩) ?_ ?_
            rotate_left
            ·intro w'
             go_simp
             with_reducible rfl
            rotate_left
            ·simp only [Gtr.ps]
             rfl
            refine pure_ (i := 3) (N := some 79) (v := ?_) (a' := ?_) (Gtr.bb 8 15) rfl rfl (any_of HT_.out (by kernel_rfl)) (fun _ _ _ h => h) (Or.inl ⟨by rfl, ?_⟩) ?_ ?_
            rotate_left
            ·intro w'
             go_simp
             with_reducible rfl
            rotate_left
            ·simp only [Gtr.ps]
             rfl
            refine pure_ (i := 5) (N := some 81) (v := ?_) (a' := ?_) (Gtr.bb 8 47) rfl rfl (any_of HT_.out (by kernel_rfl)) (fun _ _ _ h => h) (Or.inl ⟨by rfl, ?_⟩) ?_ ?_
            rotate_left
            ·intro w'
             go_simp
             with_reducible rfl
            rotate_left
            ·simp only [Gtr.ps]
             rfl
            refine take_ (i := 4) (N := some 80) (v := ?_) (a' := ?_) (Gtr.bb 8 63) rfl rfl (take_ofW HT_.out HW_.out (by kernel_rfl)) (fun _ _ _ h => h) (Or.inl ⟨by rfl, ?_⟩) hHeld ?_ ?_
            rotate_left
            ·rintro w' ⟨s0, s1, s2, s3, s4, s5, s6, s7⟩
             go_simp
             with_reducible rfl
            rotate_left
            ·simp only [Gtr.ps]
             rfl
            refine one_ (i := 6) (N := some 82) (Gtr.bb 8 127) rfl rfl (one_of HT_.out (by kernel_rfl)) (by decide) (fun K hK => ?_)
            refine goes_ Tryz.func74 (by kernel_rfl) rfl #[.int .i64 (wrap64 ((wrap64 ((wrap64 ((wrap64 ((wrap64 ((wrap64 ((wrap64 (x1_1 + 1)) + 1)) + 1)) + 1)) + 1)) + 1)) + 1))] (by rfl) rfl rfl (by (try simp only [List.map_toArray, List.map_cons, List.map_nil]); first | done | rfl | (simp only [List.length_drop, List.length_take]; rfl)) ?_
            with_reducible refine (laws_markText.calls k1 (wrap64 ((wrap64 ((wrap64 ((wrap64 ((wrap64 ((wrap64 ((wrap64 (x1_1 + 1)) + 1)) + 1)) + 1)) + 1)) + 1)) + 1)) t439 _ A13.out).mono ?_
            rintro e w22 ⟨rfl, hb⟩
            refine ⟨_, rfl, ?_⟩
            have n0_ := Aside0.mk (below_step (Gtr.bw HB.out) hb)
            clear HB
            have HB := n0_
            clear n0_
            (try clear hb);(try clear hb2);(try clear hk);(try clear hi)
            refine hK.out _ _ ⟨((HB.out.cell (World.block_lt_of_cell? w _ hw438_0)).trans hw438_0), ((HB.out.cell (World.block_lt_of_cell? w _ hw438_1)).trans hw438_1), ((HB.out.cell (World.block_lt_of_cell? w _ hw438_2)).trans hw438_2), ((HB.out.cell (World.block_lt_of_cell? w _ hw438_3)).trans hw438_3), ((HB.out.cell (World.block_lt_of_cell? w _ hw438_4)).trans hw438_4), ((HB.out.cell (World.block_lt_of_cell? w _ hw438_5)).trans hw438_5), ((HB.out.cell (World.block_lt_of_cell? w _ hw438_6)).trans hw438_6), ((HB.out.cell (World.block_lt_of_cell? w _ hw438_7)).trans hw438_7)⟩ (fun hHeld => ?_)
            clear hK K
            refine norm_ (a' := ?_) ?_ ?_
            rotate_left
            ·show Act.put _ (some 82) _ = _
             simp only [Gtr.ps]
             rfl
            refine pure_ (i := 7) (N := some 83) (v := ?_) (a' := ?_) (Gtr.bb 8 255) rfl rfl (any_of HT_.out (by kernel_rfl)) (fun _ _ _ h => h) (Or.inl ⟨by rfl, ?_⟩) ?_ ?_
            rotate_left
            ·intro w'
             go_simp
             with_reducible rfl
            rotate_left
            ·simp only [Gtr.ps]
             rfl
            refine done_ (done_of HT_.out (by kernel_rfl)) ?_
            try go_wp2
            go_ret
            exact ⟨by first | rfl | (simp [errW_none, errW_some] <;> rfl) | (simp [*, errW_none, errW_some] <;> rfl), (Gtr.bw HB.out)⟩
          ·rw [if_neg c12] at H
           have c12b0 : (((rd_T74 l0 x5_1).f6) == (wrap64 ((wrap64 ((wrap64 ((wrap64 ((wrap64 ((wrap64 (x1_1 + 1)) + 1)) + 1)) + 1)) + 1)) + 1))) = false := beq_eq_false_iff_ne.mpr c12
           have c12b1 : (((rd_T74 l0 x5_1).f6) != (wrap64 ((wrap64 ((wrap64 ((wrap64 ((wrap64 ((wrap64 (x1_1 + 1)) + 1)) + 1)) + 1)) + 1)) + 1))) = true := bne_iff_ne.mpr c12
           obtain rfl := Option.some.inj H
           try go_wp2
           have n0_ := Aside0.mk (below_drew1 HB.out)
           clear HB
           have HB := n0_
           clear n0_
           have p430 : 0 ≤ (x5_1 : Int) := of_decide_eq_true (by first | (with_reducible assumption) | assumption)
           have q430 : x5_1 < (l0.length : Int) := of_decide_eq_true (by first | (with_reducible assumption) | assumption)
           obtain ⟨ad430, e430, hx430_0, hx430_1, hx430_2, hx430_3, hx430_4, hx430_5, hx430_6, hx430_7⟩ := at_T74 HR0.out x5_1 p430 q430
           have hw430_7 := hx430_7
           have hw430_6 := hx430_6
           have hw430_5 := hx430_5
           have hw430_4 := hx430_4
           have hw430_3 := hx430_3
           have hw430_2 := hx430_2
           have hw430_1 := hx430_1
           have hw430_0 := hx430_0
           cases e430
           replace hx430_0 := (HB.out.cell (World.block_lt_of_cell? w _ hx430_0)).trans hx430_0
           replace hx430_1 := (HB.out.cell (World.block_lt_of_cell? w _ hx430_1)).trans hx430_1
           replace hx430_2 := (HB.out.cell (World.block_lt_of_cell? w _ hx430_2)).trans hx430_2
           replace hx430_3 := (HB.out.cell (World.block_lt_of_cell? w _ hx430_3)).trans hx430_3
           replace hx430_4 := (HB.out.cell (World.block_lt_of_cell? w _ hx430_4)).trans hx430_4
           replace hx430_5 := (HB.out.cell (World.block_lt_of_cell? w _ hx430_5)).trans hx430_5
           replace hx430_6 := (HB.out.cell (World.block_lt_of_cell? w _ hx430_6)).trans hx430_6
           replace hx430_7 := (HB.out.cell (World.block_lt_of_cell? w _ hx430_7)).trans hx430_7
           replace p430 := eq_true p430
           replace q430 := eq_true q430
           refine start_ (n := 8) (S := fun w' => w'.cell? (ad430.add ((x5_1).toNat * 8)) = some (.string ((rd_T74 l0 x5_1).f0)) ∧ w'.cell? ⟨(ad430.add ((x5_1).toNat * 8)).block, (ad430.add ((x5_1).toNat * 8)).off + 1, none⟩ = some (.int .i64 ((rd_T74 l0 x5_1).f1)) ∧ w'.cell? ⟨(ad430.add ((x5_1).toNat * 8)).block, (ad430.add ((x5_1).toNat * 8)).off + 2, none⟩ = some (.int .i64 ((rd_T74 l0 x5_1).f2)) ∧ w'.cell? ⟨(ad430.add ((x5_1).toNat * 8)).block, (ad430.add ((x5_1).toNat * 8)).off + 3, none⟩ = some (.int .i64 ((rd_T74 l0 x5_1).f3)) ∧ w'.cell? ⟨(ad430.add ((x5_1).toNat * 8)).block, (ad430.add ((x5_1).toNat * 8)).off + 4, none⟩ = some (.int .i64 ((rd_T74 l0 x5_1).f4)) ∧ w'.cell? ⟨(ad430.add ((x5_1).toNat * 8)).block, (ad430.add ((x5_1).toNat * 8)).off + 5, none⟩ = some (.int .i64 ((rd_T74 l0 x5_1).f5)) ∧ w'.cell? ⟨(ad430.add ((x5_1).toNat * 8)).block, (ad430.add ((x5_1).toNat * 8)).off + 6, none⟩ = some (.int .i64 ((rd_T74 l0 x5_1).f6)) ∧ w'.cell? ⟨(ad430.add ((x5_1).toNat * 8)).block, (ad430.add ((x5_1).toNat * 8)).off + 7, none⟩ = some (.string ((rd_T74 l0 x5_1).f7))) (ds := []) (Gtr.bb 8 0) (by kernel_rfl) rfl rfl ⟨((HB.out.cell (World.block_lt_of_cell? w _ hw430_0)).trans hw430_0), ((HB.out.cell (World.block_lt_of_cell? w _ hw430_1)).trans hw430_1), ((HB.out.cell (World.block_lt_of_cell? w _ hw430_2)).trans hw430_2), ((HB.out.cell (World.block_lt_of_cell? w _ hw430_3)).trans hw430_3), ((HB.out.cell (World.block_lt_of_cell? w _ hw430_4)).trans hw430_4), ((HB.out.cell (World.block_lt_of_cell? w _ hw430_5)).trans hw430_5), ((HB.out.cell (World.block_lt_of_cell? w _ hw430_6)).trans hw430_6), ((HB.out.cell (World.block_lt_of_cell? w _ hw430_7)).trans hw430_7)⟩ (fun hHeld => ?_); refine with_tabW laws_heldItemS.tab4 laws_heldItemS.bits4 (fun HT_ HW_ => ?_)
           generalize wr.drew = w23 at HB hx430_0 hx430_1 hx430_2 hx430_3 hx430_4 hx430_5 hx430_6 hx430_7 hHeld ⊢
           refine pure_ (i := 0) (N := some 12) (v := ?_) (a' := ?_) (Gtr.bb 8 1) rfl rfl (any_of HT_.out (by kernel_rfl)) (fun _ _ _ h => h) (Or.inl ⟨by rfl, ?_⟩) ?_ ?_
           rotate_left
           ·intro w'
            go_simp
            with_reducible rfl
           rotate_left
           ·simp only [Gtr.ps]
            rfl
           refine pure_ (i := 1) (N := some 13) (v := ?_) (a' := ?_) (Gtr.bb 8 3) rfl rfl (any_of HT_.out (by kernel_rfl)) (fun _ _ _ h => h) (Or.inl ⟨by rfl, ?_⟩) ?_ ?_
           rotate_left
           ·intro w'
            go_simp
            with_reducible rfl
           rotate_left
           ·simp only [Gtr.ps]
            rfl
           refine pure_ (i := 2) (N := some 14) (v := ?_) (a' := ?_) (Gtr.bb 8 7) rfl rfl (any_of HT_.out (by kernel_rfl)) (fun _ _ _ h => h) (Or.inl ⟨by rfl, ?_⟩) ?_ ?_
           rotate_left
           ·intro w'
            go_simp
            with_reducible rfl
           rotate_left
           ·simp only [Gtr.ps]
            rfl
           refine pure_ (i := 3) (N := some 15) (v := ?_) (a' := ?_) (Gtr.bb 8 15) rfl rfl (any_of HT_.out (by kernel_rfl)) (fun _ _ _ h => h) (Or.inl ⟨by rfl, ?_⟩) ?_ ?_
           rotate_left
           ·intro w'
            go_simp
            with_reducible rfl
           rotate_left
           ·simp only [Gtr.ps]
            rfl
           refine pure_ (i := 5) (N := some 17) (v := ?_) (a' := ?_) (Gtr.bb 8 47) rfl rfl (any_of HT_.out (by kernel_rfl)) (fun _ _ _ h => h) (Or.inl ⟨by rfl, ?_⟩) ?_ ?_
           rotate_left
           ·intro w'
            go_simp
            with_reducible rfl
           rotate_left
           ·simp only [Gtr.ps]
            rfl
           refine take_ (i := 4) (N := some 16) (v := ?_) (a' := ?_) (Gtr.bb 8 63) rfl rfl (take_ofW HT_.out HW_.out (by kernel_rfl)) (fun _ _ _ h => h) (Or.inl ⟨by rfl, ?_⟩) hHeld ?_ ?_
           rotate_left
           ·rintro w' ⟨s0, s1, s2, s3, s4, s5, s6, s7⟩
            go_simp
            with_reducible rfl
           rotate_left
           ·simp only [Gtr.ps]
            rfl
           refine one_ (i := 6) (N := some 18) (Gtr.bb 8 127) rfl rfl (one_of HT_.out (by kernel_rfl)) (by decide) (fun K hK => ?_)
           refine goes_ Tryz.func74 (by kernel_rfl) rfl #[.int .i64 x1_1] (by rfl) rfl rfl (by (try simp only [List.map_toArray, List.map_cons, List.map_nil]); first | done | rfl | (simp only [List.length_drop, List.length_take]; rfl)) ?_
           with_reducible refine (laws_markText.calls k1 x1_1 t431 _ A5.out).mono ?_
           rintro e w24 ⟨rfl, hb⟩
           refine ⟨_, rfl, ?_⟩
           have n0_ := Aside0.mk (below_step (Gtr.bw HB.out) hb)
           clear HB
           have HB := n0_
           clear n0_
           (try clear hb);(try clear hb2);(try clear hk);(try clear hi)
           refine hK.out _ _ ⟨((HB.out.cell (World.block_lt_of_cell? w _ hw430_0)).trans hw430_0), ((HB.out.cell (World.block_lt_of_cell? w _ hw430_1)).trans hw430_1), ((HB.out.cell (World.block_lt_of_cell? w _ hw430_2)).trans hw430_2), ((HB.out.cell (World.block_lt_of_cell? w _ hw430_3)).trans hw430_3), ((HB.out.cell (World.block_lt_of_cell? w _ hw430_4)).trans hw430_4), ((HB.out.cell (World.block_lt_of_cell? w _ hw430_5)).trans hw430_5), ((HB.out.cell (World.block_lt_of_cell? w _ hw430_6)).trans hw430_6), ((HB.out.cell (World.block_lt_of_cell? w _ hw430_7)).trans hw430_7)⟩ (fun hHeld => ?_)
           clear hK K
           refine norm_ (a' := ?_) ?_ ?_
           rotate_left
           ·show Act.put _ (some 18) _ = _
            simp only [Gtr.ps]
            rfl
           refine pure_ (i := 7) (N := some 19) (v := ?_) (a' := ?_) (Gtr.bb 8 255) rfl rfl (any_of HT_.out (by kernel_rfl)) (fun _ _ _ h => h) (Or.inl ⟨by rfl, ?_⟩) ?_ ?_
           rotate_left
           ·intro w'
            go_simp
            with_reducible rfl
           rotate_left
           ·simp only [Gtr.ps]
            rfl
           refine done_ (done_of HT_.out (by kernel_rfl)) ?_
           have p432 : 0 ≤ (x5_1 : Int) := of_decide_eq_true (by first | (with_reducible assumption) | assumption)
           have q432 : x5_1 < (l0.length : Int) := of_decide_eq_true (by first | (with_reducible assumption) | assumption)
           obtain ⟨ad432, e432, hx432_0, hx432_1, hx432_2, hx432_3, hx432_4, hx432_5, hx432_6, hx432_7⟩ := at_T74 HR0.out x5_1 p432 q432
           obtain rfl : ad430 = ad432 := (by injection e432)
           replace hx432_0 := (HB.out.cell (World.block_lt_of_cell? w _ hx432_0)).trans hx432_0
           replace hx432_1 := (HB.out.cell (World.block_lt_of_cell? w _ hx432_1)).trans hx432_1
           replace hx432_2 := (HB.out.cell (World.block_lt_of_cell? w _ hx432_2)).trans hx432_2
           replace hx432_3 := (HB.out.cell (World.block_lt_of_cell? w _ hx432_3)).trans hx432_3
           replace hx432_4 := (HB.out.cell (World.block_lt_of_cell? w _ hx432_4)).trans hx432_4
           replace hx432_5 := (HB.out.cell (World.block_lt_of_cell? w _ hx432_5)).trans hx432_5
           replace hx432_6 := (HB.out.cell (World.block_lt_of_cell? w _ hx432_6)).trans hx432_6
           replace hx432_7 := (HB.out.cell (World.block_lt_of_cell? w _ hx432_7)).trans hx432_7
           replace p432 := eq_true p432
           replace q432 := eq_true q432
           have p433 : 0 ≤ (x5_1 : Int) := of_decide_eq_true (by first | (with_reducible assumption) | assumption)
           have q433 : x5_1 < (l0.length : Int) := of_decide_eq_true (by first | (with_reducible assumption) | assumption)
           obtain ⟨ad433, e433, hx433_0, hx433_1, hx433_2, hx433_3, hx433_4, hx433_5, hx433_6, hx433_7⟩ := at_T74 HR0.out x5_1 p433 q433
           obtain rfl : ad430 = ad433 := (by injection e433)
           replace hx433_0 := (HB.out.cell (World.block_lt_of_cell? w _ hx433_0)).trans hx433_0
           replace hx433_1 := (HB.out.cell (World.block_lt_of_cell? w _ hx433_1)).trans hx433_1
           replace hx433_2 := (HB.out.cell (World.block_lt_of_cell? w _ hx433_2)).trans hx433_2
           replace hx433_3 := (HB.out.cell (World.block_lt_of_cell? w _ hx433_3)).trans hx433_3
           replace hx433_4 := (HB.out.cell (World.block_lt_of_cell? w _ hx433_4)).trans hx433_4
           replace hx433_5 := (HB.out.cell (World.block_lt_of_cell? w _ hx433_5)).trans hx433_5
           replace hx433_6 := (HB.out.cell (World.block_lt_of_cell? w _ hx433_6)).trans hx433_6
           replace hx433_7 := (HB.out.cell (World.block_lt_of_cell? w _ hx433_7)).trans hx433_7
           replace p433 := eq_true p433
           replace q433 := eq_true q433
           have p434 : 0 ≤ (x5_1 : Int) := of_decide_eq_true (by first | (with_reducible assumption) | assumption)
           have q434 : x5_1 < (l0.length : Int) := of_decide_eq_true (by first | (with_reducible assumption) | assumption)
           obtain ⟨ad434, e434, hx434_0, hx434_1, hx434_2, hx434_3, hx434_4, hx434_5, hx434_6, hx434_7⟩ := at_T74 HR0.out x5_1 p434 q434
           obtain rfl : ad430 = ad434 := (by injection e434)
           replace hx434_0 := (HB.out.cell (World.block_lt_of_cell? w _ hx434_0)).trans hx434_0
           replace hx434_1 := (HB.out.cell (World.block_lt_of_cell? w _ hx434_1)).trans hx434_1
           replace hx434_2 := (HB.out.cell (World.block_lt_of_cell? w _ hx434_2)).trans hx434_2
           replace hx434_3 := (HB.out.cell (World.block_lt_of_cell? w _ hx434_3)).trans hx434_3
           replace hx434_4 := (HB.out.cell (World.block_lt_of_cell? w _ hx434_4)).trans hx434_4
           replace hx434_5 := (HB.out.cell (World.block_lt_of_cell? w _ hx434_5)).trans hx434_5
           replace hx434_6 := (HB.out.cell (World.block_lt_of_cell? w _ hx434_6)).trans hx434_6
           replace hx434_7 := (HB.out.cell (World.block_lt_of_cell? w _ hx434_7)).trans hx434_7
           replace p434 := eq_true p434
           replace q434 := eq_true q434
           have p435 : 0 ≤ (x5_1 : Int) := of_decide_eq_true (by first | (with_reducible assumption) | assumption)
           have q435 : x5_1 < (l0.length : Int) := of_decide_eq_true (by first | (with_reducible assumption) | assumption)
           obtain ⟨ad435, e435, hx435_0, hx435_1, hx435_2, hx435_3, hx435_4, hx435_5, hx435_6, hx435_7⟩ := at_T74 HR0.out x5_1 p435 q435
           obtain rfl : ad430 = ad435 := (by injection e435)
           replace hx435_0 := (HB.out.cell (World.block_lt_of_cell? w _ hx435_0)).trans hx435_0
           replace hx435_1 := (HB.out.cell (World.block_lt_of_cell? w _ hx435_1)).trans hx435_1
           replace hx435_2 := (HB.out.cell (World.block_lt_of_cell? w _ hx435_2)).trans hx435_2
           replace hx435_3 := (HB.out.cell (World.block_lt_of_cell? w _ hx435_3)).trans hx435_3
           replace hx435_4 := (HB.out.cell (World.block_lt_of_cell? w _ hx435_4)).trans hx435_4
           replace hx435_5 := (HB.out.cell (World.block_lt_of_cell? w _ hx435_5)).trans hx435_5
           replace hx435_6 := (HB.out.cell (World.block_lt_of_cell? w _ hx435_6)).trans hx435_6
           replace hx435_7 := (HB.out.cell (World.block_lt_of_cell? w _ hx435_7)).trans hx435_7
           replace p435 := eq_true p435
           replace q435 := eq_true q435
           have p436 : 0 ≤ (x5_1 : Int) := of_decide_eq_true (by first | (with_reducible assumption) | assumption)
           have q436 : x5_1 < (l0.length : Int) := of_decide_eq_true (by first | (with_reducible assumption) | assumption)
           obtain ⟨ad436, e436, hx436_0, hx436_1, hx436_2, hx436_3, hx436_4, hx436_5, hx436_6, hx436_7⟩ := at_T74 HR0.out x5_1 p436 q436
           obtain rfl : ad430 = ad436 := (by injection e436)
           replace hx436_0 := (HB.out.cell (World.block_lt_of_cell? w _ hx436_0)).trans hx436_0
           replace hx436_1 := (HB.out.cell (World.block_lt_of_cell? w _ hx436_1)).trans hx436_1
           replace hx436_2 := (HB.out.cell (World.block_lt_of_cell? w _ hx436_2)).trans hx436_2
           replace hx436_3 := (HB.out.cell (World.block_lt_of_cell? w _ hx436_3)).trans hx436_3
           replace hx436_4 := (HB.out.cell (World.block_lt_of_cell? w _ hx436_4)).trans hx436_4
           replace hx436_5 := (HB.out.cell (World.block_lt_of_cell? w _ hx436_5)).trans hx436_5
           replace hx436_6 := (HB.out.cell (World.block_lt_of_cell? w _ hx436_6)).trans hx436_6
           replace hx436_7 := (HB.out.cell (World.block_lt_of_cell? w _ hx436_7)).trans hx436_7
           replace p436 := eq_true p436
           replace q436 := eq_true q436
           have p437 : 0 ≤ (x5_1 : Int) := of_decide_eq_true (by first | (with_reducible assumption) | assumption)
           have q437 : x5_1 < (l0.length : Int) := of_decide_eq_true (by first | (with_reducible assumption) | assumption)
           obtain ⟨ad437, e437, hx437_0, hx437_1, hx437_2, hx437_3, hx437_4, hx437_5, hx437_6, hx437_7⟩ := at_T74 HR0.out x5_1 p437 q437
           obtain rfl : ad430 = ad437 := (by injection e437)
           replace hx437_0 := (HB.out.cell (World.block_lt_of_cell? w _ hx437_0)).trans hx437_0
           replace hx437_1 := (HB.out.cell (World.block_lt_of_cell? w _ hx437_1)).trans hx437_1
           replace hx437_2 := (HB.out.cell (World.block_lt_of_cell? w _ hx437_2)).trans hx437_2
           replace hx437_3 := (HB.out.cell (World.block_lt_of_cell? w _ hx437_3)).trans hx437_3
           replace hx437_4 := (HB.out.cell (World.block_lt_of_cell? w _ hx437_4)).trans hx437_4
           replace hx437_5 := (HB.out.cell (World.block_lt_of_cell? w _ hx437_5)).trans hx437_5
           replace hx437_6 := (HB.out.cell (World.block_lt_of_cell? w _ hx437_6)).trans hx437_6
           replace hx437_7 := (HB.out.cell (World.block_lt_of_cell? w _ hx437_7)).trans hx437_7
           replace p437 := eq_true p437
           replace q437 := eq_true q437
           try go_wp2
           go_ret
           exact ⟨by first | rfl | (simp [errW_none, errW_some] <;> rfl) | (simp [*, errW_none, errW_some] <;> rfl), (Gtr.bw HB.out)⟩
         ·rw [if_neg c11] at H
          have c11b0 : (((rd_T74 l0 x5_1).f5) == (wrap64 ((wrap64 ((wrap64 ((wrap64 ((wrap64 (x1_1 + 1)) + 1)) + 1)) + 1)) + 1))) = false := beq_eq_false_iff_ne.mpr c11
          have c11b1 : (((rd_T74 l0 x5_1).f5) != (wrap64 ((wrap64 ((wrap64 ((wrap64 ((wrap64 (x1_1 + 1)) + 1)) + 1)) + 1)) + 1))) = true := bne_iff_ne.mpr c11
          obtain rfl := Option.some.inj H
          try go_wp2
          have n0_ := Aside0.mk (below_drew1 HB.out)
          clear HB
          have HB := n0_
          clear n0_
          have p430 : 0 ≤ (x5_1 : Int) := of_decide_eq_true (by first | (with_reducible assumption) | assumption)
          have q430 : x5_1 < (l0.length : Int) := of_decide_eq_true (by first | (with_reducible assumption) | assumption)
          obtain ⟨ad430, e430, hx430_0, hx430_1, hx430_2, hx430_3, hx430_4, hx430_5, hx430_6, hx430_7⟩ := at_T74 HR0.out x5_1 p430 q430
          have hw430_7 := hx430_7
          have hw430_6 := hx430_6
          have hw430_5 := hx430_5
          have hw430_4 := hx430_4
          have hw430_3 := hx430_3
          have hw430_2 := hx430_2
          have hw430_1 := hx430_1
          have hw430_0 := hx430_0
          cases e430
          replace hx430_0 := (HB.out.cell (World.block_lt_of_cell? w _ hx430_0)).trans hx430_0
          replace hx430_1 := (HB.out.cell (World.block_lt_of_cell? w _ hx430_1)).trans hx430_1
          replace hx430_2 := (HB.out.cell (World.block_lt_of_cell? w _ hx430_2)).trans hx430_2
          replace hx430_3 := (HB.out.cell (World.block_lt_of_cell? w _ hx430_3)).trans hx430_3
          replace hx430_4 := (HB.out.cell (World.block_lt_of_cell? w _ hx430_4)).trans hx430_4
          replace hx430_5 := (HB.out.cell (World.block_lt_of_cell? w _ hx430_5)).trans hx430_5
          replace hx430_6 := (HB.out.cell (World.block_lt_of_cell? w _ hx430_6)).trans hx430_6
          replace hx430_7 := (HB.out.cell (World.block_lt_of_cell? w _ hx430_7)).trans hx430_7
          replace p430 := eq_true p430
          replace q430 := eq_true q430
          refine start_ (n := 8) (S := fun w' => w'.cell? (ad430.add ((x5_1).toNat * 8)) = some (.string ((rd_T74 l0 x5_1).f0)) ∧ w'.cell? ⟨(ad430.add ((x5_1).toNat * 8)).block, (ad430.add ((x5_1).toNat * 8)).off + 1, none⟩ = some (.int .i64 ((rd_T74 l0 x5_1).f1)) ∧ w'.cell? ⟨(ad430.add ((x5_1).toNat * 8)).block, (ad430.add ((x5_1).toNat * 8)).off + 2, none⟩ = some (.int .i64 ((rd_T74 l0 x5_1).f2)) ∧ w'.cell? ⟨(ad430.add ((x5_1).toNat * 8)).block, (ad430.add ((x5_1).toNat * 8)).off + 3, none⟩ = some (.int .i64 ((rd_T74 l0 x5_1).f3)) ∧ w'.cell? ⟨(ad430.add ((x5_1).toNat * 8)).block, (ad430.add ((x5_1).toNat * 8)).off + 4, none⟩ = some (.int .i64 ((rd_T74 l0 x5_1).f4)) ∧ w'.cell? ⟨(ad430.add ((x5_1).toNat * 8)).block, (ad430.add ((x5_1).toNat * 8)).off + 5, none⟩ = some (.int .i64 ((rd_T74 l0 x5_1).f5)) ∧ w'.cell? ⟨(ad430.add ((x5_1).toNat * 8)).block, (ad430.add ((x5_1).toNat * 8)).off + 6, none⟩ = some (.int .i64 ((rd_T74 l0 x5_1).f6)) ∧ w'.cell? ⟨(ad430.add ((x5_1).toNat * 8)).block, (ad430.add ((x5_1).toNat * 8)).off + 7, none⟩ = some (.string ((rd_T74 l0 x5_1).f7))) (ds := []) (Gtr.bb 8 0) (by kernel_rfl) rfl rfl ⟨((HB.out.cell (World.block_lt_of_cell? w _ hw430_0)).trans hw430_0), ((HB.out.cell (World.block_lt_of_cell? w _ hw430_1)).trans hw430_1), ((HB.out.cell (World.block_lt_of_cell? w _ hw430_2)).trans hw430_2), ((HB.out.cell (World.block_lt_of_cell? w _ hw430_3)).trans hw430_3), ((HB.out.cell (World.block_lt_of_cell? w _ hw430_4)).trans hw430_4), ((HB.out.cell (World.block_lt_of_cell? w _ hw430_5)).trans hw430_5), ((HB.out.cell (World.block_lt_of_cell? w _ hw430_6)).trans hw430_6), ((HB.out.cell (World.block_lt_of_cell? w _ hw430_7)).trans hw430_7)⟩ (fun hHeld => ?_); refine with_tabW laws_heldItemS.tab4 laws_heldItemS.bits4 (fun HT_ HW_ => ?_)
          generalize wr.drew = w25 at HB hx430_0 hx430_1 hx430_2 hx430_3 hx430_4 hx430_5 hx430_6 hx430_7 hHeld ⊢
          refine pure_ (i := 0) (N := some 12) (v := ?_) (a' := ?_) (Gtr.bb 8 1) rfl rfl (any_of HT_.out (by kernel_rfl)) (fun _ _ _ h => h) (Or.inl ⟨by rfl, ?_⟩) ?_ ?_
          rotate_left
          ·intro w'
           go_simp
           with_reducible rfl
          rotate_left
          ·simp only [Gtr.ps]
           rfl
          refine pure_ (i := 1) (N := some 13) (v := ?_) (a' := ?_) (Gtr.bb 8 3) rfl rfl (any_of HT_.out (by kernel_rfl)) (fun _ _ _ h => h) (Or.inl ⟨by rfl, ?_⟩) ?_ ?_
          rotate_left
          ·intro w'
           go_simp
           with_reducible rfl
          rotate_left
          ·simp only [Gtr.ps]
           rfl
          refine pure_ (i := 2) (N := some 14) (v := ?_) (a' := ?_) (Gtr.bb 8 7) rfl rfl (any_of HT_.out (by kernel_rfl)) (fun _ _ _ h => h) (Or.inl ⟨by rfl, ?_⟩) ?_ ?_
          rotate_left
          ·intro w'
           go_simp
           with_reducible rfl
          rotate_left
          ·simp only [Gtr.ps]
           rfl
          refine pure_ (i := 3) (N := some 15) (v := ?_) (a' := ?_) (Gtr.bb 8 15) rfl rfl (any_of HT_.out (by kernel_rfl)) (fun _ _ _ h => h) (Or.inl ⟨by rfl, ?_⟩) ?_ ?_
          rotate_left
          ·intro w'
           go_simp
           with_reducible rfl
          rotate_left
          ·simp only [Gtr.ps]
           rfl
          refine pure_ (i := 5) (N := some 17) (v := ?_) (a' := ?_) (Gtr.bb 8 47) rfl rfl (any_of HT_.out (by kernel_rfl)) (fun _ _ _ h => h) (Or.inl ⟨by rfl, ?_⟩) ?_ ?_
          rotate_left
          ·intro w'
           go_simp
           with_reducible rfl
          rotate_left
          ·simp only [Gtr.ps]
           rfl
          refine take_ (i := 4) (N := some 16) (v := ?_) (a' := ?_) (Gtr.bb 8 63) rfl rfl (take_ofW HT_.out HW_.out (by kernel_rfl)) (fun _ _ _ h => h) (Or.inl ⟨by rfl, ?_⟩) hHeld ?_ ?_
          rotate_left
          ·rintro w' ⟨s0, s1, s2, s3, s4, s5, s6, s7⟩
           go_simp
           with_reducible rfl
          rotate_left
          ·simp only [Gtr.ps]
           rfl
          refine one_ (i := 6) (N := some 18) (Gtr.bb 8 127) rfl rfl (one_of HT_.out (by kernel_rfl)) (by decide) (fun K hK => ?_)
          refine goes_ Tryz.func74 (by kernel_rfl) rfl #[.int .i64 x1_1] (by rfl) rfl rfl (by (try simp only [List.map_toArray, List.map_cons, List.map_nil]); first | done | rfl | (simp only [List.length_drop, List.length_take]; rfl)) ?_
          with_reducible refine (laws_markText.calls k1 x1_1 t431 _ A5.out).mono ?_
          rintro e w26 ⟨rfl, hb⟩
          refine ⟨_, rfl, ?_⟩
          have n0_ := Aside0.mk (below_step (Gtr.bw HB.out) hb)
          clear HB
          have HB := n0_
          clear n0_
          (try clear hb);(try clear hb2);(try clear hk);(try clear hi)
          refine hK.out _ _ ⟨((HB.out.cell (World.block_lt_of_cell? w _ hw430_0)).trans hw430_0), ((HB.out.cell (World.block_lt_of_cell? w _ hw430_1)).trans hw430_1), ((HB.out.cell (World.block_lt_of_cell? w _ hw430_2)).trans hw430_2), ((HB.out.cell (World.block_lt_of_cell? w _ hw430_3)).trans hw430_3), ((HB.out.cell (World.block_lt_of_cell? w _ hw430_4)).trans hw430_4), ((HB.out.cell (World.block_lt_of_cell? w _ hw430_5)).trans hw430_5), ((HB.out.cell (World.block_lt_of_cell? w _ hw430_6)).trans hw430_6), ((HB.out.cell (World.block_lt_of_cell? w _ hw430_7)).trans hw430_7)⟩ (fun hHeld => ?_)
          clear hK K
          refine norm_ (a' := ?_) ?_ ?_
          rotate_left
          ·show Act.put _ (some 18) _ = _
           simp only [Gtr.ps]
           rfl
          refine pure_ (i := 7) (N := some 19) (v := ?_) (a' := ?_) (Gtr.bb 8 255) rfl rfl (any_of HT_.out (by kernel_rfl)) (fun _ _ _ h => h) (Or.inl ⟨by rfl, ?_⟩) ?_ ?_
          rotate_left
          ·intro w'
           go_simp
           with_reducible rfl
          rotate_left
          ·simp only [Gtr.ps]
           rfl
          refine done_ (done_of HT_.out (by kernel_rfl)) ?_
          have p432 : 0 ≤ (x5_1 : Int) := of_decide_eq_true (by first | (with_reducible assumption) | assumption)
          have q432 : x5_1 < (l0.length : Int) := of_decide_eq_true (by first | (with_reducible assumption) | assumption)
          obtain ⟨ad432, e432, hx432_0, hx432_1, hx432_2, hx432_3, hx432_4, hx432_5, hx432_6, hx432_7⟩ := at_T74 HR0.out x5_1 p432 q432
          obtain rfl : ad430 = ad432 := (by injection e432)
          replace hx432_0 := (HB.out.cell (World.block_lt_of_cell? w _ hx432_0)).trans hx432_0
          replace hx432_1 := (HB.out.cell (World.block_lt_of_cell? w _ hx432_1)).trans hx432_1
          replace hx432_2 := (HB.out.cell (World.block_lt_of_cell? w _ hx432_2)).trans hx432_2
          replace hx432_3 := (HB.out.cell (World.block_lt_of_cell? w _ hx432_3)).trans hx432_3
          replace hx432_4 := (HB.out.cell (World.block_lt_of_cell? w _ hx432_4)).trans hx432_4
          replace hx432_5 := (HB.out.cell (World.block_lt_of_cell? w _ hx432_5)).trans hx432_5
          replace hx432_6 := (HB.out.cell (World.block_lt_of_cell? w _ hx432_6)).trans hx432_6
          replace hx432_7 := (HB.out.cell (World.block_lt_of_cell? w _ hx432_7)).trans hx432_7
          replace p432 := eq_true p432
          replace q432 := eq_true q432
          have p433 : 0 ≤ (x5_1 : Int) := of_decide_eq_true (by first | (with_reducible assumption) | assumption)
          have q433 : x5_1 < (l0.length : Int) := of_decide_eq_true (by first | (with_reducible assumption) | assumption)
          obtain ⟨ad433, e433, hx433_0, hx433_1, hx433_2, hx433_3, hx433_4, hx433_5, hx433_6, hx433_7⟩ := at_T74 HR0.out x5_1 p433 q433
          obtain rfl : ad430 = ad433 := (by injection e433)
          replace hx433_0 := (HB.out.cell (World.block_lt_of_cell? w _ hx433_0)).trans hx433_0
          replace hx433_1 := (HB.out.cell (World.block_lt_of_cell? w _ hx433_1)).trans hx433_1
          replace hx433_2 := (HB.out.cell (World.block_lt_of_cell? w _ hx433_2)).trans hx433_2
          replace hx433_3 := (HB.out.cell (World.block_lt_of_cell? w _ hx433_3)).trans hx433_3
          replace hx433_4 := (HB.out.cell (World.block_lt_of_cell? w _ hx433_4)).trans hx433_4
          replace hx433_5 := (HB.out.cell (World.block_lt_of_cell? w _ hx433_5)).trans hx433_5
          replace hx433_6 := (HB.out.cell (World.block_lt_of_cell? w _ hx433_6)).trans hx433_6
          replace hx433_7 := (HB.out.cell (World.block_lt_of_cell? w _ hx433_7)).trans hx433_7
          replace p433 := eq_true p433
          replace q433 := eq_true q433
          have p434 : 0 ≤ (x5_1 : Int) := of_decide_eq_true (by first | (with_reducible assumption) | assumption)
          have q434 : x5_1 < (l0.length : Int) := of_decide_eq_true (by first | (with_reducible assumption) | assumption)
          obtain ⟨ad434, e434, hx434_0, hx434_1, hx434_2, hx434_3, hx434_4, hx434_5, hx434_6, hx434_7⟩ := at_T74 HR0.out x5_1 p434 q434
          obtain rfl : ad430 = ad434 := (by injection e434)
          replace hx434_0 := (HB.out.cell (World.block_lt_of_cell? w _ hx434_0)).trans hx434_0
          replace hx434_1 := (HB.out.cell (World.block_lt_of_cell? w _ hx434_1)).trans hx434_1
          replace hx434_2 := (HB.out.cell (World.block_lt_of_cell? w _ hx434_2)).trans hx434_2
          replace hx434_3 := (HB.out.cell (World.block_lt_of_cell? w _ hx434_3)).trans hx434_3
          replace hx434_4 := (HB.out.cell (World.block_lt_of_cell? w _ hx434_4)).trans hx434_4
          replace hx434_5 := (HB.out.cell (World.block_lt_of_cell? w _ hx434_5)).trans hx434_5
          replace hx434_6 := (HB.out.cell (World.block_lt_of_cell? w _ hx434_6)).trans hx434_6
          replace hx434_7 := (HB.out.cell (World.block_lt_of_cell? w _ hx434_7)).trans hx434_7
          replace p434 := eq_true p434
          replace q434 := eq_true q434
          have p435 : 0 ≤ (x5_1 : Int) := of_decide_eq_true (by first | (with_reducible assumption) | assumption)
          have q435 : x5_1 < (l0.length : Int) := of_decide_eq_true (by first | (with_reducible assumption) | assumption)
          obtain ⟨ad435, e435, hx435_0, hx435_1, hx435_2, hx435_3, hx435_4, hx435_5, hx435_6, hx435_7⟩ := at_T74 HR0.out x5_1 p435 q435
          obtain rfl : ad430 = ad435 := (by injection e435)
          replace hx435_0 := (HB.out.cell (World.block_lt_of_cell? w _ hx435_0)).trans hx435_0
          replace hx435_1 := (HB.out.cell (World.block_lt_of_cell? w _ hx435_1)).trans hx435_1
          replace hx435_2 := (HB.out.cell (World.block_lt_of_cell? w _ hx435_2)).trans hx435_2
          replace hx435_3 := (HB.out.cell (World.block_lt_of_cell? w _ hx435_3)).trans hx435_3
          replace hx435_4 := (HB.out.cell (World.block_lt_of_cell? w _ hx435_4)).trans hx435_4
          replace hx435_5 := (HB.out.cell (World.block_lt_of_cell? w _ hx435_5)).trans hx435_5
          replace hx435_6 := (HB.out.cell (World.block_lt_of_cell? w _ hx435_6)).trans hx435_6
          replace hx435_7 := (HB.out.cell (World.block_lt_of_cell? w _ hx435_7)).trans hx435_7
          replace p435 := eq_true p435
          replace q435 := eq_true q435
          have p436 : 0 ≤ (x5_1 : Int) := of_decide_eq_true (by first | (with_reducible assumption) | assumption)
          have q436 : x5_1 < (l0.length : Int) := of_decide_eq_true (by first | (with_reducible assumption) | assumption)
          obtain ⟨ad436, e436, hx436_0, hx436_1, hx436_2, hx436_3, hx436_4, hx436_5, hx436_6, hx436_7⟩ := at_T74 HR0.out x5_1 p436 q436
          obtain rfl : ad430 = ad436 := (by injection e436)
          replace hx436_0 := (HB.out.cell (World.block_lt_of_cell? w _ hx436_0)).trans hx436_0
          replace hx436_1 := (HB.out.cell (World.block_lt_of_cell? w _ hx436_1)).trans hx436_1
          replace hx436_2 := (HB.out.cell (World.block_lt_of_cell? w _ hx436_2)).trans hx436_2
          replace hx436_3 := (HB.out.cell (World.block_lt_of_cell? w _ hx436_3)).trans hx436_3
          replace hx436_4 := (HB.out.cell (World.block_lt_of_cell? w _ hx436_4)).trans hx436_4
          replace hx436_5 := (HB.out.cell (World.block_lt_of_cell? w _ hx436_5)).trans hx436_5
          replace hx436_6 := (HB.out.cell (World.block_lt_of_cell? w _ hx436_6)).trans hx436_6
          replace hx436_7 := (HB.out.cell (World.block_lt_of_cell? w _ hx436_7)).trans hx436_7
          replace p436 := eq_true p436
          replace q436 := eq_true q436
          try go_wp2
          go_ret
          exact ⟨by first | rfl | (simp [errW_none, errW_some] <;> rfl) | (simp [*, errW_none, errW_some] <;> rfl), (Gtr.bw HB.out)⟩
        ·rw [if_neg c10] at H
         have c10b0 : (((rd_T74 l0 x5_1).f4) == (wrap64 ((wrap64 ((wrap64 ((wrap64 (x1_1 + 1)) + 1)) + 1)) + 1))) = false := beq_eq_false_iff_ne.mpr c10
         have c10b1 : (((rd_T74 l0 x5_1).f4) != (wrap64 ((wrap64 ((wrap64 ((wrap64 (x1_1 + 1)) + 1)) + 1)) + 1))) = true := bne_iff_ne.mpr c10
         obtain rfl := Option.some.inj H
         try go_wp2
         have n0_ := Aside0.mk (below_drew1 HB.out)
         clear HB
         have HB := n0_
         clear n0_
         have p430 : 0 ≤ (x5_1 : Int) := of_decide_eq_true (by first | (with_reducible assumption) | assumption)
         have q430 : x5_1 < (l0.length : Int) := of_decide_eq_true (by first | (with_reducible assumption) | assumption)
         obtain ⟨ad430, e430, hx430_0, hx430_1, hx430_2, hx430_3, hx430_4, hx430_5, hx430_6, hx430_7⟩ := at_T74 HR0.out x5_1 p430 q430
         have hw430_7 := hx430_7
         have hw430_6 := hx430_6
         have hw430_5 := hx430_5
         have hw430_4 := hx430_4
         have hw430_3 := hx430_3
         have hw430_2 := hx430_2
         have hw430_1 := hx430_1
         have hw430_0 := hx430_0
         cases e430
         replace hx430_0 := (HB.out.cell (World.block_lt_of_cell? w _ hx430_0)).trans hx430_0
         replace hx430_1 := (HB.out.cell (World.block_lt_of_cell? w _ hx430_1)).trans hx430_1
         replace hx430_2 := (HB.out.cell (World.block_lt_of_cell? w _ hx430_2)).trans hx430_2
         replace hx430_3 := (HB.out.cell (World.block_lt_of_cell? w _ hx430_3)).trans hx430_3
         replace hx430_4 := (HB.out.cell (World.block_lt_of_cell? w _ hx430_4)).trans hx430_4
         replace hx430_5 := (HB.out.cell (World.block_lt_of_cell? w _ hx430_5)).trans hx430_5
         replace hx430_6 := (HB.out.cell (World.block_lt_of_cell? w _ hx430_6)).trans hx430_6
         replace hx430_7 := (HB.out.cell (World.block_lt_of_cell? w _ hx430_7)).trans hx430_7
         replace p430 := eq_true p430
         replace q430 := eq_true q430
         refine start_ (n := 8) (S := fun w' => w'.cell? (ad430.add ((x5_1).toNat * 8)) = some (.string ((rd_T74 l0 x5_1).f0)) ∧ w'.cell? ⟨(ad430.add ((x5_1).toNat * 8)).block, (ad430.add ((x5_1).toNat * 8)).off + 1, none⟩ = some (.int .i64 ((rd_T74 l0 x5_1).f1)) ∧ w'.cell? ⟨(ad430.add ((x5_1).toNat * 8)).block, (ad430.add ((x5_1).toNat * 8)).off + 2, none⟩ = some (.int .i64 ((rd_T74 l0 x5_1).f2)) ∧ w'.cell? ⟨(ad430.add ((x5_1).toNat * 8)).block, (ad430.add ((x5_1).toNat * 8)).off + 3, none⟩ = some (.int .i64 ((rd_T74 l0 x5_1).f3)) ∧ w'.cell? ⟨(ad430.add ((x5_1).toNat * 8)).block, (ad430.add ((x5_1).toNat * 8)).off + 4, none⟩ = some (.int .i64 ((rd_T74 l0 x5_1).f4)) ∧ w'.cell? ⟨(ad430.add ((x5_1).toNat * 8)).block, (ad430.add ((x5_1).toNat * 8)).off + 5, none⟩ = some (.int .i64 ((rd_T74 l0 x5_1).f5)) ∧ w'.cell? ⟨(ad430.add ((x5_1).toNat * 8)).block, (ad430.add ((x5_1).toNat * 8)).off + 6, none⟩ = some (.int .i64 ((rd_T74 l0 x5_1).f6)) ∧ w'.cell? ⟨(ad430.add ((x5_1).toNat * 8)).block, (ad430.add ((x5_1).toNat * 8)).off + 7, none⟩ = some (.string ((rd_T74 l0 x5_1).f7))) (ds := []) (Gtr.bb 8 0) (by kernel_rfl) rfl rfl ⟨((HB.out.cell (World.block_lt_of_cell? w _ hw430_0)).trans hw430_0), ((HB.out.cell (World.block_lt_of_cell? w _ hw430_1)).trans hw430_1), ((HB.out.cell (World.block_lt_of_cell? w _ hw430_2)).trans hw430_2), ((HB.out.cell (World.block_lt_of_cell? w _ hw430_3)).trans hw430_3), ((HB.out.cell (World.block_lt_of_cell? w _ hw430_4)).trans hw430_4), ((HB.out.cell (World.block_lt_of_cell? w _ hw430_5)).trans hw430_5), ((HB.out.cell (World.block_lt_of_cell? w _ hw430_6)).trans hw430_6), ((HB.out.cell (World.block_lt_of_cell? w _ hw430_7)).trans hw430_7)⟩ (fun hHeld => ?_); refine with_tabW laws_heldItemS.tab4 laws_heldItemS.bits4 (fun HT_ HW_ => ?_)
         generalize wr.drew = w27 at HB hx430_0 hx430_1 hx430_2 hx430_3 hx430_4 hx430_5 hx430_6 hx430_7 hHeld ⊢
         refine pure_ (i := 0) (N := some 12) (v := ?_) (a' := ?_) (Gtr.bb 8 1) rfl rfl (any_of HT_.out (by kernel_rfl)) (fun _ _ _ h => h) (Or.inl ⟨by rfl, ?_⟩) ?_ ?_
         rotate_left
         ·intro w'
          go_simp
          with_reducible rfl
         rotate_left
         ·simp only [Gtr.ps]
          rfl
         refine pure_ (i := 1) (N := some 13) (v := ?_) (a' := ?_) (Gtr.bb 8 3) rfl rfl (any_of HT_.out (by kernel_rfl)) (fun _ _ _ h => h) (Or.inl ⟨by rfl, ?_⟩) ?_ ?_
         rotate_left
         ·intro w'
          go_simp
          with_reducible rfl
         rotate_left
         ·simp only [Gtr.ps]
          rfl
         refine pure_ (i := 2) (N := some 14) (v := ?_) (a' := ?_) (Gtr.bb 8 7) rfl rfl (any_of HT_.out (by kernel_rfl)) (fun _ _ _ h => h) (Or.inl ⟨by rfl, ?_⟩) ?_ ?_
         rotate_left
         ·intro w'
          go_simp
          with_reducible rfl
         rotate_left
         ·simp only [Gtr.ps]
          rfl
         refine pure_ (i := 3) (N := some 15) (v := ?_) (a' := ?_) (Gtr.bb 8 15) rfl rfl (any_of HT_.out (by kernel_rfl)) (fun _ _ _ h => h) (Or.inl ⟨by rfl, ?_⟩) ?_ ?_
         rotate_left
         ·intro w'
          go_simp
          with_reducible rfl
         rotate_left
         ·simp only [Gtr.ps]
          rfl
         refine pure_ (i := 5) (N := some 17) (v := ?_) (a' := ?_) (Gtr.bb 8 47) rfl rfl (any_of HT_.out (by kernel_rfl)) (fun _ _ _ h => h) (Or.inl ⟨by rfl, ?_⟩) ?_ ?_
         rotate_left
         ·intro w'
          go_simp
          with_reducible rfl
         rotate_left
         ·simp only [Gtr.ps]
          rfl
         refine take_ (i := 4) (N := some 16) (v := ?_) (a' := ?_) (Gtr.bb 8 63) rfl rfl (take_ofW HT_.out HW_.out (by kernel_rfl)) (fun _ _ _ h => h) (Or.inl ⟨by rfl, ?_⟩) hHeld ?_ ?_
         rotate_left
         ·rintro w' ⟨s0, s1, s2, s3, s4, s5, s6, s7⟩
          go_simp
          with_reducible rfl
         rotate_left
         ·simp only [Gtr.ps]
          rfl
         refine one_ (i := 6) (N := some 18) (Gtr.bb 8 127) rfl rfl (one_of HT_.out (by kernel_rfl)) (by decide) (fun K hK => ?_)
         refine goes_ Tryz.func74 (by kernel_rfl) rfl #[.int .i64 x1_1] (by rfl) rfl rfl (by (try simp only [List.map_toArray, List.map_cons, List.map_nil]); first | done | rfl | (simp only [List.length_drop, List.length_take]; rfl)) ?_
         with_reducible refine (laws_markText.calls k1 x1_1 t431 _ A5.out).mono ?_
         rintro e w28 ⟨rfl, hb⟩
         refine ⟨_, rfl, ?_⟩
         have n0_ := Aside0.mk (below_step (Gtr.bw HB.out) hb)
         clear HB
         have HB := n0_
         clear n0_
         (try clear hb);(try clear hb2);(try clear hk);(try clear hi)
         refine hK.out _ _ ⟨((HB.out.cell (World.block_lt_of_cell? w _ hw430_0)).trans hw430_0), ((HB.out.cell (World.block_lt_of_cell? w _ hw430_1)).trans hw430_1), ((HB.out.cell (World.block_lt_of_cell? w _ hw430_2)).trans hw430_2), ((HB.out.cell (World.block_lt_of_cell? w _ hw430_3)).trans hw430_3), ((HB.out.cell (World.block_lt_of_cell? w _ hw430_4)).trans hw430_4), ((HB.out.cell (World.block_lt_of_cell? w _ hw430_5)).trans hw430_5), ((HB.out.cell (World.block_lt_of_cell? w _ hw430_6)).trans hw430_6), ((HB.out.cell (World.block_lt_of_cell? w _ hw430_7)).trans hw430_7)⟩ (fun hHeld => ?_)
         clear hK K
         refine norm_ (a' := ?_) ?_ ?_
         rotate_left
         ·show Act.put _ (some 18) _ = _
          simp only [Gtr.ps]
          rfl
         refine pure_ (i := 7) (N := some 19) (v := ?_) (a' := ?_) (Gtr.bb 8 255) rfl rfl (any_of HT_.out (by kernel_rfl)) (fun _ _ _ h => h) (Or.inl ⟨by rfl, ?_⟩) ?_ ?_
         rotate_left
         ·intro w'
          go_simp
          with_reducible rfl
         rotate_left
         ·simp only [Gtr.ps]
          rfl
         refine done_ (done_of HT_.out (by kernel_rfl)) ?_
         have p432 : 0 ≤ (x5_1 : Int) := of_decide_eq_true (by first | (with_reducible assumption) | assumption)
         have q432 : x5_1 < (l0.length : Int) := of_decide_eq_true (by first | (with_reducible assumption) | assumption)
         obtain ⟨ad432, e432, hx432_0, hx432_1, hx432_2, hx432_3, hx432_4, hx432_5, hx432_6, hx432_7⟩ := at_T74 HR0.out x5_1 p432 q432
         obtain rfl : ad430 = ad432 := (by injection e432)
         replace hx432_0 := (HB.out.cell (World.block_lt_of_cell? w _ hx432_0)).trans hx432_0
         replace hx432_1 := (HB.out.cell (World.block_lt_of_cell? w _ hx432_1)).trans hx432_1
         replace hx432_2 := (HB.out.cell (World.block_lt_of_cell? w _ hx432_2)).trans hx432_2
         replace hx432_3 := (HB.out.cell (World.block_lt_of_cell? w _ hx432_3)).trans hx432_3
         replace hx432_4 := (HB.out.cell (World.block_lt_of_cell? w _ hx432_4)).trans hx432_4
         replace hx432_5 := (HB.out.cell (World.block_lt_of_cell? w _ hx432_5)).trans hx432_5
         replace hx432_6 := (HB.out.cell (World.block_lt_of_cell? w _ hx432_6)).trans hx432_6
         replace hx432_7 := (HB.out.cell (World.block_lt_of_cell? w _ hx432_7)).trans hx432_7
         replace p432 := eq_true p432
         replace q432 := eq_true q432
         have p433 : 0 ≤ (x5_1 : Int) := of_decide_eq_true (by first | (with_reducible assumption) | assumption)
         have q433 : x5_1 < (l0.length : Int) := of_decide_eq_true (by first | (with_reducible assumption) | assumption)
         obtain ⟨ad433, e433, hx433_0, hx433_1, hx433_2, hx433_3, hx433_4, hx433_5, hx433_6, hx433_7⟩ := at_T74 HR0.out x5_1 p433 q433
         obtain rfl : ad430 = ad433 := (by injection e433)
         replace hx433_0 := (HB.out.cell (World.block_lt_of_cell? w _ hx433_0)).trans hx433_0
         replace hx433_1 := (HB.out.cell (World.block_lt_of_cell? w _ hx433_1)).trans hx433_1
         replace hx433_2 := (HB.out.cell (World.block_lt_of_cell? w _ hx433_2)).trans hx433_2
         replace hx433_3 := (HB.out.cell (World.block_lt_of_cell? w _ hx433_3)).trans hx433_3
         replace hx433_4 := (HB.out.cell (World.block_lt_of_cell? w _ hx433_4)).trans hx433_4
         replace hx433_5 := (HB.out.cell (World.block_lt_of_cell? w _ hx433_5)).trans hx433_5
         replace hx433_6 := (HB.out.cell (World.block_lt_of_cell? w _ hx433_6)).trans hx433_6
         replace hx433_7 := (HB.out.cell (World.block_lt_of_cell? w _ hx433_7)).trans hx433_7
         replace p433 := eq_true p433
         replace q433 := eq_true q433
         have p434 : 0 ≤ (x5_1 : Int) := of_decide_eq_true (by first | (with_reducible assumption) | assumption)
         have q434 : x5_1 < (l0.length : Int) := of_decide_eq_true (by first | (with_reducible assumption) | assumption)
         obtain ⟨ad434, e434, hx434_0, hx434_1, hx434_2, hx434_3, hx434_4, hx434_5, hx434_6, hx434_7⟩ := at_T74 HR0.out x5_1 p434 q434
         obtain rfl : ad430 = ad434 := (by injection e434)
         replace hx434_0 := (HB.out.cell (World.block_lt_of_cell? w _ hx434_0)).trans hx434_0
         replace hx434_1 := (HB.out.cell (World.block_lt_of_cell? w _ hx434_1)).trans hx434_1
         replace hx434_2 := (HB.out.cell (World.block_lt_of_cell? w _ hx434_2)).trans hx434_2
         replace hx434_3 := (HB.out.cell (World.block_lt_of_cell? w _ hx434_3)).trans hx434_3
         replace hx434_4 := (HB.out.cell (World.block_lt_of_cell? w _ hx434_4)).trans hx434_4
         replace hx434_5 := (HB.out.cell (World.block_lt_of_cell? w _ hx434_5)).trans hx434_5
         replace hx434_6 := (HB.out.cell (World.block_lt_of_cell? w _ hx434_6)).trans hx434_6
         replace hx434_7 := (HB.out.cell (World.block_lt_of_cell? w _ hx434_7)).trans hx434_7
         replace p434 := eq_true p434
         replace q434 := eq_true q434
         have p435 : 0 ≤ (x5_1 : Int) := of_decide_eq_true (by first | (with_reducible assumption) | assumption)
         have q435 : x5_1 < (l0.length : Int) := of_decide_eq_true (by first | (with_reducible assumption) | assumption)
         obtain ⟨ad435, e435, hx435_0, hx435_1, hx435_2, hx435_3, hx435_4, hx435_5, hx435_6, hx435_7⟩ := at_T74 HR0.out x5_1 p435 q435
         obtain rfl : ad430 = ad435 := (by injection e435)
         replace hx435_0 := (HB.out.cell (World.block_lt_of_cell? w _ hx435_0)).trans hx435_0
         replace hx435_1 := (HB.out.cell (World.block_lt_of_cell? w _ hx435_1)).trans hx435_1
         replace hx435_2 := (HB.out.cell (World.block_lt_of_cell? w _ hx435_2)).trans hx435_2
         replace hx435_3 := (HB.out.cell (World.block_lt_of_cell? w _ hx435_3)).trans hx435_3
         replace hx435_4 := (HB.out.cell (World.block_lt_of_cell? w _ hx435_4)).trans hx435_4
         replace hx435_5 := (HB.out.cell (World.block_lt_of_cell? w _ hx435_5)).trans hx435_5
         replace hx435_6 := (HB.out.cell (World.block_lt_of_cell? w _ hx435_6)).trans hx435_6
         replace hx435_7 := (HB.out.cell (World.block_lt_of_cell? w _ hx435_7)).trans hx435_7
         replace p435 := eq_true p435
         replace q435 := eq_true q435
         try go_wp2
         go_ret
         exact ⟨by first | rfl | (simp [errW_none, errW_some] <;> rfl) | (simp [*, errW_none, errW_some] <;> rfl), (Gtr.bw HB.out)⟩
       ·rw [if_neg c9] at H
        have c9b0 : (((rd_T74 l0 x5_1).f3) == (wrap64 ((wrap64 ((wrap64 (x1_1 + 1)) + 1)) + 1))) = false := beq_eq_false_iff_ne.mpr c9
        have c9b1 : (((rd_T74 l0 x5_1).f3) != (wrap64 ((wrap64 ((wrap64 (x1_1 + 1)) + 1)) + 1))) = true := bne_iff_ne.mpr c9
        obtain rfl := Option.some.inj H
        try go_wp2
        have n0_ := Aside0.mk (below_drew1 HB.out)
        clear HB
        have HB := n0_
        clear n0_
        have p430 : 0 ≤ (x5_1 : Int) := of_decide_eq_true (by first | (with_reducible assumption) | assumption)
        have q430 : x5_1 < (l0.length : Int) := of_decide_eq_true (by first | (with_reducible assumption) | assumption)
        obtain ⟨ad430, e430, hx430_0, hx430_1, hx430_2, hx430_3, hx430_4, hx430_5, hx430_6, hx430_7⟩ := at_T74 HR0.out x5_1 p430 q430
        have hw430_7 := hx430_7
        have hw430_6 := hx430_6
        have hw430_5 := hx430_5
        have hw430_4 := hx430_4
        have hw430_3 := hx430_3
        have hw430_2 := hx430_2
        have hw430_1 := hx430_1
        have hw430_0 := hx430_0
        cases e430
        replace hx430_0 := (HB.out.cell (World.block_lt_of_cell? w _ hx430_0)).trans hx430_0
        replace hx430_1 := (HB.out.cell (World.block_lt_of_cell? w _ hx430_1)).trans hx430_1
        replace hx430_2 := (HB.out.cell (World.block_lt_of_cell? w _ hx430_2)).trans hx430_2
        replace hx430_3 := (HB.out.cell (World.block_lt_of_cell? w _ hx430_3)).trans hx430_3
        replace hx430_4 := (HB.out.cell (World.block_lt_of_cell? w _ hx430_4)).trans hx430_4
        replace hx430_5 := (HB.out.cell (World.block_lt_of_cell? w _ hx430_5)).trans hx430_5
        replace hx430_6 := (HB.out.cell (World.block_lt_of_cell? w _ hx430_6)).trans hx430_6
        replace hx430_7 := (HB.out.cell (World.block_lt_of_cell? w _ hx430_7)).trans hx430_7
        replace p430 := eq_true p430
        replace q430 := eq_true q430
        refine start_ (n := 8) (S := fun w' => w'.cell? (ad430.add ((x5_1).toNat * 8)) = some (.string ((rd_T74 l0 x5_1).f0)) ∧ w'.cell? ⟨(ad430.add ((x5_1).toNat * 8)).block, (ad430.add ((x5_1).toNat * 8)).off + 1, none⟩ = some (.int .i64 ((rd_T74 l0 x5_1).f1)) ∧ w'.cell? ⟨(ad430.add ((x5_1).toNat * 8)).block, (ad430.add ((x5_1).toNat * 8)).off + 2, none⟩ = some (.int .i64 ((rd_T74 l0 x5_1).f2)) ∧ w'.cell? ⟨(ad430.add ((x5_1).toNat * 8)).block, (ad430.add ((x5_1).toNat * 8)).off + 3, none⟩ = some (.int .i64 ((rd_T74 l0 x5_1).f3)) ∧ w'.cell? ⟨(ad430.add ((x5_1).toNat * 8)).block, (ad430.add ((x5_1).toNat * 8)).off + 4, none⟩ = some (.int .i64 ((rd_T74 l0 x5_1).f4)) ∧ w'.cell? ⟨(ad430.add ((x5_1).toNat * 8)).block, (ad430.add ((x5_1).toNat * 8)).off + 5, none⟩ = some (.int .i64 ((rd_T74 l0 x5_1).f5)) ∧ w'.cell? ⟨(ad430.add ((x5_1).toNat * 8)).block, (ad430.add ((x5_1).toNat * 8)).off + 6, none⟩ = some (.int .i64 ((rd_T74 l0 x5_1).f6)) ∧ w'.cell? ⟨(ad430.add ((x5_1).toNat * 8)).block, (ad430.add ((x5_1).toNat * 8)).off + 7, none⟩ = some (.string ((rd_T74 l0 x5_1).f7))) (ds := []) (Gtr.bb 8 0) (by kernel_rfl) rfl rfl ⟨((HB.out.cell (World.block_lt_of_cell? w _ hw430_0)).trans hw430_0), ((HB.out.cell (World.block_lt_of_cell? w _ hw430_1)).trans hw430_1), ((HB.out.cell (World.block_lt_of_cell? w _ hw430_2)).trans hw430_2), ((HB.out.cell (World.block_lt_of_cell? w _ hw430_3)).trans hw430_3), ((HB.out.cell (World.block_lt_of_cell? w _ hw430_4)).trans hw430_4), ((HB.out.cell (World.block_lt_of_cell? w _ hw430_5)).trans hw430_5), ((HB.out.cell (World.block_lt_of_cell? w _ hw430_6)).trans hw430_6), ((HB.out.cell (World.block_lt_of_cell? w _ hw430_7)).trans hw430_7)⟩ (fun hHeld => ?_); refine with_tabW laws_heldItemS.tab4 laws_heldItemS.bits4 (fun HT_ HW_ => ?_)
        generalize wr.drew = w29 at HB hx430_0 hx430_1 hx430_2 hx430_3 hx430_4 hx430_5 hx430_6 hx430_7 hHeld ⊢
        refine pure_ (i := 0) (N := some 12) (v := ?_) (a' := ?_) (Gtr.bb 8 1) rfl rfl (any_of HT_.out (by kernel_rfl)) (fun _ _ _ h => h) (Or.inl ⟨by rfl, ?_⟩) ?_ ?_
        rotate_left
        ·intro w'
         go_simp
         with_reducible rfl
        rotate_left
        ·simp only [Gtr.ps]
         rfl
        refine pure_ (i := 1) (N := some 13) (v := ?_) (a' := ?_) (Gtr.bb 8 3) rfl rfl (any_of HT_.out (by kernel_rfl)) (fun _ _ _ h => h) (Or.inl ⟨by rfl, ?_⟩) ?_ ?_
        rotate_left
        ·intro w'
         go_simp
         with_reducible rfl
        rotate_left
        ·simp only [Gtr.ps]
         rfl
        refine pure_ (i := 2) (N := some 14) (v := ?_) (a' := ?_) (Gtr.bb 8 7) rfl rfl (any_of HT_.out (by kernel_rfl)) (fun _ _ _ h => h) (Or.inl ⟨by rfl, ?_⟩) ?_ ?_
        rotate_left
        ·intro w'
         go_simp
         with_reducible rfl
        rotate_left
        ·simp only [Gtr.ps]
         rfl
        refine pure_ (i := 3) (N := some 15) (v := ?_) (a' := ?_) (Gtr.bb 8 15) rfl rfl (any_of HT_.out (by kernel_rfl)) (fun _ _ _ h => h) (Or.inl ⟨by rfl, ?_⟩) ?_ ?_
        rotate_left
        ·intro w'
         go_simp
         with_reducible rfl
        rotate_left
        ·simp only [Gtr.ps]
         rfl
        refine pure_ (i := 5) (N := some 17) (v := ?_) (a' := ?_) (Gtr.bb 8 47) rfl rfl (any_of HT_.out (by kernel_rfl)) (fun _ _ _ h => h) (Or.inl ⟨by rfl, ?_⟩) ?_ ?_
        rotate_left
        ·intro w'
         go_simp
         with_reducible rfl
        rotate_left
        ·simp only [Gtr.ps]
         rfl
        refine take_ (i := 4) (N := some 16) (v := ?_) (a' := ?_) (Gtr.bb 8 63) rfl rfl (take_ofW HT_.out HW_.out (by kernel_rfl)) (fun _ _ _ h => h) (Or.inl ⟨by rfl, ?_⟩) hHeld ?_ ?_
        rotate_left
        ·rintro w' ⟨s0, s1, s2, s3, s4, s5, s6, s7⟩
         go_simp
         with_reducible rfl
        rotate_left
        ·simp only [Gtr.ps]
         rfl
        refine one_ (i := 6) (N := some 18) (Gtr.bb 8 127) rfl rfl (one_of HT_.out (by kernel_rfl)) (by decide) (fun K hK => ?_)
        refine goes_ Tryz.func74 (by kernel_rfl) rfl #[.int .i64 x1_1] (by rfl) rfl rfl (by (try simp only [List.map_toArray, List.map_cons, List.map_nil]); first | done | rfl | (simp only [List.length_drop, List.length_take]; rfl)) ?_
        with_reducible refine (laws_markText.calls k1 x1_1 t431 _ A5.out).mono ?_
        rintro e w30 ⟨rfl, hb⟩
        refine ⟨_, rfl, ?_⟩
        have n0_ := Aside0.mk (below_step (Gtr.bw HB.out) hb)
        clear HB
        have HB := n0_
        clear n0_
        (try clear hb);(try clear hb2);(try clear hk);(try clear hi)
        refine hK.out _ _ ⟨((HB.out.cell (World.block_lt_of_cell? w _ hw430_0)).trans hw430_0), ((HB.out.cell (World.block_lt_of_cell? w _ hw430_1)).trans hw430_1), ((HB.out.cell (World.block_lt_of_cell? w _ hw430_2)).trans hw430_2), ((HB.out.cell (World.block_lt_of_cell? w _ hw430_3)).trans hw430_3), ((HB.out.cell (World.block_lt_of_cell? w _ hw430_4)).trans hw430_4), ((HB.out.cell (World.block_lt_of_cell? w _ hw430_5)).trans hw430_5), ((HB.out.cell (World.block_lt_of_cell? w _ hw430_6)).trans hw430_6), ((HB.out.cell (World.block_lt_of_cell? w _ hw430_7)).trans hw430_7)⟩ (fun hHeld => ?_)
        clear hK K
        refine norm_ (a' := ?_) ?_ ?_
        rotate_left
        ·show Act.put _ (some 18) _ = _
         simp only [Gtr.ps]
         rfl
        refine pure_ (i := 7) (N := some 19) (v := ?_) (a' := ?_) (Gtr.bb 8 255) rfl rfl (any_of HT_.out (by kernel_rfl)) (fun _ _ _ h => h) (Or.inl ⟨by rfl, ?_⟩) ?_ ?_
        rotate_left
        ·intro w'
         go_simp
         with_reducible rfl
        rotate_left
        ·simp only [Gtr.ps]
         rfl
        refine done_ (done_of HT_.out (by kernel_rfl)) ?_
        have p432 : 0 ≤ (x5_1 : Int) := of_decide_eq_true (by first | (with_reducible assumption) | assumption)
        have q432 : x5_1 < (l0.length : Int) := of_decide_eq_true (by first | (with_reducible assumption) | assumption)
        obtain ⟨ad432, e432, hx432_0, hx432_1, hx432_2, hx432_3, hx432_4, hx432_5, hx432_6, hx432_7⟩ := at_T74 HR0.out x5_1 p432 q432
        obtain rfl : ad430 = ad432 := (by injection e432)
        replace hx432_0 := (HB.out.cell (World.block_lt_of_cell? w _ hx432_0)).trans hx432_0
        replace hx432_1 := (HB.out.cell (World.block_lt_of_cell? w _ hx432_1)).trans hx432_1
        replace hx432_2 := (HB.out.cell (World.block_lt_of_cell? w _ hx432_2)).trans hx432_2
        replace hx432_3 := (HB.out.cell (World.block_lt_of_cell? w _ hx432_3)).trans hx432_3
        replace hx432_4 := (HB.out.cell (World.block_lt_of_cell? w _ hx432_4)).trans hx432_4
        replace hx432_5 := (HB.out.cell (World.block_lt_of_cell? w _ hx432_5)).trans hx432_5
        replace hx432_6 := (HB.out.cell (World.block_lt_of_cell? w _ hx432_6)).trans hx432_6
        replace hx432_7 := (HB.out.cell (World.block_lt_of_cell? w _ hx432_7)).trans hx432_7
        replace p432 := eq_true p432
        replace q432 := eq_true q432
        have p433 : 0 ≤ (x5_1 : Int) := of_decide_eq_true (by first | (with_reducible assumption) | assumption)
        have q433 : x5_1 < (l0.length : Int) := of_decide_eq_true (by first | (with_reducible assumption) | assumption)
        obtain ⟨ad433, e433, hx433_0, hx433_1, hx433_2, hx433_3, hx433_4, hx433_5, hx433_6, hx433_7⟩ := at_T74 HR0.out x5_1 p433 q433
        obtain rfl : ad430 = ad433 := (by injection e433)
        replace hx433_0 := (HB.out.cell (World.block_lt_of_cell? w _ hx433_0)).trans hx433_0
        replace hx433_1 := (HB.out.cell (World.block_lt_of_cell? w _ hx433_1)).trans hx433_1
        replace hx433_2 := (HB.out.cell (World.block_lt_of_cell? w _ hx433_2)).trans hx433_2
        replace hx433_3 := (HB.out.cell (World.block_lt_of_cell? w _ hx433_3)).trans hx433_3
        replace hx433_4 := (HB.out.cell (World.block_lt_of_cell? w _ hx433_4)).trans hx433_4
        replace hx433_5 := (HB.out.cell (World.block_lt_of_cell? w _ hx433_5)).trans hx433_5
        replace hx433_6 := (HB.out.cell (World.block_lt_of_cell? w _ hx433_6)).trans hx433_6
        replace hx433_7 := (HB.out.cell (World.block_lt_of_cell? w _ hx433_7)).trans hx433_7
        replace p433 := eq_true p433
        replace q433 := eq_true q433
        have p434 : 0 ≤ (x5_1 : Int) := of_decide_eq_true (by first | (with_reducible assumption) | assumption)
        have q434 : x5_1 < (l0.length : Int) := of_decide_eq_true (by first | (with_reducible assumption) | assumption)
        obtain ⟨ad434, e434, hx434_0, hx434_1, hx434_2, hx434_3, hx434_4, hx434_5, hx434_6, hx434_7⟩ := at_T74 HR0.out x5_1 p434 q434
        obtain rfl : ad430 = ad434 := (by injection e434)
        replace hx434_0 := (HB.out.cell (World.block_lt_of_cell? w _ hx434_0)).trans hx434_0
        replace hx434_1 := (HB.out.cell (World.block_lt_of_cell? w _ hx434_1)).trans hx434_1
        replace hx434_2 := (HB.out.cell (World.block_lt_of_cell? w _ hx434_2)).trans hx434_2
        replace hx434_3 := (HB.out.cell (World.block_lt_of_cell? w _ hx434_3)).trans hx434_3
        replace hx434_4 := (HB.out.cell (World.block_lt_of_cell? w _ hx434_4)).trans hx434_4
        replace hx434_5 := (HB.out.cell (World.block_lt_of_cell? w _ hx434_5)).trans hx434_5
        replace hx434_6 := (HB.out.cell (World.block_lt_of_cell? w _ hx434_6)).trans hx434_6
        replace hx434_7 := (HB.out.cell (World.block_lt_of_cell? w _ hx434_7)).trans hx434_7
        replace p434 := eq_true p434
        replace q434 := eq_true q434
        try go_wp2
        go_ret
        exact ⟨by first | rfl | (simp [errW_none, errW_some] <;> rfl) | (simp [*, errW_none, errW_some] <;> rfl), (Gtr.bw HB.out)⟩
      ·rw [if_neg c8] at H
       have c8b0 : (((rd_T74 l0 x5_1).f2) == (wrap64 ((wrap64 (x1_1 + 1)) + 1))) = false := beq_eq_false_iff_ne.mpr c8
       have c8b1 : (((rd_T74 l0 x5_1).f2) != (wrap64 ((wrap64 (x1_1 + 1)) + 1))) = true := bne_iff_ne.mpr c8
       obtain rfl := Option.some.inj H
       try go_wp2
       have n0_ := Aside0.mk (below_drew1 HB.out)
       clear HB
       have HB := n0_
       clear n0_
       have p430 : 0 ≤ (x5_1 : Int) := of_decide_eq_true (by first | (with_reducible assumption) | assumption)
       have q430 : x5_1 < (l0.length : Int) := of_decide_eq_true (by first | (with_reducible assumption) | assumption)
       obtain ⟨ad430, e430, hx430_0, hx430_1, hx430_2, hx430_3, hx430_4, hx430_5, hx430_6, hx430_7⟩ := at_T74 HR0.out x5_1 p430 q430
       have hw430_7 := hx430_7
       have hw430_6 := hx430_6
       have hw430_5 := hx430_5
       have hw430_4 := hx430_4
       have hw430_3 := hx430_3
       have hw430_2 := hx430_2
       have hw430_1 := hx430_1
       have hw430_0 := hx430_0
       cases e430
       replace hx430_0 := (HB.out.cell (World.block_lt_of_cell? w _ hx430_0)).trans hx430_0
       replace hx430_1 := (HB.out.cell (World.block_lt_of_cell? w _ hx430_1)).trans hx430_1
       replace hx430_2 := (HB.out.cell (World.block_lt_of_cell? w _ hx430_2)).trans hx430_2
       replace hx430_3 := (HB.out.cell (World.block_lt_of_cell? w _ hx430_3)).trans hx430_3
       replace hx430_4 := (HB.out.cell (World.block_lt_of_cell? w _ hx430_4)).trans hx430_4
       replace hx430_5 := (HB.out.cell (World.block_lt_of_cell? w _ hx430_5)).trans hx430_5
       replace hx430_6 := (HB.out.cell (World.block_lt_of_cell? w _ hx430_6)).trans hx430_6
       replace hx430_7 := (HB.out.cell (World.block_lt_of_cell? w _ hx430_7)).trans hx430_7
       replace p430 := eq_true p430
       replace q430 := eq_true q430
       refine start_ (n := 8) (S := fun w' => w'.cell? (ad430.add ((x5_1).toNat * 8)) = some (.string ((rd_T74 l0 x5_1).f0)) ∧ w'.cell? ⟨(ad430.add ((x5_1).toNat * 8)).block, (ad430.add ((x5_1).toNat * 8)).off + 1, none⟩ = some (.int .i64 ((rd_T74 l0 x5_1).f1)) ∧ w'.cell? ⟨(ad430.add ((x5_1).toNat * 8)).block, (ad430.add ((x5_1).toNat * 8)).off + 2, none⟩ = some (.int .i64 ((rd_T74 l0 x5_1).f2)) ∧ w'.cell? ⟨(ad430.add ((x5_1).toNat * 8)).block, (ad430.add ((x5_1).toNat * 8)).off + 3, none⟩ = some (.int .i64 ((rd_T74 l0 x5_1).f3)) ∧ w'.cell? ⟨(ad430.add ((x5_1).toNat * 8)).block, (ad430.add ((x5_1).toNat * 8)).off + 4, none⟩ = some (.int .i64 ((rd_T74 l0 x5_1).f4)) ∧ w'.cell? ⟨(ad430.add ((x5_1).toNat * 8)).block, (ad430.add ((x5_1).toNat * 8)).off + 5, none⟩ = some (.int .i64 ((rd_T74 l0 x5_1).f5)) ∧ w'.cell? ⟨(ad430.add ((x5_1).toNat * 8)).block, (ad430.add ((x5_1).toNat * 8)).off + 6, none⟩ = some (.int .i64 ((rd_T74 l0 x5_1).f6)) ∧ w'.cell? ⟨(ad430.add ((x5_1).toNat * 8)).block, (ad430.add ((x5_1).toNat * 8)).off + 7, none⟩ = some (.string ((rd_T74 l0 x5_1).f7))) (ds := []) (Gtr.bb 8 0) (by kernel_rfl) rfl rfl ⟨((HB.out.cell (World.block_lt_of_cell? w _ hw430_0)).trans hw430_0), ((HB.out.cell (World.block_lt_of_cell? w _ hw430_1)).trans hw430_1), ((HB.out.cell (World.block_lt_of_cell? w _ hw430_2)).trans hw430_2), ((HB.out.cell (World.block_lt_of_cell? w _ hw430_3)).trans hw430_3), ((HB.out.cell (World.block_lt_of_cell? w _ hw430_4)).trans hw430_4), ((HB.out.cell (World.block_lt_of_cell? w _ hw430_5)).trans hw430_5), ((HB.out.cell (World.block_lt_of_cell? w _ hw430_6)).trans hw430_6), ((HB.out.cell (World.block_lt_of_cell? w _ hw430_7)).trans hw430_7)⟩ (fun hHeld => ?_); refine with_tabW laws_heldItemS.tab4 laws_heldItemS.bits4 (fun HT_ HW_ => ?_)
       generalize wr.drew = w31 at HB hx430_0 hx430_1 hx430_2 hx430_3 hx430_4 hx430_5 hx430_6 hx430_7 hHeld ⊢
       refine pure_ (i := 0) (N := some 12) (v := ?_) (a' := ?_) (Gtr.bb 8 1) rfl rfl (any_of HT_.out (by kernel_rfl)) (fun _ _ _ h => h) (Or.inl ⟨by rfl, ?_⟩) ?_ ?_
       rotate_left
       ·intro w'
        go_simp
        with_reducible rfl
       rotate_left
       ·simp only [Gtr.ps]
        rfl
       refine pure_ (i := 1) (N := some 13) (v := ?_) (a' := ?_) (Gtr.bb 8 3) rfl rfl (any_of HT_.out (by kernel_rfl)) (fun _ _ _ h => h) (Or.inl ⟨by rfl, ?_⟩) ?_ ?_
       rotate_left
       ·intro w'
        go_simp
        with_reducible rfl
       rotate_left
       ·simp only [Gtr.ps]
        rfl
       refine pure_ (i := 2) (N := some 14) (v := ?_) (a' := ?_) (Gtr.bb 8 7) rfl rfl (any_of HT_.out (by kernel_rfl)) (fun _ _ _ h => h) (Or.inl ⟨by rfl, ?_⟩) ?_ ?_
       rotate_left
       ·intro w'
        go_simp
        with_reducible rfl
       rotate_left
       ·simp only [Gtr.ps]
        rfl
       refine pure_ (i := 3) (N := some 15) (v := ?_) (a' := ?_) (Gtr.bb 8 15) rfl rfl (any_of HT_.out (by kernel_rfl)) (fun _ _ _ h => h) (Or.inl ⟨by rfl, ?_⟩) ?_ ?_
       rotate_left
       ·intro w'
        go_simp
        with_reducible rfl
       rotate_left
       ·simp only [Gtr.ps]
        rfl
       refine pure_ (i := 5) (N := some 17) (v := ?_) (a' := ?_) (Gtr.bb 8 47) rfl rfl (any_of HT_.out (by kernel_rfl)) (fun _ _ _ h => h) (Or.inl ⟨by rfl, ?_⟩) ?_ ?_
       rotate_left
       ·intro w'
        go_simp
        with_reducible rfl
       rotate_left
       ·simp only [Gtr.ps]
        rfl
       refine take_ (i := 4) (N := some 16) (v := ?_) (a' := ?_) (Gtr.bb 8 63) rfl rfl (take_ofW HT_.out HW_.out (by kernel_rfl)) (fun _ _ _ h => h) (Or.inl ⟨by rfl, ?_⟩) hHeld ?_ ?_
       rotate_left
       ·rintro w' ⟨s0, s1, s2, s3, s4, s5, s6, s7⟩
        go_simp
        with_reducible rfl
       rotate_left
       ·simp only [Gtr.ps]
        rfl
       refine one_ (i := 6) (N := some 18) (Gtr.bb 8 127) rfl rfl (one_of HT_.out (by kernel_rfl)) (by decide) (fun K hK => ?_)
       refine goes_ Tryz.func74 (by kernel_rfl) rfl #[.int .i64 x1_1] (by rfl) rfl rfl (by (try simp only [List.map_toArray, List.map_cons, List.map_nil]); first | done | rfl | (simp only [List.length_drop, List.length_take]; rfl)) ?_
       with_reducible refine (laws_markText.calls k1 x1_1 t431 _ A5.out).mono ?_
       rintro e w32 ⟨rfl, hb⟩
       refine ⟨_, rfl, ?_⟩
       have n0_ := Aside0.mk (below_step (Gtr.bw HB.out) hb)
       clear HB
       have HB := n0_
       clear n0_
       (try clear hb);(try clear hb2);(try clear hk);(try clear hi)
       refine hK.out _ _ ⟨((HB.out.cell (World.block_lt_of_cell? w _ hw430_0)).trans hw430_0), ((HB.out.cell (World.block_lt_of_cell? w _ hw430_1)).trans hw430_1), ((HB.out.cell (World.block_lt_of_cell? w _ hw430_2)).trans hw430_2), ((HB.out.cell (World.block_lt_of_cell? w _ hw430_3)).trans hw430_3), ((HB.out.cell (World.block_lt_of_cell? w _ hw430_4)).trans hw430_4), ((HB.out.cell (World.block_lt_of_cell? w _ hw430_5)).trans hw430_5), ((HB.out.cell (World.block_lt_of_cell? w _ hw430_6)).trans hw430_6), ((HB.out.cell (World.block_lt_of_cell? w _ hw430_7)).trans hw430_7)⟩ (fun hHeld => ?_)
       clear hK K
       refine norm_ (a' := ?_) ?_ ?_
       rotate_left
       ·show Act.put _ (some 18) _ = _
        simp only [Gtr.ps]
        rfl
       refine pure_ (i := 7) (N := some 19) (v := ?_) (a' := ?_) (Gtr.bb 8 255) rfl rfl (any_of HT_.out (by kernel_rfl)) (fun _ _ _ h => h) (Or.inl ⟨by rfl, ?_⟩) ?_ ?_
       rotate_left
       ·intro w'
        go_simp
        with_reducible rfl
       rotate_left
       ·simp only [Gtr.ps]
        rfl
       refine done_ (done_of HT_.out (by kernel_rfl)) ?_
       have p432 : 0 ≤ (x5_1 : Int) := of_decide_eq_true (by first | (with_reducible assumption) | assumption)
       have q432 : x5_1 < (l0.length : Int) := of_decide_eq_true (by first | (with_reducible assumption) | assumption)
       obtain ⟨ad432, e432, hx432_0, hx432_1, hx432_2, hx432_3, hx432_4, hx432_5, hx432_6, hx432_7⟩ := at_T74 HR0.out x5_1 p432 q432
       obtain rfl : ad430 = ad432 := (by injection e432)
       replace hx432_0 := (HB.out.cell (World.block_lt_of_cell? w _ hx432_0)).trans hx432_0
       replace hx432_1 := (HB.out.cell (World.block_lt_of_cell? w _ hx432_1)).trans hx432_1
       replace hx432_2 := (HB.out.cell (World.block_lt_of_cell? w _ hx432_2)).trans hx432_2
       replace hx432_3 := (HB.out.cell (World.block_lt_of_cell? w _ hx432_3)).trans hx432_3
       replace hx432_4 := (HB.out.cell (World.block_lt_of_cell? w _ hx432_4)).trans hx432_4
       replace hx432_5 := (HB.out.cell (World.block_lt_of_cell? w _ hx432_5)).trans hx432_5
       replace hx432_6 := (HB.out.cell (World.block_lt_of_cell? w _ hx432_6)).trans hx432_6
       replace hx432_7 := (HB.out.cell (World.block_lt_of_cell? w _ hx432_7)).trans hx432_7
       replace p432 := eq_true p432
       replace q432 := eq_true q432
       have p433 : 0 ≤ (x5_1 : Int) := of_decide_eq_true (by first | (with_reducible assumption) | assumption)
       have q433 : x5_1 < (l0.length : Int) := of_decide_eq_true (by first | (with_reducible assumption) | assumption)
       obtain ⟨ad433, e433, hx433_0, hx433_1, hx433_2, hx433_3, hx433_4, hx433_5, hx433_6, hx433_7⟩ := at_T74 HR0.out x5_1 p433 q433
       obtain rfl : ad430 = ad433 := (by injection e433)
       replace hx433_0 := (HB.out.cell (World.block_lt_of_cell? w _ hx433_0)).trans hx433_0
       replace hx433_1 := (HB.out.cell (World.block_lt_of_cell? w _ hx433_1)).trans hx433_1
       replace hx433_2 := (HB.out.cell (World.block_lt_of_cell? w _ hx433_2)).trans hx433_2
       replace hx433_3 := (HB.out.cell (World.block_lt_of_cell? w _ hx433_3)).trans hx433_3
       replace hx433_4 := (HB.out.cell (World.block_lt_of_cell? w _ hx433_4)).trans hx433_4
       replace hx433_5 := (HB.out.cell (World.block_lt_of_cell? w _ hx433_5)).trans hx433_5
       replace hx433_6 := (HB.out.cell (World.block_lt_of_cell? w _ hx433_6)).trans hx433_6
       replace hx433_7 := (HB.out.cell (World.block_lt_of_cell? w _ hx433_7)).trans hx433_7
       replace p433 := eq_true p433
       replace q433 := eq_true q433
       try go_wp2
       go_ret
       exact ⟨by first | rfl | (simp [errW_none, errW_some] <;> rfl) | (simp [*, errW_none, errW_some] <;> rfl), (Gtr.bw HB.out)⟩
     ·rw [if_neg c7] at H
      have c7b0 : (((rd_T74 l0 x5_1).f1) == (wrap64 (x1_1 + 1))) = false := beq_eq_false_iff_ne.mpr c7
      have c7b1 : (((rd_T74 l0 x5_1).f1) != (wrap64 (x1_1 + 1))) = true := bne_iff_ne.mpr c7
      obtain rfl := Option.some.inj H
      try go_wp2
      have n0_ := Aside0.mk (below_drew1 HB.out)
      clear HB
      have HB := n0_
      clear n0_
      have p430 : 0 ≤ (x5_1 : Int) := of_decide_eq_true (by first | (with_reducible assumption) | assumption)
      have q430 : x5_1 < (l0.length : Int) := of_decide_eq_true (by first | (with_reducible assumption) | assumption)
      obtain ⟨ad430, e430, hx430_0, hx430_1, hx430_2, hx430_3, hx430_4, hx430_5, hx430_6, hx430_7⟩ := at_T74 HR0.out x5_1 p430 q430
      have hw430_7 := hx430_7
      have hw430_6 := hx430_6
      have hw430_5 := hx430_5
      have hw430_4 := hx430_4
      have hw430_3 := hx430_3
      have hw430_2 := hx430_2
      have hw430_1 := hx430_1
      have hw430_0 := hx430_0
      cases e430
      replace hx430_0 := (HB.out.cell (World.block_lt_of_cell? w _ hx430_0)).trans hx430_0
      replace hx430_1 := (HB.out.cell (World.block_lt_of_cell? w _ hx430_1)).trans hx430_1
      replace hx430_2 := (HB.out.cell (World.block_lt_of_cell? w _ hx430_2)).trans hx430_2
      replace hx430_3 := (HB.out.cell (World.block_lt_of_cell? w _ hx430_3)).trans hx430_3
      replace hx430_4 := (HB.out.cell (World.block_lt_of_cell? w _ hx430_4)).trans hx430_4
      replace hx430_5 := (HB.out.cell (World.block_lt_of_cell? w _ hx430_5)).trans hx430_5
      replace hx430_6 := (HB.out.cell (World.block_lt_of_cell? w _ hx430_6)).trans hx430_6
      replace hx430_7 := (HB.out.cell (World.block_lt_of_cell? w _ hx430_7)).trans hx430_7
      replace p430 := eq_true p430
      replace q430 := eq_true q430
      refine start_ (n := 8) (S := fun w' => w'.cell? (ad430.add ((x5_1).toNat * 8)) = some (.string ((rd_T74 l0 x5_1).f0)) ∧ w'.cell? ⟨(ad430.add ((x5_1).toNat * 8)).block, (ad430.add ((x5_1).toNat * 8)).off + 1, none⟩ = some (.int .i64 ((rd_T74 l0 x5_1).f1)) ∧ w'.cell? ⟨(ad430.add ((x5_1).toNat * 8)).block, (ad430.add ((x5_1).toNat * 8)).off + 2, none⟩ = some (.int .i64 ((rd_T74 l0 x5_1).f2)) ∧ w'.cell? ⟨(ad430.add ((x5_1).toNat * 8)).block, (ad430.add ((x5_1).toNat * 8)).off + 3, none⟩ = some (.int .i64 ((rd_T74 l0 x5_1).f3)) ∧ w'.cell? ⟨(ad430.add ((x5_1).toNat * 8)).block, (ad430.add ((x5_1).toNat * 8)).off + 4, none⟩ = some (.int .i64 ((rd_T74 l0 x5_1).f4)) ∧ w'.cell? ⟨(ad430.add ((x5_1).toNat * 8)).block, (ad430.add ((x5_1).toNat * 8)).off + 5, none⟩ = some (.int .i64 ((rd_T74 l0 x5_1).f5)) ∧ w'.cell? ⟨(ad430.add ((x5_1).toNat * 8)).block, (ad430.add ((x5_1).toNat * 8)).off + 6, none⟩ = some (.int .i64 ((rd_T74 l0 x5_1).f6)) ∧ w'.cell? ⟨(ad430.add ((x5_1).toNat * 8)).block, (ad430.add ((x5_1).toNat * 8)).off + 7, none⟩ = some (.string ((rd_T74 l0 x5_1).f7))) (ds := []) (Gtr.bb 8 0) (by kernel_rfl) rfl rfl ⟨((HB.out.cell (World.block_lt_of_cell? w _ hw430_0)).trans hw430_0), ((HB.out.cell (World.block_lt_of_cell? w _ hw430_1)).trans hw430_1), ((HB.out.cell (World.block_lt_of_cell? w _ hw430_2)).trans hw430_2), ((HB.out.cell (World.block_lt_of_cell? w _ hw430_3)).trans hw430_3), ((HB.out.cell (World.block_lt_of_cell? w _ hw430_4)).trans hw430_4), ((HB.out.cell (World.block_lt_of_cell? w _ hw430_5)).trans hw430_5), ((HB.out.cell (World.block_lt_of_cell? w _ hw430_6)).trans hw430_6), ((HB.out.cell (World.block_lt_of_cell? w _ hw430_7)).trans hw430_7)⟩ (fun hHeld => ?_); refine with_tabW laws_heldItemS.tab4 laws_heldItemS.bits4 (fun HT_ HW_ => ?_)
      generalize wr.drew = w33 at HB hx430_0 hx430_1 hx430_2 hx430_3 hx430_4 hx430_5 hx430_6 hx430_7 hHeld ⊢
      refine pure_ (i := 0) (N := some 12) (v := ?_) (a' := ?_) (Gtr.bb 8 1) rfl rfl (any_of HT_.out (by kernel_rfl)) (fun _ _ _ h => h) (Or.inl ⟨by rfl, ?_⟩) ?_ ?_
      rotate_left
      ·intro w'
       go_simp
       with_reducible rfl
      rotate_left
      ·simp only [Gtr.ps]
       rfl
      refine pure_ (i := 1) (N := some 13) (v := ?_) (a' := ?_) (Gtr.bb 8 3) rfl rfl (any_of HT_.out (by kernel_rfl)) (fun _ _ _ h => h) (Or.inl ⟨by rfl, ?_⟩) ?_ ?_
      rotate_left
      ·intro w'
       go_simp
       with_reducible rfl
      rotate_left
      ·simp only [Gtr.ps]
       rfl
      refine pure_ (i := 2) (N := some 14) (v := ?_) (a' := ?_) (Gtr.bb 8 7) rfl rfl (any_of HT_.out (by kernel_rfl)) (fun _ _ _ h => h) (Or.inl ⟨by rfl, ?_⟩) ?_ ?_
      rotate_left
      ·intro w'
       go_simp
       with_reducible rfl
      rotate_left
      ·simp only [Gtr.ps]
       rfl
      refine pure_ (i := 3) (N := some 15) (v := ?_) (a' := ?_) (Gtr.bb 8 15) rfl rfl (any_of HT_.out (by kernel_rfl)) (fun _ _ _ h => h) (Or.inl ⟨by rfl, ?_⟩) ?_ ?_
      rotate_left
      ·intro w'
       go_simp
       with_reducible rfl
      rotate_left
      ·simp only [Gtr.ps]
       rfl
      refine pure_ (i := 5) (N := some 17) (v := ?_) (a' := ?_) (Gtr.bb 8 47) rfl rfl (any_of HT_.out (by kernel_rfl)) (fun _ _ _ h => h) (Or.inl ⟨by rfl, ?_⟩) ?_ ?_
      rotate_left
      ·intro w'
       go_simp
       with_reducible rfl
      rotate_left
      ·simp only [Gtr.ps]
       rfl
      refine take_ (i := 4) (N := some 16) (v := ?_) (a' := ?_) (Gtr.bb 8 63) rfl rfl (take_ofW HT_.out HW_.out (by kernel_rfl)) (fun _ _ _ h => h) (Or.inl ⟨by rfl, ?_⟩) hHeld ?_ ?_
      rotate_left
      ·rintro w' ⟨s0, s1, s2, s3, s4, s5, s6, s7⟩
       go_simp
       with_reducible rfl
      rotate_left
      ·simp only [Gtr.ps]
       rfl
      refine one_ (i := 6) (N := some 18) (Gtr.bb 8 127) rfl rfl (one_of HT_.out (by kernel_rfl)) (by decide) (fun K hK => ?_)
      refine goes_ Tryz.func74 (by kernel_rfl) rfl #[.int .i64 x1_1] (by rfl) rfl rfl (by (try simp only [List.map_toArray, List.map_cons, List.map_nil]); first | done | rfl | (simp only [List.length_drop, List.length_take]; rfl)) ?_
      with_reducible refine (laws_markText.calls k1 x1_1 t431 _ A5.out).mono ?_
      rintro e w34 ⟨rfl, hb⟩
      refine ⟨_, rfl, ?_⟩
      have n0_ := Aside0.mk (below_step (Gtr.bw HB.out) hb)
      clear HB
      have HB := n0_
      clear n0_
      (try clear hb);(try clear hb2);(try clear hk);(try clear hi)
      refine hK.out _ _ ⟨((HB.out.cell (World.block_lt_of_cell? w _ hw430_0)).trans hw430_0), ((HB.out.cell (World.block_lt_of_cell? w _ hw430_1)).trans hw430_1), ((HB.out.cell (World.block_lt_of_cell? w _ hw430_2)).trans hw430_2), ((HB.out.cell (World.block_lt_of_cell? w _ hw430_3)).trans hw430_3), ((HB.out.cell (World.block_lt_of_cell? w _ hw430_4)).trans hw430_4), ((HB.out.cell (World.block_lt_of_cell? w _ hw430_5)).trans hw430_5), ((HB.out.cell (World.block_lt_of_cell? w _ hw430_6)).trans hw430_6), ((HB.out.cell (World.block_lt_of_cell? w _ hw430_7)).trans hw430_7)⟩ (fun hHeld => ?_)
      clear hK K
      refine norm_ (a' := ?_) ?_ ?_
      rotate_left
      ·show Act.put _ (some 18) _ = _
       simp only [Gtr.ps]
       rfl
      refine pure_ (i := 7) (N := some 19) (v := ?_) (a' := ?_) (Gtr.bb 8 255) rfl rfl (any_of HT_.out (by kernel_rfl)) (fun _ _ _ h => h) (Or.inl ⟨by rfl, ?_⟩) ?_ ?_
      rotate_left
      ·intro w'
       go_simp
       with_reducible rfl
      rotate_left
      ·simp only [Gtr.ps]
       rfl
      refine done_ (done_of HT_.out (by kernel_rfl)) ?_
      have p432 : 0 ≤ (x5_1 : Int) := of_decide_eq_true (by first | (with_reducible assumption) | assumption)
      have q432 : x5_1 < (l0.length : Int) := of_decide_eq_true (by first | (with_reducible assumption) | assumption)
      obtain ⟨ad432, e432, hx432_0, hx432_1, hx432_2, hx432_3, hx432_4, hx432_5, hx432_6, hx432_7⟩ := at_T74 HR0.out x5_1 p432 q432
      obtain rfl : ad430 = ad432 := (by injection e432)
      replace hx432_0 := (HB.out.cell (World.block_lt_of_cell? w _ hx432_0)).trans hx432_0
      replace hx432_1 := (HB.out.cell (World.block_lt_of_cell? w _ hx432_1)).trans hx432_1
      replace hx432_2 := (HB.out.cell (World.block_lt_of_cell? w _ hx432_2)).trans hx432_2
      replace hx432_3 := (HB.out.cell (World.block_lt_of_cell? w _ hx432_3)).trans hx432_3
      replace hx432_4 := (HB.out.cell (World.block_lt_of_cell? w _ hx432_4)).trans hx432_4
      replace hx432_5 := (HB.out.cell (World.block_lt_of_cell? w _ hx432_5)).trans hx432_5
      replace hx432_6 := (HB.out.cell (World.block_lt_of_cell? w _ hx432_6)).trans hx432_6
      replace hx432_7 := (HB.out.cell (World.block_lt_of_cell? w _ hx432_7)).trans hx432_7
      replace p432 := eq_true p432
      replace q432 := eq_true q432
      try go_wp2
      go_ret
      exact ⟨by first | rfl | (simp [errW_none, errW_some] <;> rfl) | (simp [*, errW_none, errW_some] <;> rfl), (Gtr.bw HB.out)⟩
    ·rw [if_neg c6] at H
     have c6b0 : (((rd_T74 l0 x5_1).f0).toList == t431.toList) = false := beq_eq_false_iff_ne.mpr c6
     have c6b1 : (((rd_T74 l0 x5_1).f0).toList != t431.toList) = true := bne_iff_ne.mpr c6
     obtain rfl := Option.some.inj H
     try go_wp2
     have n0_ := Aside0.mk (below_drew1 HB.out)
     clear HB
     have HB := n0_
     clear n0_
     have p430 : 0 ≤ (x5_1 : Int) := of_decide_eq_true (by first | (with_reducible assumption) | assumption)
     have q430 : x5_1 < (l0.length : Int) := of_decide_eq_true (by first | (with_reducible assumption) | assumption)
     obtain ⟨ad430, e430, hx430_0, hx430_1, hx430_2, hx430_3, hx430_4, hx430_5, hx430_6, hx430_7⟩ := at_T74 HR0.out x5_1 p430 q430
     have hw430_7 := hx430_7
     have hw430_6 := hx430_6
     have hw430_5 := hx430_5
     have hw430_4 := hx430_4
     have hw430_3 := hx430_3
     have hw430_2 := hx430_2
     have hw430_1 := hx430_1
     have hw430_0 := hx430_0
     cases e430
     replace hx430_0 := (HB.out.cell (World.block_lt_of_cell? w _ hx430_0)).trans hx430_0
     replace hx430_1 := (HB.out.cell (World.block_lt_of_cell? w _ hx430_1)).trans hx430_1
     replace hx430_2 := (HB.out.cell (World.block_lt_of_cell? w _ hx430_2)).trans hx430_2
     replace hx430_3 := (HB.out.cell (World.block_lt_of_cell? w _ hx430_3)).trans hx430_3
     replace hx430_4 := (HB.out.cell (World.block_lt_of_cell? w _ hx430_4)).trans hx430_4
     replace hx430_5 := (HB.out.cell (World.block_lt_of_cell? w _ hx430_5)).trans hx430_5
     replace hx430_6 := (HB.out.cell (World.block_lt_of_cell? w _ hx430_6)).trans hx430_6
     replace hx430_7 := (HB.out.cell (World.block_lt_of_cell? w _ hx430_7)).trans hx430_7
     replace p430 := eq_true p430
     replace q430 := eq_true q430
     refine start_ (n := 8) (S := fun w' => w'.cell? (ad430.add ((x5_1).toNat * 8)) = some (.string ((rd_T74 l0 x5_1).f0)) ∧ w'.cell? ⟨(ad430.add ((x5_1).toNat * 8)).block, (ad430.add ((x5_1).toNat * 8)).off + 1, none⟩ = some (.int .i64 ((rd_T74 l0 x5_1).f1)) ∧ w'.cell? ⟨(ad430.add ((x5_1).toNat * 8)).block, (ad430.add ((x5_1).toNat * 8)).off + 2, none⟩ = some (.int .i64 ((rd_T74 l0 x5_1).f2)) ∧ w'.cell? ⟨(ad430.add ((x5_1).toNat * 8)).block, (ad430.add ((x5_1).toNat * 8)).off + 3, none⟩ = some (.int .i64 ((rd_T74 l0 x5_1).f3)) ∧ w'.cell? ⟨(ad430.add ((x5_1).toNat * 8)).block, (ad430.add ((x5_1).toNat * 8)).off + 4, none⟩ = some (.int .i64 ((rd_T74 l0 x5_1).f4)) ∧ w'.cell? ⟨(ad430.add ((x5_1).toNat * 8)).block, (ad430.add ((x5_1).toNat * 8)).off + 5, none⟩ = some (.int .i64 ((rd_T74 l0 x5_1).f5)) ∧ w'.cell? ⟨(ad430.add ((x5_1).toNat * 8)).block, (ad430.add ((x5_1).toNat * 8)).off + 6, none⟩ = some (.int .i64 ((rd_T74 l0 x5_1).f6)) ∧ w'.cell? ⟨(ad430.add ((x5_1).toNat * 8)).block, (ad430.add ((x5_1).toNat * 8)).off + 7, none⟩ = some (.string ((rd_T74 l0 x5_1).f7))) (ds := []) (Gtr.bb 8 0) (by kernel_rfl) rfl rfl ⟨((HB.out.cell (World.block_lt_of_cell? w _ hw430_0)).trans hw430_0), ((HB.out.cell (World.block_lt_of_cell? w _ hw430_1)).trans hw430_1), ((HB.out.cell (World.block_lt_of_cell? w _ hw430_2)).trans hw430_2), ((HB.out.cell (World.block_lt_of_cell? w _ hw430_3)).trans hw430_3), ((HB.out.cell (World.block_lt_of_cell? w _ hw430_4)).trans hw430_4), ((HB.out.cell (World.block_lt_of_cell? w _ hw430_5)).trans hw430_5), ((HB.out.cell (World.block_lt_of_cell? w _ hw430_6)).trans hw430_6), ((HB.out.cell (World.block_lt_of_cell? w _ hw430_7)).trans hw430_7)⟩ (fun hHeld => ?_); refine with_tabW laws_heldItemS.tab4 laws_heldItemS.bits4 (fun HT_ HW_ => ?_)
     generalize wr.drew = w35 at HB hx430_0 hx430_1 hx430_2 hx430_3 hx430_4 hx430_5 hx430_6 hx430_7 hHeld ⊢
     refine pure_ (i := 0) (N := some 12) (v := ?_) (a' := ?_) (Gtr.bb 8 1) rfl rfl (any_of HT_.out (by kernel_rfl)) (fun _ _ _ h => h) (Or.inl ⟨by rfl, ?_⟩) ?_ ?_
     rotate_left
     ·intro w'
      go_simp
      with_reducible rfl
     rotate_left
     ·simp only [Gtr.ps]
      rfl
     refine pure_ (i := 1) (N := some 13) (v := ?_) (a' := ?_) (Gtr.bb 8 3) rfl rfl (any_of HT_.out (by kernel_rfl)) (fun _ _ _ h => h) (Or.inl ⟨by rfl, ?_⟩) ?_ ?_
     rotate_left
     ·intro w'
      go_simp
      with_reducible rfl
     rotate_left
     ·simp only [Gtr.ps]
      rfl
     refine pure_ (i := 2) (N := some 14) (v := ?_) (a' := ?_) (Gtr.bb 8 7) rfl rfl (any_of HT_.out (by kernel_rfl)) (fun _ _ _ h => h) (Or.inl ⟨by rfl, ?_⟩) ?_ ?_
     rotate_left
     ·intro w'
      go_simp
      with_reducible rfl
     rotate_left
     ·simp only [Gtr.ps]
      rfl
     refine pure_ (i := 3) (N := some 15) (v := ?_) (a' := ?_) (Gtr.bb 8 15) rfl rfl (any_of HT_.out (by kernel_rfl)) (fun _ _ _ h => h) (Or.inl ⟨by rfl, ?_⟩) ?_ ?_
     rotate_left
     ·intro w'
      go_simp
      with_reducible rfl
     rotate_left
     ·simp only [Gtr.ps]
      rfl
     refine pure_ (i := 5) (N := some 17) (v := ?_) (a' := ?_) (Gtr.bb 8 47) rfl rfl (any_of HT_.out (by kernel_rfl)) (fun _ _ _ h => h) (Or.inl ⟨by rfl, ?_⟩) ?_ ?_
     rotate_left
     ·intro w'
      go_simp
      with_reducible rfl
     rotate_left
     ·simp only [Gtr.ps]
      rfl
     refine take_ (i := 4) (N := some 16) (v := ?_) (a' := ?_) (Gtr.bb 8 63) rfl rfl (take_ofW HT_.out HW_.out (by kernel_rfl)) (fun _ _ _ h => h) (Or.inl ⟨by rfl, ?_⟩) hHeld ?_ ?_
     rotate_left
     ·rintro w' ⟨s0, s1, s2, s3, s4, s5, s6, s7⟩
      go_simp
      with_reducible rfl
     rotate_left
     ·simp only [Gtr.ps]
      rfl
     refine one_ (i := 6) (N := some 18) (Gtr.bb 8 127) rfl rfl (one_of HT_.out (by kernel_rfl)) (by decide) (fun K hK => ?_)
     refine goes_ Tryz.func74 (by kernel_rfl) rfl #[.int .i64 x1_1] (by rfl) rfl rfl (by (try simp only [List.map_toArray, List.map_cons, List.map_nil]); first | done | rfl | (simp only [List.length_drop, List.length_take]; rfl)) ?_
     with_reducible refine (laws_markText.calls k1 x1_1 t431 _ A5.out).mono ?_
     rintro e w36 ⟨rfl, hb⟩
     refine ⟨_, rfl, ?_⟩
     have n0_ := Aside0.mk (below_step (Gtr.bw HB.out) hb)
     clear HB
     have HB := n0_
     clear n0_
     (try clear hb);(try clear hb2);(try clear hk);(try clear hi)
     refine hK.out _ _ ⟨((HB.out.cell (World.block_lt_of_cell? w _ hw430_0)).trans hw430_0), ((HB.out.cell (World.block_lt_of_cell? w _ hw430_1)).trans hw430_1), ((HB.out.cell (World.block_lt_of_cell? w _ hw430_2)).trans hw430_2), ((HB.out.cell (World.block_lt_of_cell? w _ hw430_3)).trans hw430_3), ((HB.out.cell (World.block_lt_of_cell? w _ hw430_4)).trans hw430_4), ((HB.out.cell (World.block_lt_of_cell? w _ hw430_5)).trans hw430_5), ((HB.out.cell (World.block_lt_of_cell? w _ hw430_6)).trans hw430_6), ((HB.out.cell (World.block_lt_of_cell? w _ hw430_7)).trans hw430_7)⟩ (fun hHeld => ?_)
     clear hK K
     refine norm_ (a' := ?_) ?_ ?_
     rotate_left
     ·show Act.put _ (some 18) _ = _
      simp only [Gtr.ps]
      rfl
     refine pure_ (i := 7) (N := some 19) (v := ?_) (a' := ?_) (Gtr.bb 8 255) rfl rfl (any_of HT_.out (by kernel_rfl)) (fun _ _ _ h => h) (Or.inl ⟨by rfl, ?_⟩) ?_ ?_
     rotate_left
     ·intro w'
      go_simp
      with_reducible rfl
     rotate_left
     ·simp only [Gtr.ps]
      rfl
     refine done_ (done_of HT_.out (by kernel_rfl)) ?_
     try go_wp2
     go_ret
     exact ⟨by first | rfl | (simp [errW_none, errW_some] <;> rfl) | (simp [*, errW_none, errW_some] <;> rfl), (Gtr.bw HB.out)⟩
   ·rw [if_neg c3] at H
    have c3b0 : decide (x5_1 < (l0.length : Int)) = false := decide_eq_false c3
    clear c3
    obtain rfl := Option.some.inj H
    go_wp2
    go_ret
    exact ⟨by first | rfl | (simp [errW_none, errW_some] <;> rfl) | (simp [*, errW_none, errW_some] <;> rfl), (Gtr.bw HB.out)⟩
end Go.Proofs.YthhmkbchdiflcaaGreatDoor.Q
