/- Texts of this claim, merged by a program (wip/tools/merge.py): Q136, HPureFs, HPureFits. -/
import Derived.Test.YthalkpflbbpniaaGreatDoorF2
import Derived.Test.YthalkpflbbpniaaGreatDoorF4
import Derived.Test.YthalkpflbbpniaaGreatDoorF5
import Derived.Test.YthalkpflbbpniaaGreatDoorF13
import Derived.Test.YthalkpflbbpniaaGreatDoorF14
-- Printed by a program of this session (wip/tools/myprint.py) that runs the kit's print, hand-proved functions among the others.
namespace Go.Proofs.YthalkpflbbpniaaGreatDoor.Q
open Go.RowKit Go.Proofs.YthalkpflbbpniaaGreatDoorW.PrintWords Go.Proofs.YthalkpflbbpniaaGreatDoorW.PrintLast Go.Proofs.YthalkpflbbpniaaGreatDoorW.PrintMore
attribute [local go_sem] max2_int min2_int max_two min_two max_three min_three max_four min_four   -- for this text's walks alone
set_option linter.unusedVariables false
set_option linter.unusedSimpArgs false

/-! ### laws_FnExactFitsCopy: function 4 -/
def laws_FnExactFitsCopy.j0 : Nat → Bool → List (S78) → Int → List (S70) → Int → Option (Bool)
 | 0, _, _, _, _, _ => none
 | k + 1, x38, x577000, x577001, x589000, x589001 => if x38 = true then (some false) else ((laws_toFs.f k x577000 x577001).bind fun bt591 => ((laws_eqFs.f k x589000 x589001 bt591.1 bt591.2).bind fun t595 => (if t595 = true then (some true) else (some false))))
def laws_FnExactFitsCopy.f (k : Nat) (l0_0 : List (S78)) (a0_1 : Int) (a1 : Int) : Option (Bool) := (laws_szFs.f k l0_0 a0_1 1048576).bind fun t577 => (if t577 < 0 then (some true) else ((laws_toFs.f k l0_0 a0_1).bind fun bt578 => ((spec_FitsCopy.f k bt578.1 bt578.2 a1).bind fun bt582 => ((laws_toFs.f k l0_0 a0_1).bind fun bt584 => ((impl_FitsCopy.f k bt584.1 bt584.2 a1).bind fun bt589 => (if (bt589.1 != bt582.1) = true then (laws_FnExactFitsCopy.j0 k true l0_0 a0_1 bt584.1 bt584.2) else (laws_FnExactFitsCopy.j0 k (bt589.2 != bt582.2) l0_0 a0_1 bt584.1 bt584.2)))))))
set_option maxHeartbeats 8000000 in
set_option maxRecDepth 100000 in
theorem laws_FnExactFitsCopy.calls (k : Nat) (A0_0 : Option Addr) (c0_0 : Nat) (l0_0 : List (S78)) (a0_1 : Int) (a1 : Int) (r : Bool) (w : World) (hr0_0 : Kd.C k78 w A0_0 l0_0.length l0_0) (hc0_0 : l0_0.length ≤ c0_0) (h : laws_FnExactFitsCopy.f k l0_0 a0_1 a1 = some r) :
  Calls Tryz.prog 4 #[.agg #[.slice A0_0 l0_0.length c0_0, .int .i64 a0_1], .int .i64 a1] w fun e w' => e = .returned (.bool r) ∧ Below w.heap.size w w' := by
 have hu24 := Tryz.underlying24
 have hu34 := Tryz.underlying34
 have HR0_0 := Aside0.mk hr0_0
 have HC0_0 := Aside0.mk hc0_0
 clear hr0_0 hc0_0
 have HB := Aside0.mk (Below.refl w.heap.size w)
 have H : ((laws_szFs.f k l0_0 a0_1 1048576).bind fun t577 => (if t577 < 0 then (some true) else ((laws_toFs.f k l0_0 a0_1).bind fun bt578 => ((spec_FitsCopy.f k bt578.1 bt578.2 a1).bind fun bt582 => ((laws_toFs.f k l0_0 a0_1).bind fun bt584 => ((impl_FitsCopy.f k bt584.1 bt584.2 a1).bind fun bt589 => (if (bt589.1 != bt582.1) = true then (laws_FnExactFitsCopy.j0 k true l0_0 a0_1 bt584.1 bt584.2) else (laws_FnExactFitsCopy.j0 k (bt589.2 != bt582.2) l0_0 a0_1 bt584.1 bt584.2)))))))) = some r := h
 clear h
 replace H := Option.bind_eq_some_iff.mp H
 obtain ⟨t577, A30, H⟩ := H
 try dsimp only at H
 have A3 := Aside0.mk A30
 clear A30
 by_cases c4 : t577 < 0
 ·rw [if_pos c4] at H
  have c4b0 : decide (t577 < 0) = true := decide_eq_true c4
  clear c4
  obtain rfl := Option.some.inj H
  go_enter Tryz.func4, Tryz.ntmps4
  go_wp2_with (first | ((with_reducible refine gate_dst (N := 2) rfl ?_); refine box_event ?hg (N := 2) ?hd (cs := #[.slice A0_0 l0_0.length c0_0, .int .i64 a0_1]) (t := 24) ?hr ?_; (case hd => rfl); (case hg => rfl); (case hr => first | (go_simp; done) | (go_simp; rfl)); intro gb576 hg w5 hbox hb; have n0_ := Aside0.mk (below_step (Gtr.bw HB.out) hb); have n1_ := Aside0.mk (hbox); have n2_ := Aside0.mk ((by rw [hg]; exact (below_size (Gtr.bw HB.out)) : w.heap.size ≤ gb576)); have n3_ := Aside0.mk ((by rw [hg]; exact (below_size (Gtr.bw HB.out)) : w.heap.size ≤ gb576)); clear HB; have HB := n0_; have BK576 := n1_; have GW576 := n2_; have GE576 := n3_; clear n0_ n1_ n2_ n3_; clear hb hbox hg; have hcz6_0 : w5.cell? ⟨gb576, 0, none⟩ = some (.slice A0_0 l0_0.length c0_0) := (blk_cell BK576.out 0).trans rfl; have hcz6_1 : w5.cell? ⟨gb576, 1, none⟩ = some (.int .i64 a0_1) := (blk_cell BK576.out 1).trans rfl; have hfz6_0 := blk_frozen BK576.out 0; have hfz6_1 := blk_frozen BK576.out 1) | ((with_reducible refine gate_callee (f := 5) rfl ?_); refine goesL_ (some 13) rfl rfl Tryz.func5 (by kernel_rfl) rfl #[.agg #[.slice A0_0 l0_0.length c0_0, .int .i64 a0_1], .int .i64 1048576] rfl (by (try simp only [List.map_toArray, List.map_cons, List.map_nil]); first | done | rfl | (simp only [List.length_drop, List.length_take]; rfl)) ?_; (with_reducible refine (laws_szFs.calls k _ _ l0_0 a0_1 1048576 t577 _ ?side1 ?side2 A3.out).mono ?_); (case side1 => repeat (first | exact (Kd.C_below HR0_0.out HB.out) | (with_reducible refine Kd.C_alloc ?_ _) | (with_reducible refine Kd.C_drewN ?_ _) | (with_reducible refine Kd.C_drew ?_))); (case side2 => exact HC0_0.out); rintro e w7 ⟨rfl, hb⟩; refine ⟨_, rfl, ?_⟩; have n0_ := Aside0.mk (blk_below (g := gb576) (o := .cells #[.slice A0_0 l0_0.length c0_0, .int .i64 a0_1] 24 (0, 0)) (by (with_reducible repeat (first | refine blk_drewN ?_ _ | refine blk_drew ?_ | refine blk_alloc ?_ _)); exact BK576.out) hb); have n1_ := Aside0.mk (below_step (Gtr.bw HB.out) hb); clear BK576; clear HB; have BK576 := n0_; have HB := n1_; clear n0_ n1_; (try clear hb); (try clear hb2); (try clear hk); (try clear hi)))
  go_ret
  exact ⟨by first | rfl | (simp [errW_none, errW_some] <;> rfl) | (simp [*, errW_none, errW_some] <;> rfl), (Gtr.bw HB.out)⟩
 ·rw [if_neg c4] at H
  have c4b0 : decide (t577 < 0) = false := decide_eq_false c4
  clear c4
  replace H := Option.bind_eq_some_iff.mp H
  obtain ⟨⟨t578, t581⟩, A80, H⟩ := H
  try dsimp only at H
  have A8 := Aside0.mk A80
  clear A80
  replace H := Option.bind_eq_some_iff.mp H
  obtain ⟨⟨t582, t583⟩, A90, H⟩ := H
  try dsimp only at H
  have A9 := Aside0.mk A90
  clear A90
  replace H := Option.bind_eq_some_iff.mp H
  obtain ⟨⟨t584, t587⟩, A100, H⟩ := H
  try dsimp only at H
  have A10 := Aside0.mk A100
  clear A100
  replace H := Option.bind_eq_some_iff.mp H
  obtain ⟨⟨t589, t590⟩, A110, H⟩ := H
  try dsimp only at H
  have A11 := Aside0.mk A110
  clear A110
  have HC12 := Aside0.mk H
  clear H
  go_enter Tryz.func4, Tryz.ntmps4
  go_upto_region 8 with (first | ((with_reducible refine gate_dst (N := 2) rfl ?_); refine box_event ?hg (N := 2) ?hd (cs := #[.slice A0_0 l0_0.length c0_0, .int .i64 a0_1]) (t := 24) ?hr ?_; (case hd => rfl); (case hg => rfl); (case hr => first | (go_simp; done) | (go_simp; rfl)); intro gb576 hg w13 hbox hb; have n0_ := Aside0.mk (below_step (Gtr.bw HB.out) hb); have n1_ := Aside0.mk (hbox); have n2_ := Aside0.mk ((by rw [hg]; exact (below_size (Gtr.bw HB.out)) : w.heap.size ≤ gb576)); have n3_ := Aside0.mk ((by rw [hg]; exact (below_size (Gtr.bw HB.out)) : w.heap.size ≤ gb576)); clear HB; have HB := n0_; have BK576 := n1_; have GW576 := n2_; have GE576 := n3_; clear n0_ n1_ n2_ n3_; clear hb hbox hg; have hcz14_0 : w13.cell? ⟨gb576, 0, none⟩ = some (.slice A0_0 l0_0.length c0_0) := (blk_cell BK576.out 0).trans rfl; have hcz14_1 : w13.cell? ⟨gb576, 1, none⟩ = some (.int .i64 a0_1) := (blk_cell BK576.out 1).trans rfl; have hfz14_0 := blk_frozen BK576.out 0; have hfz14_1 := blk_frozen BK576.out 1) | ((with_reducible refine gate_callee (f := 5) rfl ?_); refine goesL_ (some 13) rfl rfl Tryz.func5 (by kernel_rfl) rfl #[.agg #[.slice A0_0 l0_0.length c0_0, .int .i64 a0_1], .int .i64 1048576] rfl (by (try simp only [List.map_toArray, List.map_cons, List.map_nil]); first | done | rfl | (simp only [List.length_drop, List.length_take]; rfl)) ?_; (with_reducible refine (laws_szFs.calls k _ _ l0_0 a0_1 1048576 t577 _ ?side1 ?side2 A3.out).mono ?_); (case side1 => repeat (first | exact (Kd.C_below HR0_0.out HB.out) | (with_reducible refine Kd.C_alloc ?_ _) | (with_reducible refine Kd.C_drewN ?_ _) | (with_reducible refine Kd.C_drew ?_))); (case side2 => exact HC0_0.out); rintro e w15 ⟨rfl, hb⟩; refine ⟨_, rfl, ?_⟩; have n0_ := Aside0.mk (blk_below (g := gb576) (o := .cells #[.slice A0_0 l0_0.length c0_0, .int .i64 a0_1] 24 (0, 0)) (by (with_reducible repeat (first | refine blk_drewN ?_ _ | refine blk_drew ?_ | refine blk_alloc ?_ _)); exact BK576.out) hb); have n1_ := Aside0.mk (below_step (Gtr.bw HB.out) hb); clear BK576; clear HB; have BK576 := n0_; have HB := n1_; clear n0_ n1_; (try clear hb); (try clear hb2); (try clear hk); (try clear hi); have hcz16_0 : w15.cell? ⟨gb576, 0, none⟩ = some (.slice A0_0 l0_0.length c0_0) := (blk_cell BK576.out 0).trans rfl; have hcz16_1 : w15.cell? ⟨gb576, 1, none⟩ = some (.int .i64 a0_1) := (blk_cell BK576.out 1).trans rfl; have hfz16_0 := blk_frozen BK576.out 0; have hfz16_1 := blk_frozen BK576.out 1) | ((with_reducible refine gate_callee (f := 7) rfl ?_); refine goesL_ (some 18) rfl rfl Tryz.func7 (by kernel_rfl) rfl #[.agg #[.slice A0_0 l0_0.length c0_0, .int .i64 a0_1]] rfl (by (try simp only [List.map_toArray, List.map_cons, List.map_nil]); first | done | rfl | (simp only [List.length_drop, List.length_take]; rfl)) ?_; (with_reducible refine (laws_toFs.calls k _ _ l0_0 a0_1 t578 t581 _ ?side1 ?side2 A8.out).mono ?_); (case side1 => repeat (first | exact (Kd.C_below HR0_0.out HB.out) | (with_reducible refine Kd.C_alloc ?_ _) | (with_reducible refine Kd.C_drewN ?_ _) | (with_reducible refine Kd.C_drew ?_))); (case side2 => exact HC0_0.out); rintro e w17 ⟨v579, rfl, ho0, hb⟩; refine ⟨_, rfl, ?_⟩; have n0_ := Aside0.mk (Kd.S_lower ho0 (below_size (Gtr.bw HB.out))); have n1_ := Aside0.mk (blk_below (g := gb576) (o := .cells #[.slice A0_0 l0_0.length c0_0, .int .i64 a0_1] 24 (0, 0)) (by (with_reducible repeat (first | refine blk_drewN ?_ _ | refine blk_drew ?_ | refine blk_alloc ?_ _)); exact BK576.out) hb); have n2_ := Aside0.mk (below_step (Gtr.bw HB.out) hb); clear BK576; clear HB; have HO580 := n0_; have BK576 := n1_; have HB := n2_; clear n0_ n1_ n2_; (try clear hb); (try clear hb2); (try clear hk); (try clear hi); (try clear ho0); obtain ⟨Ao18, co18, eo18⟩ := Kd.S_slice HO580.out; subst eo18) | ((with_reducible refine gate_callee (f := 18) rfl ?_); refine goesL_ (some 20) rfl rfl Tryz.func18 (by kernel_rfl) rfl #[.agg #[.slice Ao18 t578.length co18, .int .i64 t581], .int .i64 a1] rfl (by (try simp only [List.map_toArray, List.map_cons, List.map_nil]); first | done | rfl | (simp only [List.length_drop, List.length_take]; rfl)) ?_; (with_reducible refine (spec_FitsCopy.calls k _ _ t578 t581 a1 t582 t583 _ ?side1 ?side2 A9.out).mono ?_); (case side1 => repeat (first | exact (Kd.S_reads' HO580.out).2.2 | (with_reducible refine Kd.C_alloc ?_ _) | (with_reducible refine Kd.C_drewN ?_ _) | (with_reducible refine Kd.C_drew ?_))); (case side2 => exact (Kd.S_reads' HO580.out).2.1); rintro e w19 ⟨rfl, hb⟩; refine ⟨_, rfl, ?_⟩; have n0_ := Aside0.mk (Kd.S_below (by (with_reducible repeat (first | apply Kd.S_alloc | apply Kd.S_drewN | apply Kd.S_drew)); exact HO580.out) hb); have n1_ := Aside0.mk (blk_below (g := gb576) (o := .cells #[.slice A0_0 l0_0.length c0_0, .int .i64 a0_1] 24 (0, 0)) (by (with_reducible repeat (first | refine blk_drewN ?_ _ | refine blk_drew ?_ | refine blk_alloc ?_ _)); exact BK576.out) hb); have n2_ := Aside0.mk (below_step (Gtr.bw HB.out) hb); clear HO580; clear BK576; clear HB; have HO580 := n0_; have BK576 := n1_; have HB := n2_; clear n0_ n1_ n2_; (try clear hb); (try clear hb2); (try clear hk); (try clear hi); have hcz20_0 : w19.cell? ⟨gb576, 0, none⟩ = some (.slice A0_0 l0_0.length c0_0) := (blk_cell BK576.out 0).trans rfl; have hcz20_1 : w19.cell? ⟨gb576, 1, none⟩ = some (.int .i64 a0_1) := (blk_cell BK576.out 1).trans rfl; have hfz20_0 := blk_frozen BK576.out 0; have hfz20_1 := blk_frozen BK576.out 1) | ((with_reducible refine gate_callee (f := 7) rfl ?_); refine goesL_ (some 24) rfl rfl Tryz.func7 (by kernel_rfl) rfl #[.agg #[.slice A0_0 l0_0.length c0_0, .int .i64 a0_1]] rfl (by (try simp only [List.map_toArray, List.map_cons, List.map_nil]); first | done | rfl | (simp only [List.length_drop, List.length_take]; rfl)) ?_; (with_reducible refine (laws_toFs.calls k _ _ l0_0 a0_1 t584 t587 _ ?side1 ?side2 A10.out).mono ?_); (case side1 => repeat (first | exact (Kd.C_below HR0_0.out HB.out) | (with_reducible refine Kd.C_alloc ?_ _) | (with_reducible refine Kd.C_drewN ?_ _) | (with_reducible refine Kd.C_drew ?_))); (case side2 => exact HC0_0.out); rintro e w21 ⟨v585, rfl, ho0, hb⟩; refine ⟨_, rfl, ?_⟩; have n0_ := Aside0.mk (Kd.S_elder' (by (with_reducible repeat (first | apply Kd.S_alloc | apply Kd.S_drewN | apply Kd.S_drew)); exact HO580.out) (Kd.S_base ho0) hb); have n1_ := Aside0.mk (Kd.S_lower (Kd.S_new' ho0 (Kd.S_lt (by (with_reducible repeat (first | apply Kd.S_alloc | apply Kd.S_drewN | apply Kd.S_drew)); exact HO580.out))) (below_size (Gtr.bw HB.out))); have n2_ := Aside0.mk (blk_below (g := gb576) (o := .cells #[.slice A0_0 l0_0.length c0_0, .int .i64 a0_1] 24 (0, 0)) (by (with_reducible repeat (first | refine blk_drewN ?_ _ | refine blk_drew ?_ | refine blk_alloc ?_ _)); exact BK576.out) hb); have n3_ := Aside0.mk (below_step (Gtr.bw HB.out) hb); clear HO580; clear BK576; clear HB; have HO580 := n0_; have HO586 := n1_; have BK576 := n2_; have HB := n3_; clear n0_ n1_ n2_ n3_; (try clear hb); (try clear hb2); (try clear hk); (try clear hi); (try clear ho0)) | ((with_reducible refine gate_dst (N := 8) rfl ?_); refine box_event ?hg (N := 8) ?hd (cs := #[.slice none 0 0, .int .i64 0]) (t := 34) ?hr ?_; (case hd => rfl); (case hg => rfl); (case hr => first | (go_simp; done) | (go_simp; rfl)); intro gb588 hg w22 hbox hb; have n0_ := Aside0.mk (Kd.S_below (by (with_reducible repeat (first | apply Kd.S_alloc | apply Kd.S_drewN | apply Kd.S_drew)); exact HO580.out) hb); have n1_ := Aside0.mk (Kd.S_below (by (with_reducible repeat (first | apply Kd.S_alloc | apply Kd.S_drewN | apply Kd.S_drew)); exact HO586.out) hb); have n2_ := Aside0.mk (blk_below (g := gb576) (o := .cells #[.slice A0_0 l0_0.length c0_0, .int .i64 a0_1] 24 (0, 0)) (by (with_reducible repeat (first | refine blk_drewN ?_ _ | refine blk_drew ?_ | refine blk_alloc ?_ _)); exact BK576.out) hb); have n3_ := Aside0.mk (below_step (Gtr.bw HB.out) hb); have n4_ := Aside0.mk (hbox); have n5_ := Aside0.mk ((by rw [hg]; exact (below_size (Gtr.bw HB.out)) : w.heap.size ≤ gb588)); have n6_ := Aside0.mk ((by rw [hg]; exact (below_size (Gtr.bw HB.out)) : w.heap.size ≤ gb588)); have n7_ := Aside0.mk ((by rw [hg]; exact Nat.ne_of_lt (blk_lt (g := gb576) (o := .cells #[.slice A0_0 l0_0.length c0_0, .int .i64 a0_1] 24 (0, 0)) (by (with_reducible repeat (first | refine blk_drewN ?_ _ | refine blk_drew ?_ | refine blk_alloc ?_ _)); exact BK576.out)) : gb576 ≠ gb588)); have n8_ := Aside0.mk ((by rw [hg]; exact Nat.ne_of_gt (blk_lt (g := gb576) (o := .cells #[.slice A0_0 l0_0.length c0_0, .int .i64 a0_1] 24 (0, 0)) (by (with_reducible repeat (first | refine blk_drewN ?_ _ | refine blk_drew ?_ | refine blk_alloc ?_ _)); exact BK576.out)) : gb588 ≠ gb576)); clear HO580; clear HO586; clear BK576; clear HB; have HO580 := n0_; have HO586 := n1_; have BK576 := n2_; have HB := n3_; have BK588 := n4_; have GW588 := n5_; have GE588 := n6_; have NB576_588 := n7_; have NB588_576 := n8_; clear n0_ n1_ n2_ n3_ n4_ n5_ n6_ n7_ n8_; clear hb hbox hg; obtain ⟨Ao23, co23, eo23⟩ := Kd.S_slice HO586.out; subst eo23; have hnb24 := NB588_576.out; have hnc24 := NB576_588.out; have hcz25_0 : w22.cell? ⟨gb588, 0, none⟩ = some (.slice none 0 0) := (blk_cell BK588.out 0).trans rfl; have hcz25_1 : w22.cell? ⟨gb588, 1, none⟩ = some (.int .i64 0) := (blk_cell BK588.out 1).trans rfl; have hfz25_0 := blk_frozen BK588.out 0; have hfz25_1 := blk_frozen BK588.out 1) | ((with_reducible refine gate_callee (f := 19) rfl ?_); refine goesL_ (some 28) rfl rfl Tryz.func19 (by kernel_rfl) rfl #[.agg #[.slice Ao23 t584.length co23, .int .i64 t587], .int .i64 a1] rfl (by (try simp only [List.map_toArray, List.map_cons, List.map_nil]); first | done | rfl | (simp only [List.length_drop, List.length_take]; rfl)) ?_; (with_reducible refine (impl_FitsCopy.calls k _ _ t584 t587 a1 t589 t590 _ ?side1 ?side2 A11.out).mono ?_); (case side1 => refine (Kd.S_reads' (e := 70) (base := w.heap.size) (ok := fun k_ => (True ∧ some k_ ≠ (.slice Ao18 t578.length co18 : Value).ownBlock)) (n := t584.length) (c := co23) ?_).2.2; exact (by (with_reducible repeat (first | apply Kd.S_alloc | apply Kd.S_drewN | apply Kd.S_drew)); exact (Kd.S_mono (Kd.S_far (p := ⟨gb588, 1, none⟩) (Kd.S_far (p := ⟨gb588, 0, none⟩) (Kd.S_types HO586.out BK588.out (by decide)) (fun _ hk => hk.2) (.slice Ao23 t584.length co23)) (fun _ hk => hk.2) (.int .i64 t587)) (fun _ h_ => h_.1)))); (case side2 => exact (Kd.S_reads' HO586.out).2.1); rintro e w26 ⟨rfl, hb⟩; refine ⟨_, rfl, ?_⟩; have n0_ := Aside0.mk (Kd.S_below (by (with_reducible repeat (first | apply Kd.S_alloc | apply Kd.S_drewN | apply Kd.S_drew)); exact (Kd.S_mono (Kd.S_far (p := ⟨gb588, 1, none⟩) (Kd.S_far (p := ⟨gb588, 0, none⟩) (Kd.S_types HO580.out BK588.out (by decide)) (fun _ hk => hk.2) (.slice Ao23 t584.length co23)) (fun _ hk => hk.2) (.int .i64 t587)) (fun _ h_ => h_.1))) hb); have n1_ := Aside0.mk (Kd.S_below (by (with_reducible repeat (first | apply Kd.S_alloc | apply Kd.S_drewN | apply Kd.S_drew)); exact (Kd.S_mono (Kd.S_far (p := ⟨gb588, 1, none⟩) (Kd.S_far (p := ⟨gb588, 0, none⟩) (Kd.S_types HO586.out BK588.out (by decide)) (fun _ hk => hk.2) (.slice Ao23 t584.length co23)) (fun _ hk => hk.2) (.int .i64 t587)) (fun _ h_ => h_.1))) hb); have n2_ := Aside0.mk (blk_below (g := gb576) (o := .cells #[.slice A0_0 l0_0.length c0_0, .int .i64 a0_1] 24 (0, 0)) (by (with_reducible repeat (first | refine blk_drewN ?_ _ | refine blk_drew ?_ | refine blk_alloc ?_ _)); refine blk_far ?_ NB576_588.out _; (with_reducible repeat (first | refine blk_drewN ?_ _ | refine blk_drew ?_ | refine blk_alloc ?_ _)); refine blk_far ?_ NB576_588.out _; (with_reducible repeat (first | refine blk_drewN ?_ _ | refine blk_drew ?_ | refine blk_alloc ?_ _)); exact BK576.out) hb); have n3_ := Aside0.mk (blk_below (g := gb588) (o := .cells #[.slice Ao23 t584.length co23, .int .i64 t587] 34 (0, 0)) (by (with_reducible repeat (first | refine blk_drewN ?_ _ | refine blk_drew ?_ | refine blk_alloc ?_ _)); refine blk_put (cs := #[.slice Ao23 t584.length co23, .int .i64 0]) ?_ 1 _ rfl; (with_reducible repeat (first | refine blk_drewN ?_ _ | refine blk_drew ?_ | refine blk_alloc ?_ _)); refine blk_put (cs := #[.slice none 0 0, .int .i64 0]) ?_ 0 _ rfl; (with_reducible repeat (first | refine blk_drewN ?_ _ | refine blk_drew ?_ | refine blk_alloc ?_ _)); exact BK588.out) hb); have n4_ := Aside0.mk (below_step (Gtr.bw HB.out) hb); clear HO580; clear HO586; clear BK576; clear BK588; clear HB; have HO580 := n0_; have HO586 := n1_; have BK576 := n2_; have BK588 := n3_; have HB := n4_; clear n0_ n1_ n2_ n3_ n4_; (try clear hb); (try clear hb2); (try clear hk); (try clear hi)))
  (try simp only [Act.put, List.setIfInBounds_toArray, List.set_cons_zero, List.set_cons_succ])
  go_cut [38] (fun v38 wc => ∃ (kq : Nat) (x38_11 : Bool), v38 = .bool x38_11 ∧ Aside0 (laws_FnExactFitsCopy.j0 kq x38_11 l0_0 a0_1 t584 t587 = some r) ∧ Aside0 (kq ≤ k) ∧ Aside0 (Kd.S k70 70 wc w.heap.size (fun _ => True) (.slice Ao23 t584.length co23) t584) ∧ Aside0 (wc.heap[gb576]? = some (.cells #[(.slice A0_0 l0_0.length c0_0), .int .i64 a0_1] 24 (0, 0))) ∧ Aside0 (wc.heap[gb588]? = some (.cells #[(.slice Ao23 t584.length co23), .int .i64 t587] 34 (0, 0))) ∧ Aside0 (Below w.heap.size w wc))
  case first =>
   have H := HC12.out
   clear HC12
   by_cases c27 : (t589 != t582) = true
   ·rw [if_pos c27] at H
    have c27b0 : (t589 != t582) = true := c27
    (try (have c27b1 : decide (t589 = t582) = false := by simpa using c27))
    (try (have c27b2 : (t589 == t582) = false := by simpa using c27))
    (try (have c27b3 : ¬ (t589 = t582) := by simpa using c27))
    clear c27
    (first | rw [c27b0] | (simp only [i64_w, i32_w]; rw [c27b0]) | skip)
    have H' := Aside0.mk H
    clear H
    go_wp2
    go_meet
    case rel => exact ⟨_, (true), (by first | rfl | (simp; done) | (simp [*]; done)), H', ⟨by first | omega | exact Nat.le_refl _⟩, ⟨by (with_reducible repeat (first | apply Kd.S_alloc | apply Kd.S_drewN | apply Kd.S_drew)); exact Kd.S_mono HO586.out (fun _ hk => trivial)⟩, ⟨by (with_reducible repeat (first | refine blk_drewN ?_ _ | refine blk_drew ?_ | refine blk_alloc ?_ _)); exact BK576.out⟩, ⟨by (with_reducible repeat (first | refine blk_drewN ?_ _ | refine blk_drew ?_ | refine blk_alloc ?_ _)); exact BK588.out⟩, ⟨(Gtr.bw HB.out)⟩⟩
   ·rw [if_neg c27] at H
    have c27b0 : (t589 != t582) = false := by simpa using c27
    (try (have c27b1 : decide (t589 = t582) = true := by simpa using c27))
    (try (have c27b2 : (t589 == t582) = true := by simpa using c27))
    clear c27
    (first | rw [c27b0] | (simp only [i64_w, i32_w]; rw [c27b0]) | skip)
    have H' := Aside0.mk H
    clear H
    go_wp2
    go_meet
    case rel => exact ⟨_, ((t590 != t583)), (by first | rfl | (simp; done) | (simp [*]; done)), H', ⟨by first | omega | exact Nat.le_refl _⟩, ⟨by (with_reducible repeat (first | apply Kd.S_alloc | apply Kd.S_drewN | apply Kd.S_drew)); exact Kd.S_mono HO586.out (fun _ hk => trivial)⟩, ⟨by (with_reducible repeat (first | refine blk_drewN ?_ _ | refine blk_drew ?_ | refine blk_alloc ?_ _)); exact BK576.out⟩, ⟨by (with_reducible repeat (first | refine blk_drewN ?_ _ | refine blk_drew ?_ | refine blk_alloc ?_ _)); exact BK588.out⟩, ⟨(Gtr.bw HB.out)⟩⟩
  case rest =>
   clear HC12
   (try clear c1);(try clear c2);(try clear p2);(try clear c4);(try clear c4b0);(try clear c5);(try clear c7);(try clear c18);(try clear c19);(try clear c24);(try clear c27);(try clear c27b0);(try clear c27b1);(try clear c27b2);(try clear hcz14_0);(try clear hcz14_1);(try clear hcz16_0);(try clear hcz16_1);(try clear hcz20_0);(try clear hcz20_1);(try clear hcz25_0);(try clear hcz25_1);(try clear hcz6_0);(try clear hcz6_1);(try clear hfz14_0);(try clear hfz14_1);(try clear hfz16_0);(try clear hfz16_1);(try clear hfz20_0);(try clear hfz20_1);(try clear hfz25_0);(try clear hfz25_1);(try clear hfz6_0);(try clear hfz6_1)
   obtain ⟨kq, x38_11, rfl, HA, HJ11, HO_589000, BK576, BK588, HB⟩ := hcut
   cases kq with
   | zero => exact absurd HA.out (by simp [laws_FnExactFitsCopy.j0])
   | succ kj11 =>
    have H := HA.out
    clear HA
    simp only [laws_FnExactFitsCopy.j0] at H
    by_cases c28 : x38_11 = true
    ·subst c28
     have H1 := H
     rw [if_pos rfl] at H1
     clear H
     have H := H1
     clear H1
     obtain rfl := Option.some.inj H
     go_wp2
     go_ret
     exact ⟨by first | rfl | (simp [errW_none, errW_some] <;> rfl) | (simp [*, errW_none, errW_some] <;> rfl), (Gtr.bw HB.out)⟩
    ·replace c28 := Bool.eq_false_iff.mpr c28
     subst c28
     have H1 : ((laws_toFs.f kj11 l0_0 a0_1).bind fun bt591 => ((laws_eqFs.f kj11 t584 t587 bt591.1 bt591.2).bind fun t595 => (if t595 = true then (some true) else (some false)))) = some r := by rw [if_neg (show ¬ (false = true) by decide)] at H; exact H
     clear H
     have H := H1
     clear H1
     replace H := Option.bind_eq_some_iff.mp H
     obtain ⟨⟨t591, t594⟩, A290, H⟩ := H
     try dsimp only at H
     have A29 := Aside0.mk A290
     clear A290
     replace H := Option.bind_eq_some_iff.mp H
     obtain ⟨t595, A300, H⟩ := H
     try dsimp only at H
     have A30 := Aside0.mk A300
     clear A300
     by_cases c31 : t595 = true
     ·subst c31
      have H1 := H
      rw [if_pos rfl] at H1
      clear H
      have H := H1
      clear H1
      obtain rfl := Option.some.inj H
      try go_wp2
      have n0_ := Aside0.mk (Kd.S_drew HO_589000.out)
      have n1_ := Aside0.mk (blk_drew BK576.out)
      have n2_ := Aside0.mk (blk_drew BK588.out)
      have n3_ := Aside0.mk (below_drew1 HB.out)
      clear HO_589000
      clear BK576
      clear BK588
      clear HB
      have HO_589000 := n0_
      have BK576 := n1_
      have BK588 := n2_
      have HB := n3_
      clear n0_ n1_ n2_ n3_
      refine start_ (n := 5) (S := fun w' => w'.cell? ⟨gb588, 0, none⟩ = some (.slice Ao23 t584.length co23) ∧ w'.cell? ⟨gb588, 1, none⟩ = some (.int .i64 t587) ∧ w'.cell? ⟨gb576, 0, none⟩ = some (.slice A0_0 l0_0.length c0_0) ∧ w'.cell? ⟨gb576, 1, none⟩ = some (.int .i64 a0_1)) (ds := []) (Gtr.bb 5 0) (by kernel_rfl) rfl rfl ⟨(blk_cell BK588.out 0).trans rfl, (blk_cell BK588.out 1).trans rfl, (blk_cell BK576.out 0).trans rfl, (blk_cell BK576.out 1).trans rfl⟩ (fun hHeld => ?_)
      generalize wc.drew = w32 at HO_589000 BK576 BK588 HB hHeld ⊢
      refine take_ (i := 0) (N := some 39) (v := ?_) (a' := ?_) (Gtr.bb 5 1) rfl rfl (by kernel_rfl) (fun _ _ _ h => h) (Or.inl ⟨by rfl, ?_⟩) hHeld ?_ ?_
      rotate_left
      ·rintro w' ⟨s0, s1, s2, s3⟩
       go_simp
       with_reducible rfl
      rotate_left
      ·simp only [Gtr.ps]
       rfl
      refine take_ (i := 1) (N := some 40) (v := ?_) (a' := ?_) (Gtr.bb 5 3) rfl rfl (by kernel_rfl) (fun _ _ _ h => h) (Or.inl ⟨by rfl, ?_⟩) hHeld ?_ ?_
      rotate_left
      ·rintro w' ⟨s0, s1, s2, s3⟩
       go_simp
       with_reducible rfl
      rotate_left
      ·simp only [Gtr.ps]
       rfl
      refine one_ (i := 2) (N := some 41) (Gtr.bb 5 7) rfl rfl (by kernel_rfl) (by decide) (fun K hK => ?_)
      refine goes_ Tryz.func7 (by kernel_rfl) rfl #[.agg #[.slice A0_0 l0_0.length c0_0, .int .i64 a0_1]] (by rfl) rfl rfl (by (try simp only [List.map_toArray, List.map_cons, List.map_nil]); first | done | rfl | (simp only [List.length_drop, List.length_take]; rfl)) ?_
      with_reducible refine (laws_toFs.calls kj11 _ _ l0_0 a0_1 t591 t594 _ ?side1 ?side2 A29.out).mono ?_
      (case side1 => repeat (first | exact (Kd.C_below HR0_0.out HB.out) | (with_reducible refine Kd.C_alloc ?_ _) | (with_reducible refine Kd.C_drewN ?_ _) | (with_reducible refine Kd.C_drew ?_)))
      (case side2 => exact HC0_0.out)
      rintro e w33 ⟨v592, rfl, ho0, hb⟩
      refine ⟨_, rfl, ?_⟩
      have n0_ := Aside0.mk (Kd.S_elder' (by (with_reducible repeat (first | apply Kd.S_alloc | apply Kd.S_drewN | apply Kd.S_drew)); exact HO_589000.out) (Kd.S_base ho0) hb)
      have n1_ := Aside0.mk (Kd.S_lower (Kd.S_new' ho0 (Kd.S_lt (by (with_reducible repeat (first | apply Kd.S_alloc | apply Kd.S_drewN | apply Kd.S_drew)); exact HO_589000.out))) (below_size (Gtr.bw HB.out)))
      have n2_ := Aside0.mk (blk_below (g := gb576) (o := .cells #[.slice A0_0 l0_0.length c0_0, .int .i64 a0_1] 24 (0, 0)) (by (with_reducible repeat (first | refine blk_drewN ?_ _ | refine blk_drew ?_ | refine blk_alloc ?_ _)); exact BK576.out) hb)
      have n3_ := Aside0.mk (blk_below (g := gb588) (o := .cells #[.slice Ao23 t584.length co23, .int .i64 t587] 34 (0, 0)) (by (with_reducible repeat (first | refine blk_drewN ?_ _ | refine blk_drew ?_ | refine blk_alloc ?_ _)); exact BK588.out) hb)
      have n4_ := Aside0.mk (below_step (Gtr.bw HB.out) hb)
      clear HO_589000
      clear BK576
      clear BK588
      clear HB
      have HO_589000 := n0_
      have HO593 := n1_
      have BK576 := n2_
      have BK588 := n3_
      have HB := n4_
      clear n0_ n1_ n2_ n3_ n4_
      (try clear hb);(try clear hb2);(try clear hk);(try clear hi);(try clear ho0)
      obtain ⟨Ao34, co34, eo34⟩ := Kd.S_slice HO593.out
      (first | subst eo34 | (injection eo34 with f1_ f2_ f3_; have f4_ := f1_.symm; have f5_ := f3_.symm; clear f1_ f2_ f3_; subst f4_; subst f5_))
      refine hK.out _ _ ⟨(blk_cell BK588.out 0).trans rfl, (blk_cell BK588.out 1).trans rfl, (blk_cell BK576.out 0).trans rfl, (blk_cell BK576.out 1).trans rfl⟩ (fun hHeld => ?_)
      clear hK K
      refine norm_ (a' := ?_) ?_ ?_
      rotate_left
      ·show Act.put _ (some 41) _ = _
       simp only [Gtr.ps]
       rfl
      refine one_ (i := 3) (N := some 42) (Gtr.bb 5 15) rfl rfl (by kernel_rfl) (by decide) (fun K hK => ?_)
      refine goes_ Tryz.func12 (by kernel_rfl) rfl #[.agg #[.slice Ao23 t584.length co23, .int .i64 t587], .agg #[.slice Ao34 t591.length co34, .int .i64 t594]] (by rfl) rfl rfl (by (try simp only [List.map_toArray, List.map_cons, List.map_nil]); first | done | rfl | (simp only [List.length_drop, List.length_take]; rfl)) ?_
      with_reducible refine (laws_eqFs.calls kj11 _ _ t584 t587 _ _ t591 t594 true _ ?side1 ?side2 ?side3 ?side4 A30.out).mono ?_
      (case side1 => repeat (first | exact (Kd.S_reads' HO_589000.out).2.2 | (with_reducible refine Kd.C_alloc ?_ _) | (with_reducible refine Kd.C_drewN ?_ _) | (with_reducible refine Kd.C_drew ?_)))
      (case side2 => exact (Kd.S_reads' HO_589000.out).2.1)
      (case side3 => repeat (first | exact (Kd.S_reads' HO593.out).2.2 | (with_reducible refine Kd.C_alloc ?_ _) | (with_reducible refine Kd.C_drewN ?_ _) | (with_reducible refine Kd.C_drew ?_)))
      (case side4 => exact (Kd.S_reads' HO593.out).2.1)
      rintro e w35 ⟨rfl, hb⟩
      refine ⟨_, rfl, ?_⟩
      have n0_ := Aside0.mk (Kd.S_below (by (with_reducible repeat (first | apply Kd.S_alloc | apply Kd.S_drewN | apply Kd.S_drew)); exact HO_589000.out) hb)
      have n1_ := Aside0.mk (Kd.S_below (by (with_reducible repeat (first | apply Kd.S_alloc | apply Kd.S_drewN | apply Kd.S_drew)); exact HO593.out) hb)
      have n2_ := Aside0.mk (blk_below (g := gb576) (o := .cells #[.slice A0_0 l0_0.length c0_0, .int .i64 a0_1] 24 (0, 0)) (by (with_reducible repeat (first | refine blk_drewN ?_ _ | refine blk_drew ?_ | refine blk_alloc ?_ _)); exact BK576.out) hb)
      have n3_ := Aside0.mk (blk_below (g := gb588) (o := .cells #[.slice Ao23 t584.length co23, .int .i64 t587] 34 (0, 0)) (by (with_reducible repeat (first | refine blk_drewN ?_ _ | refine blk_drew ?_ | refine blk_alloc ?_ _)); exact BK588.out) hb)
      have n4_ := Aside0.mk (below_step (Gtr.bw HB.out) hb)
      clear HO_589000
      clear HO593
      clear BK576
      clear BK588
      clear HB
      have HO_589000 := n0_
      have HO593 := n1_
      have BK576 := n2_
      have BK588 := n3_
      have HB := n4_
      clear n0_ n1_ n2_ n3_ n4_
      (try clear hb);(try clear hb2);(try clear hk);(try clear hi)
      refine hK.out _ _ ⟨(blk_cell BK588.out 0).trans rfl, (blk_cell BK588.out 1).trans rfl, (blk_cell BK576.out 0).trans rfl, (blk_cell BK576.out 1).trans rfl⟩ (fun hHeld => ?_)
      clear hK K
      refine norm_ (a' := ?_) ?_ ?_
      rotate_left
      ·show Act.put _ (some 42) _ = _
       simp only [Gtr.ps]
       rfl
      refine pure_ (i := 4) (N := some 43) (v := ?_) (a' := ?_) (Gtr.bb 5 31) rfl rfl (by kernel_rfl) (fun _ _ _ h => h) (Or.inl ⟨by rfl, ?_⟩) ?_ ?_
      rotate_left
      ·intro w'
       go_simp
       with_reducible rfl
      rotate_left
      ·simp only [Gtr.ps]
       rfl
      refine done_ (by kernel_rfl) ?_
      try go_wp2
      go_ret
      exact ⟨by first | rfl | (simp [errW_none, errW_some] <;> rfl) | (simp [*, errW_none, errW_some] <;> rfl), (Gtr.bw HB.out)⟩
     ·replace c31 := Bool.eq_false_iff.mpr c31
      subst c31
      have H1 : (some false) = some r := by rw [if_neg (show ¬ (false = true) by decide)] at H; exact H
      clear H
      have H := H1
      clear H1
      obtain rfl := Option.some.inj H
      try go_wp2
      have n0_ := Aside0.mk (Kd.S_drew HO_589000.out)
      have n1_ := Aside0.mk (blk_drew BK576.out)
      have n2_ := Aside0.mk (blk_drew BK588.out)
      have n3_ := Aside0.mk (below_drew1 HB.out)
      clear HO_589000
      clear BK576
      clear BK588
      clear HB
      have HO_589000 := n0_
      have BK576 := n1_
      have BK588 := n2_
      have HB := n3_
      clear n0_ n1_ n2_ n3_
      refine start_ (n := 5) (S := fun w' => w'.cell? ⟨gb588, 0, none⟩ = some (.slice Ao23 t584.length co23) ∧ w'.cell? ⟨gb588, 1, none⟩ = some (.int .i64 t587) ∧ w'.cell? ⟨gb576, 0, none⟩ = some (.slice A0_0 l0_0.length c0_0) ∧ w'.cell? ⟨gb576, 1, none⟩ = some (.int .i64 a0_1)) (ds := []) (Gtr.bb 5 0) (by kernel_rfl) rfl rfl ⟨(blk_cell BK588.out 0).trans rfl, (blk_cell BK588.out 1).trans rfl, (blk_cell BK576.out 0).trans rfl, (blk_cell BK576.out 1).trans rfl⟩ (fun hHeld => ?_)
      generalize wc.drew = w36 at HO_589000 BK576 BK588 HB hHeld ⊢
      refine take_ (i := 0) (N := some 39) (v := ?_) (a' := ?_) (Gtr.bb 5 1) rfl rfl (by kernel_rfl) (fun _ _ _ h => h) (Or.inl ⟨by rfl, ?_⟩) hHeld ?_ ?_
      rotate_left
      ·rintro w' ⟨s0, s1, s2, s3⟩
       go_simp
       with_reducible rfl
      rotate_left
      ·simp only [Gtr.ps]
       rfl
      refine take_ (i := 1) (N := some 40) (v := ?_) (a' := ?_) (Gtr.bb 5 3) rfl rfl (by kernel_rfl) (fun _ _ _ h => h) (Or.inl ⟨by rfl, ?_⟩) hHeld ?_ ?_
      rotate_left
      ·rintro w' ⟨s0, s1, s2, s3⟩
       go_simp
       with_reducible rfl
      rotate_left
      ·simp only [Gtr.ps]
       rfl
      refine one_ (i := 2) (N := some 41) (Gtr.bb 5 7) rfl rfl (by kernel_rfl) (by decide) (fun K hK => ?_)
      refine goes_ Tryz.func7 (by kernel_rfl) rfl #[.agg #[.slice A0_0 l0_0.length c0_0, .int .i64 a0_1]] (by rfl) rfl rfl (by (try simp only [List.map_toArray, List.map_cons, List.map_nil]); first | done | rfl | (simp only [List.length_drop, List.length_take]; rfl)) ?_
      with_reducible refine (laws_toFs.calls kj11 _ _ l0_0 a0_1 t591 t594 _ ?side1 ?side2 A29.out).mono ?_
      (case side1 => repeat (first | exact (Kd.C_below HR0_0.out HB.out) | (with_reducible refine Kd.C_alloc ?_ _) | (with_reducible refine Kd.C_drewN ?_ _) | (with_reducible refine Kd.C_drew ?_)))
      (case side2 => exact HC0_0.out)
      rintro e w37 ⟨v592, rfl, ho0, hb⟩
      refine ⟨_, rfl, ?_⟩
      have n0_ := Aside0.mk (Kd.S_elder' (by (with_reducible repeat (first | apply Kd.S_alloc | apply Kd.S_drewN | apply Kd.S_drew)); exact HO_589000.out) (Kd.S_base ho0) hb)
      have n1_ := Aside0.mk (Kd.S_lower (Kd.S_new' ho0 (Kd.S_lt (by (with_reducible repeat (first | apply Kd.S_alloc | apply Kd.S_drewN | apply Kd.S_drew)); exact HO_589000.out))) (below_size (Gtr.bw HB.out)))
      have n2_ := Aside0.mk (blk_below (g := gb576) (o := .cells #[.slice A0_0 l0_0.length c0_0, .int .i64 a0_1] 24 (0, 0)) (by (with_reducible repeat (first | refine blk_drewN ?_ _ | refine blk_drew ?_ | refine blk_alloc ?_ _)); exact BK576.out) hb)
      have n3_ := Aside0.mk (blk_below (g := gb588) (o := .cells #[.slice Ao23 t584.length co23, .int .i64 t587] 34 (0, 0)) (by (with_reducible repeat (first | refine blk_drewN ?_ _ | refine blk_drew ?_ | refine blk_alloc ?_ _)); exact BK588.out) hb)
      have n4_ := Aside0.mk (below_step (Gtr.bw HB.out) hb)
      clear HO_589000
      clear BK576
      clear BK588
      clear HB
      have HO_589000 := n0_
      have HO593 := n1_
      have BK576 := n2_
      have BK588 := n3_
      have HB := n4_
      clear n0_ n1_ n2_ n3_ n4_
      (try clear hb);(try clear hb2);(try clear hk);(try clear hi);(try clear ho0)
      obtain ⟨Ao38, co38, eo38⟩ := Kd.S_slice HO593.out
      (first | subst eo38 | (injection eo38 with f1_ f2_ f3_; have f4_ := f1_.symm; have f5_ := f3_.symm; clear f1_ f2_ f3_; subst f4_; subst f5_))
      refine hK.out _ _ ⟨(blk_cell BK588.out 0).trans rfl, (blk_cell BK588.out 1).trans rfl, (blk_cell BK576.out 0).trans rfl, (blk_cell BK576.out 1).trans rfl⟩ (fun hHeld => ?_)
      clear hK K
      refine norm_ (a' := ?_) ?_ ?_
      rotate_left
      ·show Act.put _ (some 41) _ = _
       simp only [Gtr.ps]
       rfl
      refine one_ (i := 3) (N := some 42) (Gtr.bb 5 15) rfl rfl (by kernel_rfl) (by decide) (fun K hK => ?_)
      refine goes_ Tryz.func12 (by kernel_rfl) rfl #[.agg #[.slice Ao23 t584.length co23, .int .i64 t587], .agg #[.slice Ao38 t591.length co38, .int .i64 t594]] (by rfl) rfl rfl (by (try simp only [List.map_toArray, List.map_cons, List.map_nil]); first | done | rfl | (simp only [List.length_drop, List.length_take]; rfl)) ?_
      with_reducible refine (laws_eqFs.calls kj11 _ _ t584 t587 _ _ t591 t594 false _ ?side1 ?side2 ?side3 ?side4 A30.out).mono ?_
      (case side1 => repeat (first | exact (Kd.S_reads' HO_589000.out).2.2 | (with_reducible refine Kd.C_alloc ?_ _) | (with_reducible refine Kd.C_drewN ?_ _) | (with_reducible refine Kd.C_drew ?_)))
      (case side2 => exact (Kd.S_reads' HO_589000.out).2.1)
      (case side3 => repeat (first | exact (Kd.S_reads' HO593.out).2.2 | (with_reducible refine Kd.C_alloc ?_ _) | (with_reducible refine Kd.C_drewN ?_ _) | (with_reducible refine Kd.C_drew ?_)))
      (case side4 => exact (Kd.S_reads' HO593.out).2.1)
      rintro e w39 ⟨rfl, hb⟩
      refine ⟨_, rfl, ?_⟩
      have n0_ := Aside0.mk (Kd.S_below (by (with_reducible repeat (first | apply Kd.S_alloc | apply Kd.S_drewN | apply Kd.S_drew)); exact HO_589000.out) hb)
      have n1_ := Aside0.mk (Kd.S_below (by (with_reducible repeat (first | apply Kd.S_alloc | apply Kd.S_drewN | apply Kd.S_drew)); exact HO593.out) hb)
      have n2_ := Aside0.mk (blk_below (g := gb576) (o := .cells #[.slice A0_0 l0_0.length c0_0, .int .i64 a0_1] 24 (0, 0)) (by (with_reducible repeat (first | refine blk_drewN ?_ _ | refine blk_drew ?_ | refine blk_alloc ?_ _)); exact BK576.out) hb)
      have n3_ := Aside0.mk (blk_below (g := gb588) (o := .cells #[.slice Ao23 t584.length co23, .int .i64 t587] 34 (0, 0)) (by (with_reducible repeat (first | refine blk_drewN ?_ _ | refine blk_drew ?_ | refine blk_alloc ?_ _)); exact BK588.out) hb)
      have n4_ := Aside0.mk (below_step (Gtr.bw HB.out) hb)
      clear HO_589000
      clear HO593
      clear BK576
      clear BK588
      clear HB
      have HO_589000 := n0_
      have HO593 := n1_
      have BK576 := n2_
      have BK588 := n3_
      have HB := n4_
      clear n0_ n1_ n2_ n3_ n4_
      (try clear hb);(try clear hb2);(try clear hk);(try clear hi)
      refine hK.out _ _ ⟨(blk_cell BK588.out 0).trans rfl, (blk_cell BK588.out 1).trans rfl, (blk_cell BK576.out 0).trans rfl, (blk_cell BK576.out 1).trans rfl⟩ (fun hHeld => ?_)
      clear hK K
      refine norm_ (a' := ?_) ?_ ?_
      rotate_left
      ·show Act.put _ (some 42) _ = _
       simp only [Gtr.ps]
       rfl
      refine pure_ (i := 4) (N := some 43) (v := ?_) (a' := ?_) (Gtr.bb 5 31) rfl rfl (by kernel_rfl) (fun _ _ _ h => h) (Or.inl ⟨by rfl, ?_⟩) ?_ ?_
      rotate_left
      ·intro w'
       go_simp
       with_reducible rfl
      rotate_left
      ·simp only [Gtr.ps]
       rfl
      refine done_ (by kernel_rfl) ?_
      try go_wp2
      go_ret
      exact ⟨by first | rfl | (simp [errW_none, errW_some] <;> rfl) | (simp [*, errW_none, errW_some] <;> rfl), (Gtr.bw HB.out)⟩
end Go.Proofs.YthalkpflbbpniaaGreatDoor.Q

/- What the laws over file systems ask beside the two functions: copies, sizes, equality. -/
namespace Go.Proofs.YthalkpflbbpniaaGreatDoor.Q
open Go.RowKit Go.Proofs.YthalkpflbbpniaaGreatDoorW.PrintWords Go.Proofs.YthalkpflbbpniaaGreatDoorW.PrintLast Go.Proofs.YthalkpflbbpniaaGreatDoorW.PrintMore
attribute [local go_sem] max2_int min2_int max_two min_two max_three min_three max_four min_four   -- for this text's walks alone
set_option linter.unusedVariables false
set_option linter.unusedSimpArgs false

abbrev Ln := S78
abbrev Le := S125
def convE (x : Le) : En := ⟨x.f0, x.f1⟩
def convN (x : Ln) : Nd := ⟨x.f0, x.f1, x.f2, x.f3, x.f4, x.f5, x.f6.map convE⟩
theorem rdLe (xs : List Le) (i : Nat) (h : i < xs.length) : rd_T125 xs (i : Int) = xs[i] := by unfold rd_T125; simp [List.getD, h]
theorem rdLn (xs : List Ln) (i : Nat) (h : i < xs.length) : rd_T78 xs (i : Int) = xs[i] := by unfold rd_T78; simp [List.getD, h]
theorem szEntry_ev (x : Le) (a : Int) (h0 : x.f0.size ≤ maxLen) (ha : 0 ≤ a) (ha2 : a ≤ 1048576) :
    ∃ r, laws_szEntry.f x.f0 x.f1 a = some r ∧ r ≤ 1048576 ∧ (0 ≤ r → x.f0.size ≤ 1048576) := by
  unfold laws_szEntry.f wrap64
  unfold maxLen at h0
  split
  · exact ⟨_, rfl, by omega, by omega⟩
  · exact ⟨_, rfl, by omega, by omega⟩
theorem szEntryS_loop (l : List Le) (hl : l.length ≤ 1048576) (hs : ∀ x ∈ l, x.f0.size ≤ maxLen) (d : Nat) : ∀ (i : Nat) (a : Int), i + d = l.length → 0 ≤ a → a ≤ 1048576 →
    ∃ r, Ev (fun k => laws_szEntryS.l0 k l a (i : Int)) r ∧ r ≤ 1048576 ∧ (0 ≤ r → ∀ x ∈ l.drop i, x.f0.size ≤ 1048576) := by
  induction d with
  | zero =>
    intro i a hi h0 h1
    refine ⟨a, Ev.step (f := fun _ => some a) (fun k => ?_) (Ev.now a), h1, fun _ => ?_⟩
    · simp only [laws_szEntryS.l0]; rw [if_neg (by omega)]
    · rw [List.drop_of_length_le (by omega)]; simp
  | succ d ih =>
    intro i a hi h0 h1
    have hlt : i < l.length := by omega
    obtain ⟨r, hr, hr1, hr2⟩ := szEntry_ev l[i] a (hs l[i] (List.getElem_mem hlt)) h0 h1
    have e : ∀ k, laws_szEntryS.l0 (k + 1) l a (i : Int) = if r < 0 then some (-1) else laws_szEntryS.l0 k l r ((i + 1 : Nat) : Int) := fun k => by
      simp only [laws_szEntryS.l0]
      rw [if_pos (by omega), if_pos (by omega), rdLe _ _ hlt, hr, step_n (i := i) (n := l.length) hlt (by omega)]; rfl
    by_cases hc : r < 0
    · exact ⟨-1, Ev.step (f := fun _ => some (-1)) (fun k => by rw [e k, if_pos hc]) (Ev.now _), by omega, by omega⟩
    · obtain ⟨q, hq, hq1, hq2⟩ := ih (i + 1) r (by omega) (by omega) hr1
      refine ⟨q, Ev.step (f := fun k => laws_szEntryS.l0 k l r ((i + 1 : Nat) : Int)) (fun k => by rw [e k, if_neg hc]) hq, hq1, fun h => ?_⟩
      rw [List.drop_eq_getElem_cons hlt]
      intro x hx
      rcases List.mem_cons.mp hx with rfl | hx
      · exact hr2 (by omega)
      · exact hq2 h x hx
theorem szEntryS_ev (l : List Le) (hl : l.length ≤ maxLen) (hs : ∀ x ∈ l, x.f0.size ≤ maxLen) (a : Int) (h0 : 0 ≤ a) (h1 : a ≤ 1048576) :
    ∃ r, Ev (fun k => laws_szEntryS.f k l a) r ∧ r ≤ 1048576 ∧ (0 ≤ r → l.length ≤ 1048576 ∧ ∀ x ∈ l, x.f0.size ≤ 1048576) := by
  have e : wrap64 (a - (l.length : Int)) = a - l.length := by unfold wrap64; unfold maxLen at hl; omega
  by_cases hc : a - (l.length : Int) < 0
  · exact ⟨-1, Ev.congr (f := fun _ => some (-1)) (fun k => by simp only [laws_szEntryS.f]; rw [e, if_pos hc]) (Ev.now _), by omega, by omega⟩
  · obtain ⟨r, hr, h, hz⟩ := szEntryS_loop l (by omega) hs l.length 0 (a - l.length) (by omega) (by omega) (by omega)
    exact ⟨r, Ev.congr (fun k => by simp only [laws_szEntryS.f]; rw [e, if_neg hc]; rfl) hr, h, fun hr => ⟨by omega, by simpa using hz hr⟩⟩
structure LnBig (x : Ln) : Prop where
  data : x.f5.size ≤ maxLen
  len : x.f6.length ≤ maxLen
  name : ∀ e ∈ x.f6, e.f0.size ≤ maxLen
structure LnFit (x : Ln) : Prop where
  data : x.f5.size ≤ 1048576
  len : x.f6.length ≤ 1048576
  name : ∀ e ∈ x.f6, e.f0.size ≤ 1048576
theorem szNode_ev (x : Ln) (hx : LnBig x) (a : Int) (h0 : 0 ≤ a) (h1 : a ≤ 1048576) :
    ∃ r, Ev (fun k => laws_szNode.f k x.f0 x.f1 x.f2 x.f3 x.f4 x.f5 x.f6 a) r ∧ r ≤ 1048576 ∧ (0 ≤ r → LnFit x) := by
  have hd := hx.data
  have e : wrap64 (a - (x.f5.size : Int)) = a - x.f5.size := by unfold wrap64; unfold maxLen at hd; omega
  by_cases hc : a - (x.f5.size : Int) < 0
  · exact ⟨-1, Ev.congr (f := fun _ => some (-1)) (fun k => by simp only [laws_szNode.f]; rw [e, if_pos hc]) (Ev.now _), by omega, by omega⟩
  · obtain ⟨r, hr, h, hz⟩ := szEntryS_ev x.f6 hx.len hx.name (a - x.f5.size) (by omega) (by omega)
    by_cases hn : r < 0
    · refine ⟨-1, Ev.congr (f := fun k => (laws_szEntryS.f k x.f6 (a - x.f5.size)).bind fun t => if t < 0 then some (-1) else some t) (fun k => by simp only [laws_szNode.f]; rw [e, if_neg hc]) (Ev.bind hr (Ev.congr (f := fun _ => some (-1)) (fun k => by rw [if_pos hn]) (Ev.now _))), by omega, by omega⟩
    · refine ⟨r, Ev.congr (f := fun k => (laws_szEntryS.f k x.f6 (a - x.f5.size)).bind fun t => if t < 0 then some (-1) else some t) (fun k => by simp only [laws_szNode.f]; rw [e, if_neg hc]) (Ev.bind hr (Ev.congr (f := fun _ => some r) (fun k => by rw [if_neg hn]) (Ev.now _))), h, fun hp => ⟨by omega, (hz hp).1, (hz hp).2⟩⟩
theorem szNodeS_loop (l : List Ln) (hl : l.length ≤ 1048576) (hs : ∀ x ∈ l, LnBig x) (d : Nat) : ∀ (i : Nat) (a : Int), i + d = l.length → 0 ≤ a → a ≤ 1048576 →
    ∃ r, Ev (fun k => laws_szNodeS.l0 k l a (i : Int)) r ∧ r ≤ 1048576 ∧ (0 ≤ r → ∀ x ∈ l.drop i, LnFit x) := by
  induction d with
  | zero =>
    intro i a hi h0 h1
    refine ⟨a, Ev.step (f := fun _ => some a) (fun k => ?_) (Ev.now a), h1, fun _ => ?_⟩
    · simp only [laws_szNodeS.l0]; rw [if_neg (by omega)]
    · rw [List.drop_of_length_le (by omega)]; simp
  | succ d ih =>
    intro i a hi h0 h1
    have hlt : i < l.length := by omega
    obtain ⟨r, hr, hr1, hr2⟩ := szNode_ev l[i] (hs l[i] (List.getElem_mem hlt)) a h0 h1
    have e : ∀ k, laws_szNodeS.l0 (k + 1) l a (i : Int) = (laws_szNode.f k l[i].f0 l[i].f1 l[i].f2 l[i].f3 l[i].f4 l[i].f5 l[i].f6 a).bind fun t => if t < 0 then some (-1) else laws_szNodeS.l0 k l t ((i + 1 : Nat) : Int) := fun k => by
      simp only [laws_szNodeS.l0]
      rw [if_pos (by omega), if_pos (by omega), rdLn _ _ hlt, step_n (i := i) (n := l.length) hlt (by omega)]
    by_cases hc : r < 0
    · exact ⟨-1, Ev.step e (Ev.bind hr (Ev.congr (f := fun _ => some (-1)) (fun k => by rw [if_pos hc]) (Ev.now _))), by omega, by omega⟩
    · obtain ⟨q, hq, hq1, hq2⟩ := ih (i + 1) r (by omega) (by omega) hr1
      refine ⟨q, Ev.step e (Ev.bind hr (Ev.congr (fun k => by rw [if_neg hc]) hq)), hq1, fun h => ?_⟩
      rw [List.drop_eq_getElem_cons hlt]
      intro x hx
      rcases List.mem_cons.mp hx with rfl | hx
      · exact hr2 (by omega)
      · exact hq2 h x hx
theorem conv_fit {l : List Ln} (h0 : l.length ≤ 1048576) (h : ∀ x ∈ l, LnFit x) : FsFit (l.map convN) := by
  refine ⟨by rw [List.length_map]; exact h0, fun x hx => ?_, fun x hx => ?_, fun x hx e he => ?_⟩
  · obtain ⟨y, hy, rfl⟩ := List.mem_map.mp hx; exact (h y hy).data
  · obtain ⟨y, hy, rfl⟩ := List.mem_map.mp hx; show (y.f6.map convE).length ≤ _; rw [List.length_map]; exact (h y hy).len
  · obtain ⟨y, hy, rfl⟩ := List.mem_map.mp hx
    obtain ⟨z, hz, rfl⟩ := List.mem_map.mp (show e ∈ y.f6.map convE from he)
    exact (h y hy).name z hz
/-- What is left of the law's measure: below 0, or the file system is one of no great size. -/
theorem szFs_ev (l : List Ln) (room : Int) (hl : l.length ≤ maxLen) (hs : ∀ x ∈ l, LnBig x) (a : Int) (h0 : 0 ≤ a) (h1 : a ≤ 1048576) :
    ∃ r, Ev (fun k => laws_szFs.f k l room a) r ∧ r ≤ 1048576 ∧ (0 ≤ r → l.length ≤ 1048576 ∧ (∀ x ∈ l, LnFit x) ∧ FsFit (l.map convN)) := by
  have e : wrap64 (a - (l.length : Int)) = a - l.length := by unfold wrap64; unfold maxLen at hl; omega
  by_cases hc : a - (l.length : Int) < 0
  · have hN : Ev (fun k => laws_szNodeS.f k l a) (-1) := Ev.congr (f := fun _ => some (-1)) (fun k => by simp only [laws_szNodeS.f]; rw [e, if_pos hc]) (Ev.now _)
    refine ⟨-1, Ev.congr (f := fun k => (laws_szNodeS.f k l a).bind fun t => if t < 0 then some (-1) else some t) (fun k => by simp only [laws_szFs.f]) (Ev.bind hN (Ev.congr (f := fun _ => some (-1)) (fun k => by rw [if_pos (by omega)]) (Ev.now _))), by omega, by omega⟩
  · obtain ⟨r, hr, h, hz⟩ := szNodeS_loop l (by omega) hs l.length 0 (a - l.length) (by omega) (by omega) (by omega)
    have hN : Ev (fun k => laws_szNodeS.f k l a) r := Ev.congr (fun k => by simp only [laws_szNodeS.f]; rw [e, if_neg hc]; rfl) hr
    by_cases hn : r < 0
    · refine ⟨-1, Ev.congr (f := fun k => (laws_szNodeS.f k l a).bind fun t => if t < 0 then some (-1) else some t) (fun k => by simp only [laws_szFs.f]) (Ev.bind hN (Ev.congr (f := fun _ => some (-1)) (fun k => by rw [if_pos hn]) (Ev.now _))), by omega, by omega⟩
    · refine ⟨r, Ev.congr (f := fun k => (laws_szNodeS.f k l a).bind fun t => if t < 0 then some (-1) else some t) (fun k => by simp only [laws_szFs.f]) (Ev.bind hN (Ev.congr (f := fun _ => some r) (fun k => by rw [if_neg hn]) (Ev.now _))), h, fun hp => ?_⟩
      have hall : ∀ x ∈ l, LnFit x := by simpa using hz hp
      exact ⟨by omega, hall, conv_fit (by omega) hall⟩
theorem toEntryS_loop (l0 : List Le) (hl : l0.length ≤ 1048576) (d : Nat) : ∀ (i : Nat) (acc : List En), i + d = l0.length → acc.length = l0.length →
    Ev (fun k => laws_toEntryS.l0 k l0 acc (i : Int)) (acc.take i ++ (l0.drop i).map convE) := by
  induction d with
  | zero =>
    intro i acc hi ha
    refine Ev.step (f := fun _ => some acc) (fun k => ?_) ?_
    · simp only [laws_toEntryS.l0]; rw [if_neg (by omega)]
    · have : acc.take i ++ (l0.drop i).map convE = acc := by
        rw [List.drop_of_length_le (by omega), List.take_of_length_le (by omega)]; simp
      rw [this]; exact Ev.now acc
  | succ d ih =>
    intro i acc hi ha
    have hlt : i < l0.length := by omega
    have := ih (i + 1) (acc.set i (convE l0[i])) (by omega) (by simpa using ha)
    refine Ev.step (f := fun k => laws_toEntryS.l0 k l0 (acc.set i (convE l0[i])) ((i + 1 : Nat) : Int)) (fun k => ?_) ?_
    · simp only [laws_toEntryS.l0]
      rw [if_pos (by omega), if_pos (by omega)]
      simp only [laws_toEntry.f, Option.bind_some]
      rw [if_pos (by omega), step_n (i := i) (n := l0.length) hlt (by omega), rdLe _ _ hlt]; rfl
    · have e : (acc.set i (convE l0[i])).take (i + 1) ++ (l0.drop (i + 1)).map convE = acc.take i ++ (l0.drop i).map convE := by
        rw [List.drop_eq_getElem_cons hlt, List.map_cons, List.take_succ_eq_append_getElem (by simp; omega), List.take_set_of_le (by omega), List.getElem_set_self, List.append_assoc]; rfl
      rw [← e]; exact this
theorem toEntryS_ev (l0 : List Le) (hl : l0.length ≤ 1048576) : Ev (fun k => laws_toEntryS.f k l0) (l0.map convE) := by
  refine Ev.congr (f := fun k => laws_toEntryS.l0 k l0 (List.replicate l0.length z101) ((0 : Nat) : Int)) (fun k => ?_) ?_
  · simp only [laws_toEntryS.f]
    rw [if_pos (by omega), if_pos (by omega)]; rfl
  · simpa using toEntryS_loop l0 hl l0.length 0 (List.replicate l0.length z101) (by omega) (by simp)
theorem toNodeS_loop (l0 : List Ln) (hl : l0.length ≤ 1048576) (hs : ∀ x ∈ l0, LnFit x) (d : Nat) : ∀ (i : Nat) (acc : List Nd), i + d = l0.length → acc.length = l0.length →
    Ev (fun k => laws_toNodeS.l0 k l0 acc (i : Int)) (acc.take i ++ (l0.drop i).map convN) := by
  induction d with
  | zero =>
    intro i acc hi ha
    refine Ev.step (f := fun _ => some acc) (fun k => ?_) ?_
    · simp only [laws_toNodeS.l0]; rw [if_neg (by omega)]
    · have : acc.take i ++ (l0.drop i).map convN = acc := by
        rw [List.drop_of_length_le (by omega), List.take_of_length_le (by omega)]; simp
      rw [this]; exact Ev.now acc
  | succ d ih =>
    intro i acc hi ha
    have hlt : i < l0.length := by omega
    have h := ih (i + 1) (acc.set i (convN l0[i])) (by omega) (by simpa using ha)
    have e : (acc.set i (convN l0[i])).take (i + 1) ++ (l0.drop (i + 1)).map convN = acc.take i ++ (l0.drop i).map convN := by
      rw [List.drop_eq_getElem_cons hlt, List.map_cons, List.take_succ_eq_append_getElem (by simp; omega), List.take_set_of_le (by omega), List.getElem_set_self, List.append_assoc]; rfl
    rw [e] at h
    have ht := toEntryS_ev l0[i].f6 (hs _ (List.getElem_mem hlt)).len
    refine Ev.step (f := fun k => (laws_toEntryS.f k l0[i].f6).bind fun t => laws_toNodeS.l0 k l0 (acc.set i ⟨l0[i].f0, l0[i].f1, l0[i].f2, l0[i].f3, l0[i].f4, l0[i].f5, t⟩) ((i + 1 : Nat) : Int)) (fun k => ?_) (Ev.bind ht h)
    simp only [laws_toNodeS.l0]
    rw [if_pos (by omega), if_pos (by omega)]
    simp only [laws_toNode.f]
    rw [rdLn _ _ hlt, step_n (i := i) (n := l0.length) hlt (by omega)]
    cases laws_toEntryS.f k l0[i].f6 with
    | none => rfl
    | some t => simp only [Option.bind_some]; rw [if_pos (by omega)]; rfl
theorem toFs_ev (l0 : List Ln) (room : Int) (hl : l0.length ≤ 1048576) (hs : ∀ x ∈ l0, LnFit x) : Ev (fun k => laws_toFs.f k l0 room) (l0.map convN, room) := by
  have h : Ev (fun k => laws_toNodeS.f k l0) (l0.map convN) := by
    refine Ev.congr (f := fun k => laws_toNodeS.l0 k l0 (List.replicate l0.length z70) ((0 : Nat) : Int)) (fun k => ?_) ?_
    · simp only [laws_toNodeS.f]
      rw [if_pos (by omega), if_pos (by omega)]; rfl
    · simpa using toNodeS_loop l0 hl hs l0.length 0 (List.replicate l0.length z70) (by omega) (by simp)
  exact Ev.congr (fun k => by simp only [laws_toFs.f]) (Ev.bind (f := fun _ t => some (t, room)) h (Ev.now _))
theorem eqEntryS_ev (l : List En) (hl : l.length ≤ 1048576) : Ev (fun k => laws_eqEntryS.f k l l) true := by
  have key : ∀ d i : Nat, i + d = l.length → Ev (fun k => laws_eqEntryS.l0 k l l (i : Int)) true := by
    intro d
    induction d with
    | zero =>
      intro i hi
      refine Ev.step (f := fun _ => some true) (fun k => ?_) (Ev.now true)
      simp only [laws_eqEntryS.l0]; rw [if_neg (by omega)]
    | succ d ih =>
      intro i hi
      have hlt : i < l.length := by omega
      refine Ev.step (f := fun k => laws_eqEntryS.l0 k l l ((i + 1 : Nat) : Int)) (fun k => ?_) (ih (i + 1) (by omega))
      simp only [laws_eqEntryS.l0]
      rw [if_pos (by omega), if_pos (by omega), if_pos (by omega), rdEn _ _ hlt, step_n (i := i) (n := l.length) hlt (by omega)]
      simp [laws_eqEntry.f]
  refine Ev.congr (f := fun k => laws_eqEntryS.l0 k l l ((0 : Nat) : Int)) (fun k => ?_) (key l.length 0 (by omega))
  simp only [laws_eqEntryS.f, if_true]; rfl
theorem eqNodeS_ev (l : List Nd) (hl : FsFit l) : Ev (fun k => laws_eqNodeS.f k l l) true := by
  have hlen := hl.len
  have key : ∀ d i : Nat, i + d = l.length → Ev (fun k => laws_eqNodeS.l0 k l l (i : Int)) true := by
    intro d
    induction d with
    | zero =>
      intro i hi
      refine Ev.step (f := fun _ => some true) (fun k => ?_) (Ev.now true)
      simp only [laws_eqNodeS.l0]; rw [if_neg (by omega)]
    | succ d ih =>
      intro i hi
      have hlt : i < l.length := by omega
      have hE := eqEntryS_ev l[i].f6 (hl.list _ (List.getElem_mem hlt))
      refine Ev.step (f := fun k => (laws_eqEntryS.f k l[i].f6 l[i].f6).bind fun t => if t = true then laws_eqNodeS.l0 k l l ((i + 1 : Nat) : Int) else some false) (fun k => ?_) (Ev.bind hE (Ev.congr (fun k => by rw [if_pos rfl]) (ih (i + 1) (by omega))))
      simp only [laws_eqNodeS.l0]
      rw [if_pos (by omega), if_pos (by omega), if_pos (by omega), rdNd _ _ hlt, step_n (i := i) (n := l.length) hlt (by omega)]
      simp only [laws_eqNode.f, if_true]
      cases laws_eqEntryS.f k l[i].f6 l[i].f6 with
      | none => rfl
      | some t => cases t <;> rfl
  refine Ev.congr (f := fun k => laws_eqNodeS.l0 k l l ((0 : Nat) : Int)) (fun k => ?_) (key l.length 0 (by omega))
  simp only [laws_eqNodeS.f, if_true]; rfl
theorem eqFs_ev (l : List Nd) (room : Int) (hl : FsFit l) : Ev (fun k => laws_eqFs.f k l room l room) true := by
  refine Ev.congr (f := fun k => (laws_eqNodeS.f k l l).bind fun t => if t = true then some true else some false) (fun k => by simp only [laws_eqFs.f, if_true]) (Ev.bind (eqNodeS_ev l hl) (Ev.now _))

end Go.Proofs.YthalkpflbbpniaaGreatDoor.Q

/- The law FnExactFitsCopy over lists alone: the printed functions answer true. -/
namespace Go.Proofs.YthalkpflbbpniaaGreatDoor.Q
open Go.RowKit Go.Proofs.YthalkpflbbpniaaGreatDoorW.PrintWords Go.Proofs.YthalkpflbbpniaaGreatDoorW.PrintLast Go.Proofs.YthalkpflbbpniaaGreatDoorW.PrintMore
attribute [local go_sem] max2_int min2_int max_two min_two max_three min_three max_four min_four   -- for this text's walks alone
set_option linter.unusedVariables false
set_option linter.unusedSimpArgs false

theorem l3Is_f (ns : List Nd) (room k : Int) (hl : ns.length ≤ 4294967296) : spec_l3Is.f ns room k = some (thereB ns k) := by
  unfold spec_l3Is.f thereB
  rw [l1In_f]
  have e : wrap64 ((ns.length : Int) - 1) = (ns.length : Int) - 1 := by unfold wrap64; omega
  rw [e]
  simp only [Option.bind_some]
  cases h : inB 0 ((ns.length : Int) - 1) k
  · rfl
  · unfold inB at h
    simp only [Bool.and_eq_true, decide_eq_true_eq] at h
    rw [if_pos rfl, if_pos (by omega), if_pos (by omega)]
    rfl
theorem fitB_of {ns : List Nd} (h : FsFit ns) : fitB ns = true := by
  unfold fitB
  simp only [Bool.and_eq_true, decide_eq_true_eq, List.all_eq_true]
  exact ⟨h.len, fun x hx => ⟨h.data x hx, h.list x hx, h.name x hx⟩⟩
theorem l3Good_f {ns : List Nd} (room : Int) (h : FsFit ns) : spec_l3Good.f ns room = some (sGoodB ns room) := by unfold spec_l3Good.f; rw [if_pos (fitB_of h)]
theorem GoodFs_f {ns : List Nd} (room : Int) (h : FsFit ns) : impl_GoodFs.f ns room = some (sGoodB ns room) := by unfold impl_GoodFs.f; rw [if_pos (fitB_of h)]
theorem gNode_of {ns : List Nd} {room node : Int} (h : FsFit ns) (hg : sGoodB ns room = true) (ht : thereB ns node = true) : gNode ns room node = true := by
  unfold gNode
  unfold thereB at ht
  rw [Bool.and_eq_true] at ht
  rw [fitB_of h, hg, ht.1]; rfl
/-- The asking of both: a good file system, and a node that is not free. -/
theorem l7Asked_f {ns : List Nd} (room node : Int) (h : FsFit ns) : spec_l7Asked.f ns room node = some (sGoodB ns room && thereB ns node) := by
  have hl := h.len
  unfold spec_l7Asked.f
  rw [l3Good_f room h]
  cases hg : sGoodB ns room with
  | false => rfl
  | true => simp only [Option.bind_some, if_true]; rw [l3Is_f ns room node (by omega)]; rfl
theorem isGoodAt_f {ns : List Nd} (room node : Int) (h : FsFit ns) : impl_isGoodAt.f ns room node = some (sGoodB ns room && thereB ns node) := by
  have hl := h.len
  unfold impl_isGoodAt.f
  rw [GoodFs_f room h]
  cases hg : sGoodB ns room with
  | false => rfl
  | true => simp only [Option.bind_some, if_true]; rw [isThere_f ns room node (by omega)]; rfl
def freeC (ns : List Nd) : Int := (ns.countP (fun x => x.f0 == 0) : Nat)
theorem freeC_cons (x : Nd) (r : List Nd) : freeC (x :: r) = freeC r + (if x.f0 = 0 then 1 else 0) := by
  unfold freeC
  rw [List.countP_cons]
  by_cases h : x.f0 = 0
  · rw [if_pos h, if_pos (by simpa using h)]; omega
  · rw [if_neg h, if_neg (by simpa using h)]; omega
theorem freeNodes_ev (ns : List Nd) (room : Int) (h : FsFit ns) (d : Nat) : ∀ (i : Nat) (acc : Int), i + d = ns.length → -2000000 ≤ acc → acc ≤ 40 + (i : Int) → Ev (fun k => impl_Fs_freeNodes.l0 k acc ns (ns.length : Int) (i : Int)) (acc + freeC (ns.drop i)) := by
  have hlen := h.len
  induction d with
  | zero =>
    intro i acc hi h0 h1
    rw [List.drop_of_length_le (by omega)]
    refine Ev.step (f := fun _ => some acc) (fun k => ?_) (by simpa [freeC] using Ev.now acc)
    simp only [impl_Fs_freeNodes.l0]; rw [if_neg (by omega)]
  | succ d ih =>
    intro i acc hi h0 h1
    have hlt : i < ns.length := by omega
    have hw := step_n (i := i) (n := ns.length) hlt (by omega)
    have hw2 : wrap64 (acc + 1) = acc + 1 := by unfold wrap64; omega
    rw [List.drop_eq_getElem_cons hlt, freeC_cons]
    by_cases hc : ns[i].f0 = 0
    · rw [if_pos hc, show acc + (freeC (ns.drop (i + 1)) + 1) = (acc + 1) + freeC (ns.drop (i + 1)) by omega]
      refine Ev.step (fun k => ?_) (ih (i + 1) (acc + 1) (by omega) (by omega) (by omega))
      simp only [impl_Fs_freeNodes.l0]
      rw [if_pos (by omega), if_pos (by omega), if_pos (by omega), rdNd ns i hlt, if_pos hc, hw, hw2]
    · rw [if_neg hc, show acc + (freeC (ns.drop (i + 1)) + 0) = acc + freeC (ns.drop (i + 1)) by omega]
      refine Ev.step (fun k => ?_) (ih (i + 1) acc (by omega) h0 (by omega))
      simp only [impl_Fs_freeNodes.l0]
      rw [if_pos (by omega), if_pos (by omega), if_pos (by omega), rdNd ns i hlt, if_neg hc, hw]
def roomN (ns : List Nd) : Int := 40 - (ns.length : Int) + freeC ns
theorem freeNodes_all (ns : List Nd) (room : Int) (h : FsFit ns) : Ev (fun k => impl_Fs_freeNodes.f k ns room) (roomN ns) := by
  have hlen := h.len
  have e : wrap64 (40 - (ns.length : Int)) = 40 - (ns.length : Int) := by unfold wrap64; omega
  have k := freeNodes_ev ns room h ns.length 0 (40 - (ns.length : Int)) (by omega) (by omega) (by omega)
  rw [List.drop_zero] at k
  exact Ev.congr (fun k => by simp only [impl_Fs_freeNodes.f]; rw [e]; rfl) k
/-- Whether there is room for a copy. -/
def fitsB (ns : List Nd) (room node : Int) : Bool := decide (((metF ns node).length : Int) ≤ roomN ns) && decide (bytesOf ns (metF ns node) ≤ room - sumB ns)
def fitsR (ns : List Nd) (room node : Int) : Bool × Bool := if (sGoodB ns room && thereB ns node) = true then (fitsB ns room node, true) else (false, false)
theorem needsLoop_ev (ns : List Nd) (room : Int) (h : FsFit ns) (L : List Int) (hL : L.length ≤ 40) (ha : ∀ y, y ∈ L → y ∈ allN ns.length) (M : List Int) (d : Nat) : ∀ i : Nat, i + d = L.length → Ev (fun k => impl_CopyNeeds.l0 k M (bytesOf ns (L.take i)) L (L.length : Int) (i : Int) ns room) ((M.length : Int), bytesOf ns L, true) := by
  induction d with
  | zero =>
    intro i hi
    rw [List.take_of_length_le (by omega)]
    refine Ev.step (f := fun _ => some ((M.length : Int), bytesOf ns L, true)) (fun k => ?_) (Ev.now _)
    simp only [impl_CopyNeeds.l0]; rw [if_neg (by omega)]
  | succ d ih =>
    intro i hi
    have hlt : i < L.length := by omega
    obtain ⟨y0, y1⟩ := (allN_mem _ _).mp (ha L[i] (List.getElem_mem hlt))
    have hb := bytesOf_le h (L.take i)
    have hs := ndR_size h L[i]
    have hl2 : (L.take i).length ≤ 40 := by rw [List.length_take]; omega
    have hw2 : wrap64 (bytesOf ns (L.take i) + ((ndR ns L[i]).f5.size : Int)) = bytesOf ns (L.take (i + 1)) := by
      rw [List.take_succ_eq_append_getElem hlt, bytesOf_snoc]
      exact wrap_add hb.1 (by omega) (by omega) (by omega)
    have hrd : rd L (i : Int) = L[i] := by simp [rd, rdOf, List.getD, hlt]
    refine Ev.step (fun k => ?_) (ih (i + 1) (by omega))
    simp only [impl_CopyNeeds.l0]
    rw [if_pos (by omega), if_pos (by omega), if_pos (by omega), hrd, if_pos y0, if_pos y1, step_n (i := i) (n := L.length) hlt (by omega)]
    change impl_CopyNeeds.l0 k M (wrap64 (bytesOf ns (L.take i) + ((ndR ns L[i]).f5.size : Int))) L _ _ ns room = _
    rw [hw2]
theorem CopyNeeds_ev (ns : List Nd) (room node : Int) (h : FsFit ns) (hg : sGoodB ns room = true) (ht : thereB ns node = true) : Ev (fun k => impl_CopyNeeds.f k ns room node) (((metF ns node).length : Int), bytesOf ns (metF ns node), true) := by
  have hG := gNode_of h hg ht
  have hn : impl_Fs_nodesBelow.f ns room node = some (metF ns node) := by unfold impl_Fs_nodesBelow.f; rw [if_pos hG]
  have k := needsLoop_ev ns room h (metF ns node) (metF_len (gNode_ok hG)) (metF_all (gNode_ok hG)) (metF ns node) (metF ns node).length 0 (by omega)
  refine Ev.congr (fun k => ?_) k
  simp only [impl_CopyNeeds.f]
  rw [isGoodAt_f room node h, hg, ht]
  simp only [Bool.and_self, Option.bind_some, if_true]
  rw [hn]; rfl
theorem implFits_ev (ns : List Nd) (room node : Int) (h : FsFit ns) : Ev (fun k => impl_FitsCopy.f k ns room node) (fitsR ns room node) := by
  unfold fitsR
  cases hq : (sGoodB ns room && thereB ns node) with
  | false =>
    rw [if_neg (by simp)]
    have hc : Ev (fun k => impl_CopyNeeds.f k ns room node) (0, 0, false) := Ev.congr (f := fun _ => some (0, 0, false)) (fun k => by simp only [impl_CopyNeeds.f]; rw [isGoodAt_f room node h, hq]; rfl) (Ev.now _)
    unfold impl_FitsCopy.f
    refine Ev.bind hc ?_
    exact Ev.congr (f := fun _ => some (false, false)) (fun k => by rw [if_neg (by simp)]) (Ev.now _)
  | true =>
    rw [if_pos rfl]
    rw [Bool.and_eq_true] at hq
    have hb := bytesIn_ev ns room h
    unfold impl_FitsCopy.f
    refine Ev.bind (CopyNeeds_ev ns room node h hq.1 hq.2) ?_
    refine Ev.congr (fun k => by rw [if_pos rfl]) ?_
    refine Ev.bind (freeNodes_all ns room h) ?_
    have hg := (sGoodB_iff ns room).mp hq.1
    have hr := (inB_iff _ _ _).mp hg.inRoom
    have hs := hg.sum
    have hs0 := sumB_nonneg ns
    unfold fitsB
    by_cases hc : ((metF ns node).length : Int) ≤ roomN ns
    · refine Ev.congr (fun k => by rw [if_pos hc]) (Ev.bind hb ?_)
      have e : wrap64 (room - sumB ns) = room - sumB ns := by unfold wrap64; omega
      rw [decide_eq_true hc, Bool.true_and]
      exact Ev.congr (f := fun _ => some (decide (bytesOf ns (metF ns node) ≤ room - sumB ns), true)) (fun k => by rw [e]) (Ev.now _)
    · rw [decide_eq_false hc, Bool.false_and]
      exact Ev.congr (f := fun _ => some (false, true)) (fun k => by rw [if_neg hc]) (Ev.now _)
theorem specLoop_ev (ns : List Nd) (room : Int) (h : FsFit ns) (a b : Int) (r : Bool × Bool) (d : Nat) : ∀ (i : Nat) (acc : Int), i + d = ns.length → -2000000 ≤ acc → acc ≤ 40 + (i : Int) →
    Ev (fun k => if a ≤ acc + freeC (ns.drop i) then ((spec_l3Bytes.f k ns room).bind fun t => (some (decide (wrap64 (t + b) ≤ room), true))) else some (false, true)) r → Ev (fun k => spec_FitsCopy.l0 k a b acc ns (ns.length : Int) (i : Int) ns room) r := by
  have hlen := h.len
  induction d with
  | zero =>
    intro i acc hi h0 h1 hr
    rw [List.drop_of_length_le (by omega), show freeC [] = 0 from rfl, Int.add_zero] at hr
    refine Ev.step (fun k => ?_) hr
    simp only [spec_FitsCopy.l0]; rw [if_neg (by omega)]
  | succ d ih =>
    intro i acc hi h0 h1 hr
    have hlt : i < ns.length := by omega
    have hw := step_n (i := i) (n := ns.length) hlt (by omega)
    have hw2 : wrap64 (acc + 1) = acc + 1 := by unfold wrap64; omega
    rw [List.drop_eq_getElem_cons hlt, freeC_cons] at hr
    by_cases hc : ns[i].f0 = 0
    · rw [if_pos hc, show acc + (freeC (ns.drop (i + 1)) + 1) = (acc + 1) + freeC (ns.drop (i + 1)) by omega] at hr
      refine Ev.step (fun k => ?_) (ih (i + 1) (acc + 1) (by omega) (by omega) (by omega) hr)
      simp only [spec_FitsCopy.l0]
      rw [if_pos (by omega), if_pos (by omega), if_pos (by omega), rdNd ns i hlt, if_pos hc, hw, hw2]
    · rw [if_neg hc, show acc + (freeC (ns.drop (i + 1)) + 0) = acc + freeC (ns.drop (i + 1)) by omega] at hr
      refine Ev.step (fun k => ?_) (ih (i + 1) acc (by omega) h0 (by omega) hr)
      simp only [spec_FitsCopy.l0]
      rw [if_pos (by omega), if_pos (by omega), if_pos (by omega), rdNd ns i hlt, if_neg hc, hw]
theorem specFits_ev (ns : List Nd) (room node : Int) (h : FsFit ns) : Ev (fun k => spec_FitsCopy.f k ns room node) (fitsR ns room node) := by
  unfold fitsR
  have hlen := h.len
  cases hq : (sGoodB ns room && thereB ns node) with
  | false =>
    rw [if_neg (by simp)]
    exact Ev.congr (f := fun _ => some (false, false)) (fun k => by simp only [spec_FitsCopy.f]; rw [l7Asked_f room node h, hq]; rfl) (Ev.now _)
  | true =>
    rw [if_pos rfl]
    have hq2 := hq
    rw [Bool.and_eq_true] at hq2
    have hG := gNode_of h hq2.1 hq2.2
    have hn : spec_l10Needs.f ns room node = some (((metF ns node).length : Int), bytesOf ns (metF ns node)) := by unfold spec_l10Needs.f; rw [if_pos hG]
    have e : wrap64 (40 - (ns.length : Int)) = 40 - (ns.length : Int) := by unfold wrap64; omega
    have hg := (sGoodB_iff ns room).mp hq2.1
    have hr := (inB_iff _ _ _).mp hg.inRoom
    have hs := hg.sum
    have hs0 := sumB_nonneg ns
    have hb := bytesOf_le h (metF ns node)
    have hml := metF_len (gNode_ok hG)
    refine Ev.congr (f := fun k => spec_FitsCopy.l0 k ((metF ns node).length : Int) (bytesOf ns (metF ns node)) (40 - (ns.length : Int)) ns (ns.length : Int) ((0 : Nat) : Int) ns room) (fun k => ?_) (specLoop_ev ns room h _ _ _ ns.length 0 (40 - (ns.length : Int)) (by omega) (by omega) (by omega) ?_)
    · simp only [spec_FitsCopy.f]
      rw [l7Asked_f room node h, hq, hn]
      simp only [Option.bind_some, if_true]
      rw [e]; rfl
    · rw [List.drop_zero]
      change Ev (fun k => if ((metF ns node).length : Int) ≤ roomN ns then _ else _) _
      unfold fitsB
      by_cases hc : ((metF ns node).length : Int) ≤ roomN ns
      · refine Ev.congr (fun k => by rw [if_pos hc]) (Ev.bind (l3Bytes_ev ns room h) ?_)
        have e2 : wrap64 (sumB ns + bytesOf ns (metF ns node)) = sumB ns + bytesOf ns (metF ns node) := by unfold wrap64; omega
        have e3 : decide (sumB ns + bytesOf ns (metF ns node) ≤ room) = decide (bytesOf ns (metF ns node) ≤ room - sumB ns) := by rw [decide_eq_decide]; omega
        rw [decide_eq_true hc, Bool.true_and, ← e3]
        exact Ev.congr (f := fun _ => some (decide (sumB ns + bytesOf ns (metF ns node) ≤ room), true)) (fun k => by rw [e2]) (Ev.now _)
      · rw [decide_eq_false hc, Bool.false_and]
        exact Ev.congr (f := fun _ => some (false, true)) (fun k => by rw [if_neg hc]) (Ev.now _)
/-- The law over lists alone. -/
theorem pureFitsCopy (l0 : List Ln) (room node : Int) (h0 : l0.length ≤ maxLen) (hs0 : ∀ x ∈ l0, LnBig x) : ∃ k, laws_FnExactFitsCopy.f k l0 room node = some true := by
  refine Ev.rounds ?_
  unfold laws_FnExactFitsCopy.f
  obtain ⟨r, hr, hr1, hr2⟩ := szFs_ev l0 room h0 hs0 1048576 (by omega) (by omega)
  refine Ev.bind hr ?_
  by_cases hc : r < 0
  · exact Ev.congr (f := fun _ => some true) (fun k => by rw [if_pos hc]) (Ev.now _)
  · obtain ⟨h1, h2, h3⟩ := hr2 (by omega)
    have ht := toFs_ev l0 room h1 h2
    refine Ev.congr (fun k => by rw [if_neg hc]) (Ev.bind ht (Ev.bind (specFits_ev (l0.map convN) room node h3) (Ev.bind ht (Ev.bind (implFits_ev (l0.map convN) room node h3) ?_))))
    refine Ev.congr (f := fun k => laws_FnExactFitsCopy.j0 k false l0 room (l0.map convN) room) (fun k => ?_) ?_
    · simp
    · refine Ev.step (fun k => by simp only [laws_FnExactFitsCopy.j0]; rw [if_neg (by simp)]) ?_
      refine Ev.bind ht ?_
      refine Ev.bind (eqFs_ev (l0.map convN) room h3) ?_
      exact Ev.now _

end Go.Proofs.YthalkpflbbpniaaGreatDoor.Q
