/- Texts of this claim, merged by a program (wip/tools/merge.py): Q125, HPathsEv, HStrs. -/
import Derived.Test.YtibfocaldcjiiaaDoorJ1
import Derived.Test.YtibfocaldcjiiaaDoorJ3
import Derived.Test.YtibfocaldcjiiaaDoorJ18
import Derived.Test.YtibfocaldcjiiaaDoorJ2
import Derived.Test.YtibfocaldcjiiaaDoorJ14
import Derived.Test.YtibfocaldcjiiaaDoorJ15
import Derived.Test.YtibfocaldcjiiaaDoorJ9
import Derived.Test.YtibfocaldcjiiaaDoorJ16
import Derived.Test.YtibfocaldcjiiaaDoorJ17
-- Printed by a program of this session (wip/tools/myprint.py) that runs the kit's print, hand-proved functions among the others.
namespace Go.Proofs.YtibfocaldcjiiaaDoor.Q
open Go.RowKit Go.Proofs.YtibfocaldcjiiaaDoorW.PrintWords Go.Proofs.YtibfocaldcjiiaaDoorW.PrintLast Go.Proofs.YtibfocaldcjiiaaDoorW.PrintMore
attribute [local go_sem] max2_int min2_int max_two min_two max_three min_three max_four min_four   -- for this text's walks alone
set_option linter.unusedVariables false
set_option linter.unusedSimpArgs false

/-! ### laws_FnExactGoodJob: function 6 -/
def laws_FnExactGoodJob.f (k : Nat) (a0_0 : Int) (a0_1 : ByteArray) (a0_2 : ByteArray) (a0_3 : Int) (a0_4 : Int) (l0_5 : List ByteArray) : Option (Bool) := (laws_szJob.f k a0_0 a0_1 a0_2 a0_3 a0_4 l0_5 1048576).bind fun t430 => (if t430 < 0 then (some true) else ((laws_toJob.f k a0_0 a0_1 a0_2 a0_3 a0_4 l0_5).bind fun bt431 => ((spec_GoodJob.f k bt431.1 bt431.2.1 bt431.2.2.1 bt431.2.2.2.1 bt431.2.2.2.2.1 bt431.2.2.2.2.2).bind fun t439 => ((laws_toJob.f k a0_0 a0_1 a0_2 a0_3 a0_4 l0_5).bind fun bt440 => ((impl_GoodJob.f k bt440.1 bt440.2.1 bt440.2.2.1 bt440.2.2.2.1 bt440.2.2.2.2.1 bt440.2.2.2.2.2).bind fun t449 => (if (t449 != t439) = true then (some false) else ((laws_toJob.f k a0_0 a0_1 a0_2 a0_3 a0_4 l0_5).bind fun bt450 => ((laws_eqJob.f k bt440.1 bt440.2.1 bt440.2.2.1 bt440.2.2.2.1 bt440.2.2.2.2.1 bt440.2.2.2.2.2 bt450.1 bt450.2.1 bt450.2.2.1 bt450.2.2.2.1 bt450.2.2.2.2.1 bt450.2.2.2.2.2).bind fun t458 => (if t458 = true then (some true) else (some false))))))))))
theorem laws_FnExactGoodJob.mono : ∀ a0 a1 a2 a3 a4 a5 k, LeO (laws_FnExactGoodJob.f k a0 a1 a2 a3 a4 a5) (laws_FnExactGoodJob.f (k + 1) a0 a1 a2 a3 a4 a5) := by
  intro a0 a1 a2 a3 a4 a5 k
  unfold laws_FnExactGoodJob.f
  repeat' first
      | (with_reducible exact impl_GoodJob.mono _ _ _ _ _ _ _)
      | (with_reducible exact laws_eqJob.mono _ _ _ _ _ _ _ _ _ _ _ _ _)
      | (with_reducible exact laws_szJob.mono _ _ _ _ _ _ _ _)
      | (with_reducible exact laws_toJob.mono _ _ _ _ _ _ _)
      | (with_reducible exact spec_GoodJob.mono _ _ _ _ _ _ _)
      | (with_reducible exact LeO.refl _)
      | (with_reducible exact LeO.none _)
      | (with_reducible refine LeO.ite ?_ ?_)
      | (with_reducible refine LeO.bind ?_ (fun _ => ?_))
      | exact impl_GoodJob.mono _ _ _ _ _ _ _
      | exact laws_eqJob.mono _ _ _ _ _ _ _ _ _ _ _ _ _
      | exact laws_szJob.mono _ _ _ _ _ _ _ _
      | exact laws_toJob.mono _ _ _ _ _ _ _
      | exact spec_GoodJob.mono _ _ _ _ _ _ _
      | exact LeO.none _
      | refine LeO.ite ?_ ?_
      | refine LeO.bind ?_ (fun _ => ?_)
set_option maxHeartbeats 8000000 in
set_option maxRecDepth 100000 in
theorem laws_FnExactGoodJob.calls (k : Nat) (a0_0 : Int) (a0_1 : ByteArray) (a0_2 : ByteArray) (a0_3 : Int) (a0_4 : Int) (A0_5 : Option Addr) (c0_5 : Nat) (l0_5 : List ByteArray) (r : Bool) (w : World) (hr0_5 : Kd.C Kd.string w A0_5 l0_5.length l0_5) (hc0_5 : l0_5.length ≤ c0_5) (h : laws_FnExactGoodJob.f k a0_0 a0_1 a0_2 a0_3 a0_4 l0_5 = some r) :
    Calls Tryd.prog 6 #[.agg #[.int .i64 a0_0, .string a0_1, .string a0_2, .int .i64 a0_3, .int .i64 a0_4, .slice A0_5 l0_5.length c0_5]] w fun e w' => e = .returned (.bool r) ∧ Below w.heap.size w w' := by
  have hu35 := Tryd.underlying35
  have hu38 := Tryd.underlying38
  have HR0_5 := Aside0.mk hr0_5
  have HC0_5 := Aside0.mk hc0_5
  clear hr0_5 hc0_5
  have HB := Aside0.mk (Below.refl w.heap.size w)
  have H : ((laws_szJob.f k a0_0 a0_1 a0_2 a0_3 a0_4 l0_5 1048576).bind fun t430 => (if t430 < 0 then (some true) else ((laws_toJob.f k a0_0 a0_1 a0_2 a0_3 a0_4 l0_5).bind fun bt431 => ((spec_GoodJob.f k bt431.1 bt431.2.1 bt431.2.2.1 bt431.2.2.2.1 bt431.2.2.2.2.1 bt431.2.2.2.2.2).bind fun t439 => ((laws_toJob.f k a0_0 a0_1 a0_2 a0_3 a0_4 l0_5).bind fun bt440 => ((impl_GoodJob.f k bt440.1 bt440.2.1 bt440.2.2.1 bt440.2.2.2.1 bt440.2.2.2.2.1 bt440.2.2.2.2.2).bind fun t449 => (if (t449 != t439) = true then (some false) else ((laws_toJob.f k a0_0 a0_1 a0_2 a0_3 a0_4 l0_5).bind fun bt450 => ((laws_eqJob.f k bt440.1 bt440.2.1 bt440.2.2.1 bt440.2.2.2.1 bt440.2.2.2.2.1 bt440.2.2.2.2.2 bt450.1 bt450.2.1 bt450.2.2.1 bt450.2.2.2.1 bt450.2.2.2.2.1 bt450.2.2.2.2.2).bind fun t458 => (if t458 = true then (some true) else (some false))))))))))) = some r := h
  clear h
  replace H := Option.bind_eq_some_iff.mp H
  obtain ⟨t430, A20, H⟩ := H
  replace H : (if t430 < 0 then (some true) else ((laws_toJob.f k a0_0 a0_1 a0_2 a0_3 a0_4 l0_5).bind fun bt431 => ((spec_GoodJob.f k bt431.1 bt431.2.1 bt431.2.2.1 bt431.2.2.2.1 bt431.2.2.2.2.1 bt431.2.2.2.2.2).bind fun t439 => ((laws_toJob.f k a0_0 a0_1 a0_2 a0_3 a0_4 l0_5).bind fun bt440 => ((impl_GoodJob.f k bt440.1 bt440.2.1 bt440.2.2.1 bt440.2.2.2.1 bt440.2.2.2.2.1 bt440.2.2.2.2.2).bind fun t449 => (if (t449 != t439) = true then (some false) else ((laws_toJob.f k a0_0 a0_1 a0_2 a0_3 a0_4 l0_5).bind fun bt450 => ((laws_eqJob.f k bt440.1 bt440.2.1 bt440.2.2.1 bt440.2.2.2.1 bt440.2.2.2.2.1 bt440.2.2.2.2.2 bt450.1 bt450.2.1 bt450.2.2.1 bt450.2.2.2.1 bt450.2.2.2.2.1 bt450.2.2.2.2.2).bind fun t458 => (if t458 = true then (some true) else (some false)))))))))) = some r := H
  have A2 := Aside0.mk A20
  clear A20
  by_cases c3 : t430 < 0
  · rw [if_pos c3] at H
    have c3b0 : decide (t430 < 0) = true := decide_eq_true c3
    clear c3
    obtain rfl := Option.some.inj H
    go_enter Tryd.func6, Tryd.ntmps6
    go_wp2_with (first | ((with_reducible refine gate_dst (N := 1) rfl ?_); refine box_event ?hg (N := 1) ?hd (cs := #[.int .i64 a0_0, .string a0_1, .string a0_2, .int .i64 a0_3, .int .i64 a0_4, .slice A0_5 l0_5.length c0_5]) (t := 35) ?hr ?_; (case hd => rfl); (case hg => rfl); (case hr => first | (go_simp; done) | (go_simp; rfl)); intro gb429 hg w4 hbox hb; have n0_ := Aside0.mk (below_step (by repeat (first | (with_reducible first | exact HB.out | apply below_alloc | apply pw_below_drewN | apply below_drew1) | exact HB.out)) hb); have n1_ := Aside0.mk (hbox); have n2_ := Aside0.mk ((by rw [hg]; exact (below_size (by repeat (first | (with_reducible first | exact HB.out | apply below_alloc | apply pw_below_drewN | apply below_drew1) | exact HB.out))) : w.heap.size ≤ gb429)); have n3_ := Aside0.mk ((by rw [hg]; exact (below_size (by repeat (first | (with_reducible first | exact HB.out | apply below_alloc | apply pw_below_drewN | apply below_drew1) | exact HB.out))) : w.heap.size ≤ gb429)); clear HB; have HB := n0_; have BK429 := n1_; have GW429 := n2_; have GE429 := n3_; clear n0_ n1_ n2_ n3_; clear hb hbox hg; have hcz5_0 : w4.cell? ⟨gb429, 0, none⟩ = some (.int .i64 a0_0) := (blk_cell BK429.out 0).trans rfl; have hcz5_1 : w4.cell? ⟨gb429, 1, none⟩ = some (.string a0_1) := (blk_cell BK429.out 1).trans rfl; have hcz5_2 : w4.cell? ⟨gb429, 2, none⟩ = some (.string a0_2) := (blk_cell BK429.out 2).trans rfl; have hcz5_3 : w4.cell? ⟨gb429, 3, none⟩ = some (.int .i64 a0_3) := (blk_cell BK429.out 3).trans rfl; have hcz5_4 : w4.cell? ⟨gb429, 4, none⟩ = some (.int .i64 a0_4) := (blk_cell BK429.out 4).trans rfl; have hcz5_5 : w4.cell? ⟨gb429, 5, none⟩ = some (.slice A0_5 l0_5.length c0_5) := (blk_cell BK429.out 5).trans rfl; have hfz5_0 := blk_frozen BK429.out 0; have hfz5_1 := blk_frozen BK429.out 1; have hfz5_2 := blk_frozen BK429.out 2; have hfz5_3 := blk_frozen BK429.out 3; have hfz5_4 := blk_frozen BK429.out 4; have hfz5_5 := blk_frozen BK429.out 5) | ((with_reducible refine gate_callee (f := 17) rfl ?_); refine goesL_ (some 9) rfl rfl Tryd.func17 (by kernel_rfl) rfl #[.agg #[.int .i64 a0_0, .string a0_1, .string a0_2, .int .i64 a0_3, .int .i64 a0_4, .slice A0_5 l0_5.length c0_5], .int .i64 1048576] rfl (by (try simp only [List.map_toArray, List.map_cons, List.map_nil]); first | done | rfl | (simp only [List.length_drop, List.length_take]; rfl)) ?_; (with_reducible refine (laws_szJob.calls k a0_0 a0_1 a0_2 a0_3 a0_4 _ _ l0_5 1048576 t430 _ ?side1 ?side2 A2.out).mono ?_); (case side1 => repeat (first | exact (Kd.C_below HR0_5.out HB.out) | (with_reducible refine Kd.C_alloc ?_ _) | (with_reducible refine Kd.C_drewN ?_ _) | (with_reducible refine Kd.C_drew ?_))); (case side2 => exact HC0_5.out); rintro e w6 ⟨rfl, hb⟩; refine ⟨_, rfl, ?_⟩; have n0_ := Aside0.mk (blk_below (g := gb429) (o := .cells #[.int .i64 a0_0, .string a0_1, .string a0_2, .int .i64 a0_3, .int .i64 a0_4, .slice A0_5 l0_5.length c0_5] 35 (0, 0)) (by (with_reducible repeat (first | refine blk_drewN ?_ _ | refine blk_drew ?_ | refine blk_alloc ?_ _)); exact BK429.out) hb); have n1_ := Aside0.mk (below_step (by repeat (first | (with_reducible first | exact HB.out | apply below_alloc | apply pw_below_drewN | apply below_drew1 | refine below_set ?_ GE429.out) | exact HB.out)) hb); clear BK429; clear HB; have BK429 := n0_; have HB := n1_; clear n0_ n1_; (try clear hb); (try clear hb2); (try clear hk); (try clear hi)))
    go_ret
    exact ⟨by first | rfl | (simp [errW_none, errW_some] <;> rfl) | (simp [*, errW_none, errW_some] <;> rfl), by repeat (first | (with_reducible first | exact HB.out | apply below_alloc | apply pw_below_drewN | apply below_drew1 | refine below_set ?_ GE429.out) | exact HB.out)⟩
  · rw [if_neg c3] at H
    have c3b0 : decide (t430 < 0) = false := decide_eq_false c3
    clear c3
    replace H := Option.bind_eq_some_iff.mp H
    obtain ⟨⟨t431, t432, t433, t434, t435, t436⟩, A70, H⟩ := H
    replace H : ((spec_GoodJob.f k t431 t432 t433 t434 t435 t436).bind fun t439 => ((laws_toJob.f k a0_0 a0_1 a0_2 a0_3 a0_4 l0_5).bind fun bt440 => ((impl_GoodJob.f k bt440.1 bt440.2.1 bt440.2.2.1 bt440.2.2.2.1 bt440.2.2.2.2.1 bt440.2.2.2.2.2).bind fun t449 => (if (t449 != t439) = true then (some false) else ((laws_toJob.f k a0_0 a0_1 a0_2 a0_3 a0_4 l0_5).bind fun bt450 => ((laws_eqJob.f k bt440.1 bt440.2.1 bt440.2.2.1 bt440.2.2.2.1 bt440.2.2.2.2.1 bt440.2.2.2.2.2 bt450.1 bt450.2.1 bt450.2.2.1 bt450.2.2.2.1 bt450.2.2.2.2.1 bt450.2.2.2.2.2).bind fun t458 => (if t458 = true then (some true) else (some false)))))))) = some r := H
    have A7 := Aside0.mk A70
    clear A70
    replace H := Option.bind_eq_some_iff.mp H
    obtain ⟨t439, A80, H⟩ := H
    replace H : ((laws_toJob.f k a0_0 a0_1 a0_2 a0_3 a0_4 l0_5).bind fun bt440 => ((impl_GoodJob.f k bt440.1 bt440.2.1 bt440.2.2.1 bt440.2.2.2.1 bt440.2.2.2.2.1 bt440.2.2.2.2.2).bind fun t449 => (if (t449 != t439) = true then (some false) else ((laws_toJob.f k a0_0 a0_1 a0_2 a0_3 a0_4 l0_5).bind fun bt450 => ((laws_eqJob.f k bt440.1 bt440.2.1 bt440.2.2.1 bt440.2.2.2.1 bt440.2.2.2.2.1 bt440.2.2.2.2.2 bt450.1 bt450.2.1 bt450.2.2.1 bt450.2.2.2.1 bt450.2.2.2.2.1 bt450.2.2.2.2.2).bind fun t458 => (if t458 = true then (some true) else (some false))))))) = some r := H
    have A8 := Aside0.mk A80
    clear A80
    replace H := Option.bind_eq_some_iff.mp H
    obtain ⟨⟨t440, t441, t442, t443, t444, t445⟩, A90, H⟩ := H
    replace H : ((impl_GoodJob.f k t440 t441 t442 t443 t444 t445).bind fun t449 => (if (t449 != t439) = true then (some false) else ((laws_toJob.f k a0_0 a0_1 a0_2 a0_3 a0_4 l0_5).bind fun bt450 => ((laws_eqJob.f k t440 t441 t442 t443 t444 t445 bt450.1 bt450.2.1 bt450.2.2.1 bt450.2.2.2.1 bt450.2.2.2.2.1 bt450.2.2.2.2.2).bind fun t458 => (if t458 = true then (some true) else (some false)))))) = some r := H
    have A9 := Aside0.mk A90
    clear A90
    replace H := Option.bind_eq_some_iff.mp H
    obtain ⟨t449, A100, H⟩ := H
    replace H : (if (t449 != t439) = true then (some false) else ((laws_toJob.f k a0_0 a0_1 a0_2 a0_3 a0_4 l0_5).bind fun bt450 => ((laws_eqJob.f k t440 t441 t442 t443 t444 t445 bt450.1 bt450.2.1 bt450.2.2.1 bt450.2.2.2.1 bt450.2.2.2.2.1 bt450.2.2.2.2.2).bind fun t458 => (if t458 = true then (some true) else (some false))))) = some r := H
    have A10 := Aside0.mk A100
    clear A100
    by_cases c11 : (t449 != t439) = true
    · rw [if_pos c11] at H
      have c11b0 : (t449 != t439) = true := c11
      (try (have c11b1 : decide (t449 = t439) = false := by simpa using c11))
      (try (have c11b2 : (t449 == t439) = false := by simpa using c11))
      (try (have c11b3 : ¬ (t449 = t439) := by simpa using c11))
      clear c11
      obtain rfl := Option.some.inj H
      go_enter Tryd.func6, Tryd.ntmps6
      go_wp2_with (first | ((with_reducible refine gate_dst (N := 1) rfl ?_); refine box_event ?hg (N := 1) ?hd (cs := #[.int .i64 a0_0, .string a0_1, .string a0_2, .int .i64 a0_3, .int .i64 a0_4, .slice A0_5 l0_5.length c0_5]) (t := 35) ?hr ?_; (case hd => rfl); (case hg => rfl); (case hr => first | (go_simp; done) | (go_simp; rfl)); intro gb429 hg w12 hbox hb; have n0_ := Aside0.mk (below_step (by repeat (first | (with_reducible first | exact HB.out | apply below_alloc | apply pw_below_drewN | apply below_drew1) | exact HB.out)) hb); have n1_ := Aside0.mk (hbox); have n2_ := Aside0.mk ((by rw [hg]; exact (below_size (by repeat (first | (with_reducible first | exact HB.out | apply below_alloc | apply pw_below_drewN | apply below_drew1) | exact HB.out))) : w.heap.size ≤ gb429)); have n3_ := Aside0.mk ((by rw [hg]; exact (below_size (by repeat (first | (with_reducible first | exact HB.out | apply below_alloc | apply pw_below_drewN | apply below_drew1) | exact HB.out))) : w.heap.size ≤ gb429)); clear HB; have HB := n0_; have BK429 := n1_; have GW429 := n2_; have GE429 := n3_; clear n0_ n1_ n2_ n3_; clear hb hbox hg; have hcz13_0 : w12.cell? ⟨gb429, 0, none⟩ = some (.int .i64 a0_0) := (blk_cell BK429.out 0).trans rfl; have hcz13_1 : w12.cell? ⟨gb429, 1, none⟩ = some (.string a0_1) := (blk_cell BK429.out 1).trans rfl; have hcz13_2 : w12.cell? ⟨gb429, 2, none⟩ = some (.string a0_2) := (blk_cell BK429.out 2).trans rfl; have hcz13_3 : w12.cell? ⟨gb429, 3, none⟩ = some (.int .i64 a0_3) := (blk_cell BK429.out 3).trans rfl; have hcz13_4 : w12.cell? ⟨gb429, 4, none⟩ = some (.int .i64 a0_4) := (blk_cell BK429.out 4).trans rfl; have hcz13_5 : w12.cell? ⟨gb429, 5, none⟩ = some (.slice A0_5 l0_5.length c0_5) := (blk_cell BK429.out 5).trans rfl; have hfz13_0 := blk_frozen BK429.out 0; have hfz13_1 := blk_frozen BK429.out 1; have hfz13_2 := blk_frozen BK429.out 2; have hfz13_3 := blk_frozen BK429.out 3; have hfz13_4 := blk_frozen BK429.out 4; have hfz13_5 := blk_frozen BK429.out 5) | ((with_reducible refine gate_callee (f := 17) rfl ?_); refine goesL_ (some 9) rfl rfl Tryd.func17 (by kernel_rfl) rfl #[.agg #[.int .i64 a0_0, .string a0_1, .string a0_2, .int .i64 a0_3, .int .i64 a0_4, .slice A0_5 l0_5.length c0_5], .int .i64 1048576] rfl (by (try simp only [List.map_toArray, List.map_cons, List.map_nil]); first | done | rfl | (simp only [List.length_drop, List.length_take]; rfl)) ?_; (with_reducible refine (laws_szJob.calls k a0_0 a0_1 a0_2 a0_3 a0_4 _ _ l0_5 1048576 t430 _ ?side1 ?side2 A2.out).mono ?_); (case side1 => repeat (first | exact (Kd.C_below HR0_5.out HB.out) | (with_reducible refine Kd.C_alloc ?_ _) | (with_reducible refine Kd.C_drewN ?_ _) | (with_reducible refine Kd.C_drew ?_))); (case side2 => exact HC0_5.out); rintro e w14 ⟨rfl, hb⟩; refine ⟨_, rfl, ?_⟩; have n0_ := Aside0.mk (blk_below (g := gb429) (o := .cells #[.int .i64 a0_0, .string a0_1, .string a0_2, .int .i64 a0_3, .int .i64 a0_4, .slice A0_5 l0_5.length c0_5] 35 (0, 0)) (by (with_reducible repeat (first | refine blk_drewN ?_ _ | refine blk_drew ?_ | refine blk_alloc ?_ _)); exact BK429.out) hb); have n1_ := Aside0.mk (below_step (by repeat (first | (with_reducible first | exact HB.out | apply below_alloc | apply pw_below_drewN | apply below_drew1 | refine below_set ?_ GE429.out) | exact HB.out)) hb); clear BK429; clear HB; have BK429 := n0_; have HB := n1_; clear n0_ n1_; (try clear hb); (try clear hb2); (try clear hk); (try clear hi); have hcz15_0 : w14.cell? ⟨gb429, 0, none⟩ = some (.int .i64 a0_0) := (blk_cell BK429.out 0).trans rfl; have hcz15_1 : w14.cell? ⟨gb429, 1, none⟩ = some (.string a0_1) := (blk_cell BK429.out 1).trans rfl; have hcz15_2 : w14.cell? ⟨gb429, 2, none⟩ = some (.string a0_2) := (blk_cell BK429.out 2).trans rfl; have hcz15_3 : w14.cell? ⟨gb429, 3, none⟩ = some (.int .i64 a0_3) := (blk_cell BK429.out 3).trans rfl; have hcz15_4 : w14.cell? ⟨gb429, 4, none⟩ = some (.int .i64 a0_4) := (blk_cell BK429.out 4).trans rfl; have hcz15_5 : w14.cell? ⟨gb429, 5, none⟩ = some (.slice A0_5 l0_5.length c0_5) := (blk_cell BK429.out 5).trans rfl; have hfz15_0 := blk_frozen BK429.out 0; have hfz15_1 := blk_frozen BK429.out 1; have hfz15_2 := blk_frozen BK429.out 2; have hfz15_3 := blk_frozen BK429.out 3; have hfz15_4 := blk_frozen BK429.out 4; have hfz15_5 := blk_frozen BK429.out 5) | ((with_reducible refine gate_callee (f := 19) rfl ?_); refine goesL_ (some 13) rfl rfl Tryd.func19 (by kernel_rfl) rfl #[.agg #[.int .i64 a0_0, .string a0_1, .string a0_2, .int .i64 a0_3, .int .i64 a0_4, .slice A0_5 l0_5.length c0_5]] rfl (by (try simp only [List.map_toArray, List.map_cons, List.map_nil]); first | done | rfl | (simp only [List.length_drop, List.length_take]; rfl)) ?_; (with_reducible refine (laws_toJob.calls k a0_0 a0_1 a0_2 a0_3 a0_4 _ _ l0_5 t431 t432 t433 t434 t435 t436 _ ?side1 ?side2 A7.out).mono ?_); (case side1 => repeat (first | exact (Kd.C_below HR0_5.out HB.out) | (with_reducible refine Kd.C_alloc ?_ _) | (with_reducible refine Kd.C_drewN ?_ _) | (with_reducible refine Kd.C_drew ?_))); (case side2 => exact HC0_5.out); rintro e w16 ⟨v437, rfl, ho0, hb⟩; refine ⟨_, rfl, ?_⟩; have n0_ := Aside0.mk (Kd.R_lower ho0 (below_size (by repeat (first | (with_reducible first | exact HB.out | apply below_alloc | apply pw_below_drewN | apply below_drew1 | refine below_set ?_ GE429.out) | exact HB.out)))); have n1_ := Aside0.mk (blk_below (g := gb429) (o := .cells #[.int .i64 a0_0, .string a0_1, .string a0_2, .int .i64 a0_3, .int .i64 a0_4, .slice A0_5 l0_5.length c0_5] 35 (0, 0)) (by (with_reducible repeat (first | refine blk_drewN ?_ _ | refine blk_drew ?_ | refine blk_alloc ?_ _)); exact BK429.out) hb); have n2_ := Aside0.mk (below_step (by repeat (first | (with_reducible first | exact HB.out | apply below_alloc | apply pw_below_drewN | apply below_drew1 | refine below_set ?_ GE429.out) | exact HB.out)) hb); clear BK429; clear HB; have HO438 := n0_; have BK429 := n1_; have HB := n2_; clear n0_ n1_ n2_; (try clear hb); (try clear hb2); (try clear hk); (try clear hi); (try clear ho0); obtain ⟨Ao17, co17, eo17⟩ := Kd.R_slice HO438.out; subst eo17) | ((with_reducible refine gate_callee (f := 18) rfl ?_); refine goesL_ (some 14) rfl rfl Tryd.func18 (by kernel_rfl) rfl #[.agg #[.int .i64 t431, .string t432, .string t433, .int .i64 t434, .int .i64 t435, .slice Ao17 t436.length co17]] rfl (by (try simp only [List.map_toArray, List.map_cons, List.map_nil]); first | done | rfl | (simp only [List.length_drop, List.length_take]; rfl)) ?_; (with_reducible refine (spec_GoodJob.calls k t431 t432 t433 t434 t435 _ _ t436 t439 _ ?side1 ?side2 A8.out).mono ?_); (case side1 => repeat (first | exact (Kd.R_reads' HO438.out).2.2 | (with_reducible refine Kd.C_alloc ?_ _) | (with_reducible refine Kd.C_drewN ?_ _) | (with_reducible refine Kd.C_drew ?_))); (case side2 => exact (Kd.R_reads' HO438.out).2.1); rintro e w18 ⟨rfl, hb⟩; refine ⟨_, rfl, ?_⟩; have n0_ := Aside0.mk (Kd.R_below (by (with_reducible repeat (first | apply Kd.R_alloc | apply Kd.R_drewN | apply Kd.R_drew)); exact HO438.out) hb); have n1_ := Aside0.mk (blk_below (g := gb429) (o := .cells #[.int .i64 a0_0, .string a0_1, .string a0_2, .int .i64 a0_3, .int .i64 a0_4, .slice A0_5 l0_5.length c0_5] 35 (0, 0)) (by (with_reducible repeat (first | refine blk_drewN ?_ _ | refine blk_drew ?_ | refine blk_alloc ?_ _)); exact BK429.out) hb); have n2_ := Aside0.mk (below_step (by repeat (first | (with_reducible first | exact HB.out | apply below_alloc | apply pw_below_drewN | apply below_drew1 | refine below_set ?_ GE429.out) | exact HB.out)) hb); clear HO438; clear BK429; clear HB; have HO438 := n0_; have BK429 := n1_; have HB := n2_; clear n0_ n1_ n2_; (try clear hb); (try clear hb2); (try clear hk); (try clear hi); have hcz19_0 : w18.cell? ⟨gb429, 0, none⟩ = some (.int .i64 a0_0) := (blk_cell BK429.out 0).trans rfl; have hcz19_1 : w18.cell? ⟨gb429, 1, none⟩ = some (.string a0_1) := (blk_cell BK429.out 1).trans rfl; have hcz19_2 : w18.cell? ⟨gb429, 2, none⟩ = some (.string a0_2) := (blk_cell BK429.out 2).trans rfl; have hcz19_3 : w18.cell? ⟨gb429, 3, none⟩ = some (.int .i64 a0_3) := (blk_cell BK429.out 3).trans rfl; have hcz19_4 : w18.cell? ⟨gb429, 4, none⟩ = some (.int .i64 a0_4) := (blk_cell BK429.out 4).trans rfl; have hcz19_5 : w18.cell? ⟨gb429, 5, none⟩ = some (.slice A0_5 l0_5.length c0_5) := (blk_cell BK429.out 5).trans rfl; have hfz19_0 := blk_frozen BK429.out 0; have hfz19_1 := blk_frozen BK429.out 1; have hfz19_2 := blk_frozen BK429.out 2; have hfz19_3 := blk_frozen BK429.out 3; have hfz19_4 := blk_frozen BK429.out 4; have hfz19_5 := blk_frozen BK429.out 5) | ((with_reducible refine gate_callee (f := 19) rfl ?_); refine goesL_ (some 16) rfl rfl Tryd.func19 (by kernel_rfl) rfl #[.agg #[.int .i64 a0_0, .string a0_1, .string a0_2, .int .i64 a0_3, .int .i64 a0_4, .slice A0_5 l0_5.length c0_5]] rfl (by (try simp only [List.map_toArray, List.map_cons, List.map_nil]); first | done | rfl | (simp only [List.length_drop, List.length_take]; rfl)) ?_; (with_reducible refine (laws_toJob.calls k a0_0 a0_1 a0_2 a0_3 a0_4 _ _ l0_5 t440 t441 t442 t443 t444 t445 _ ?side1 ?side2 A9.out).mono ?_); (case side1 => repeat (first | exact (Kd.C_below HR0_5.out HB.out) | (with_reducible refine Kd.C_alloc ?_ _) | (with_reducible refine Kd.C_drewN ?_ _) | (with_reducible refine Kd.C_drew ?_))); (case side2 => exact HC0_5.out); rintro e w20 ⟨v446, rfl, ho0, hb⟩; refine ⟨_, rfl, ?_⟩; have n0_ := Aside0.mk (Kd.R_elder' (by (with_reducible repeat (first | apply Kd.R_alloc | apply Kd.R_drewN | apply Kd.R_drew)); exact HO438.out) (Kd.R_base ho0) hb); have n1_ := Aside0.mk (Kd.R_lower (Kd.R_new' ho0 (Kd.R_lt (by (with_reducible repeat (first | apply Kd.R_alloc | apply Kd.R_drewN | apply Kd.R_drew)); exact HO438.out))) (below_size (by repeat (first | (with_reducible first | exact HB.out | apply below_alloc | apply pw_below_drewN | apply below_drew1 | refine below_set ?_ GE429.out) | exact HB.out)))); have n2_ := Aside0.mk (blk_below (g := gb429) (o := .cells #[.int .i64 a0_0, .string a0_1, .string a0_2, .int .i64 a0_3, .int .i64 a0_4, .slice A0_5 l0_5.length c0_5] 35 (0, 0)) (by (with_reducible repeat (first | refine blk_drewN ?_ _ | refine blk_drew ?_ | refine blk_alloc ?_ _)); exact BK429.out) hb); have n3_ := Aside0.mk (below_step (by repeat (first | (with_reducible first | exact HB.out | apply below_alloc | apply pw_below_drewN | apply below_drew1 | refine below_set ?_ GE429.out) | exact HB.out)) hb); clear HO438; clear BK429; clear HB; have HO438 := n0_; have HO447 := n1_; have BK429 := n2_; have HB := n3_; clear n0_ n1_ n2_ n3_; (try clear hb); (try clear hb2); (try clear hk); (try clear hi); (try clear ho0)) | ((with_reducible refine gate_dst (N := 5) rfl ?_); refine box_event ?hg (N := 5) ?hd (cs := #[.int .i64 0, .string (⟨#[]⟩ : ByteArray), .string (⟨#[]⟩ : ByteArray), .int .i64 0, .int .i64 0, .slice none 0 0]) (t := 38) ?hr ?_; (case hd => rfl); (case hg => rfl); (case hr => first | (go_simp; done) | (go_simp; rfl)); intro gb448 hg w21 hbox hb; have n0_ := Aside0.mk (Kd.R_below (by (with_reducible repeat (first | apply Kd.R_alloc | apply Kd.R_drewN | apply Kd.R_drew)); exact HO438.out) hb); have n1_ := Aside0.mk (Kd.R_below (by (with_reducible repeat (first | apply Kd.R_alloc | apply Kd.R_drewN | apply Kd.R_drew)); exact HO447.out) hb); have n2_ := Aside0.mk (blk_below (g := gb429) (o := .cells #[.int .i64 a0_0, .string a0_1, .string a0_2, .int .i64 a0_3, .int .i64 a0_4, .slice A0_5 l0_5.length c0_5] 35 (0, 0)) (by (with_reducible repeat (first | refine blk_drewN ?_ _ | refine blk_drew ?_ | refine blk_alloc ?_ _)); exact BK429.out) hb); have n3_ := Aside0.mk (below_step (by repeat (first | (with_reducible first | exact HB.out | apply below_alloc | apply pw_below_drewN | apply below_drew1 | refine below_set ?_ GE429.out) | exact HB.out)) hb); have n4_ := Aside0.mk (hbox); have n5_ := Aside0.mk ((by rw [hg]; exact (below_size (by repeat (first | (with_reducible first | exact HB.out | apply below_alloc | apply pw_below_drewN | apply below_drew1 | refine below_set ?_ GE429.out) | exact HB.out))) : w.heap.size ≤ gb448)); have n6_ := Aside0.mk ((by rw [hg]; exact (below_size (by repeat (first | (with_reducible first | exact HB.out | apply below_alloc | apply pw_below_drewN | apply below_drew1 | refine below_set ?_ GE429.out) | exact HB.out))) : w.heap.size ≤ gb448)); have n7_ := Aside0.mk ((by rw [hg]; exact Nat.ne_of_lt (blk_lt (g := gb429) (o := .cells #[.int .i64 a0_0, .string a0_1, .string a0_2, .int .i64 a0_3, .int .i64 a0_4, .slice A0_5 l0_5.length c0_5] 35 (0, 0)) (by (with_reducible repeat (first | refine blk_drewN ?_ _ | refine blk_drew ?_ | refine blk_alloc ?_ _)); exact BK429.out)) : gb429 ≠ gb448)); have n8_ := Aside0.mk ((by rw [hg]; exact Nat.ne_of_gt (blk_lt (g := gb429) (o := .cells #[.int .i64 a0_0, .string a0_1, .string a0_2, .int .i64 a0_3, .int .i64 a0_4, .slice A0_5 l0_5.length c0_5] 35 (0, 0)) (by (with_reducible repeat (first | refine blk_drewN ?_ _ | refine blk_drew ?_ | refine blk_alloc ?_ _)); exact BK429.out)) : gb448 ≠ gb429)); clear HO438; clear HO447; clear BK429; clear HB; have HO438 := n0_; have HO447 := n1_; have BK429 := n2_; have HB := n3_; have BK448 := n4_; have GW448 := n5_; have GE448 := n6_; have NB429_448 := n7_; have NB448_429 := n8_; clear n0_ n1_ n2_ n3_ n4_ n5_ n6_ n7_ n8_; clear hb hbox hg; have hnb22 := NB448_429.out; have hnc22 := NB429_448.out; have hcz23_0 : w21.cell? ⟨gb448, 0, none⟩ = some (.int .i64 0) := (blk_cell BK448.out 0).trans rfl; have hcz23_1 : w21.cell? ⟨gb448, 1, none⟩ = some (.string (⟨#[]⟩ : ByteArray)) := (blk_cell BK448.out 1).trans rfl; have hcz23_2 : w21.cell? ⟨gb448, 2, none⟩ = some (.string (⟨#[]⟩ : ByteArray)) := (blk_cell BK448.out 2).trans rfl; have hcz23_3 : w21.cell? ⟨gb448, 3, none⟩ = some (.int .i64 0) := (blk_cell BK448.out 3).trans rfl; have hcz23_4 : w21.cell? ⟨gb448, 4, none⟩ = some (.int .i64 0) := (blk_cell BK448.out 4).trans rfl; have hcz23_5 : w21.cell? ⟨gb448, 5, none⟩ = some (.slice none 0 0) := (blk_cell BK448.out 5).trans rfl; have hfz23_0 := blk_frozen BK448.out 0; have hfz23_1 := blk_frozen BK448.out 1; have hfz23_2 := blk_frozen BK448.out 2; have hfz23_3 := blk_frozen BK448.out 3; have hfz23_4 := blk_frozen BK448.out 4; have hfz23_5 := blk_frozen BK448.out 5; obtain ⟨Ao24, co24, eo24⟩ := Kd.R_slice HO447.out; subst eo24) | ((with_reducible refine gate_callee (f := 20) rfl ?_); refine goesL_ (some 18) rfl rfl Tryd.func20 (by kernel_rfl) rfl #[.agg #[.int .i64 t440, .string t441, .string t442, .int .i64 t443, .int .i64 t444, .slice Ao24 t445.length co24]] rfl (by (try simp only [List.map_toArray, List.map_cons, List.map_nil]); first | done | rfl | (simp only [List.length_drop, List.length_take]; rfl)) ?_; (with_reducible refine (impl_GoodJob.calls k t440 t441 t442 t443 t444 _ _ t445 t449 _ ?side1 ?side2 A10.out).mono ?_); (case side1 => refine (Kd.R_reads' (e := 9) (base := w.heap.size) (ok := fun k_ => (True ∧ some k_ ≠ (.slice Ao17 t436.length co17 : Value).ownBlock)) (n := t445.length) (c := co24) ?_).2.2; exact (by (with_reducible repeat (first | apply Kd.R_alloc | apply Kd.R_drewN | apply Kd.R_drew)); exact (Kd.R_mono (Kd.R_far (p := ⟨gb448, 5, none⟩) (Kd.R_far (p := ⟨gb448, 4, none⟩) (Kd.R_far (p := ⟨gb448, 3, none⟩) (Kd.R_far (p := ⟨gb448, 2, none⟩) (Kd.R_far (p := ⟨gb448, 1, none⟩) (Kd.R_far (p := ⟨gb448, 0, none⟩) (Kd.R_types HO447.out BK448.out (by decide)) (fun _ hk => hk.2) (.int .i64 t440)) (fun _ hk => hk.2) (.string t441)) (fun _ hk => hk.2) (.string t442)) (fun _ hk => hk.2) (.int .i64 t443)) (fun _ hk => hk.2) (.int .i64 t444)) (fun _ hk => hk.2) (.slice Ao24 t445.length co24)) (fun _ h_ => h_.1)))); (case side2 => exact (Kd.R_reads' HO447.out).2.1); rintro e w25 ⟨rfl, hb⟩; refine ⟨_, rfl, ?_⟩; have n0_ := Aside0.mk (Kd.R_below (by (with_reducible repeat (first | apply Kd.R_alloc | apply Kd.R_drewN | apply Kd.R_drew)); exact (Kd.R_mono (Kd.R_far (p := ⟨gb448, 5, none⟩) (Kd.R_far (p := ⟨gb448, 4, none⟩) (Kd.R_far (p := ⟨gb448, 3, none⟩) (Kd.R_far (p := ⟨gb448, 2, none⟩) (Kd.R_far (p := ⟨gb448, 1, none⟩) (Kd.R_far (p := ⟨gb448, 0, none⟩) (Kd.R_types HO438.out BK448.out (by decide)) (fun _ hk => hk.2) (.int .i64 t440)) (fun _ hk => hk.2) (.string t441)) (fun _ hk => hk.2) (.string t442)) (fun _ hk => hk.2) (.int .i64 t443)) (fun _ hk => hk.2) (.int .i64 t444)) (fun _ hk => hk.2) (.slice Ao24 t445.length co24)) (fun _ h_ => h_.1))) hb); have n1_ := Aside0.mk (Kd.R_below (by (with_reducible repeat (first | apply Kd.R_alloc | apply Kd.R_drewN | apply Kd.R_drew)); exact (Kd.R_mono (Kd.R_far (p := ⟨gb448, 5, none⟩) (Kd.R_far (p := ⟨gb448, 4, none⟩) (Kd.R_far (p := ⟨gb448, 3, none⟩) (Kd.R_far (p := ⟨gb448, 2, none⟩) (Kd.R_far (p := ⟨gb448, 1, none⟩) (Kd.R_far (p := ⟨gb448, 0, none⟩) (Kd.R_types HO447.out BK448.out (by decide)) (fun _ hk => hk.2) (.int .i64 t440)) (fun _ hk => hk.2) (.string t441)) (fun _ hk => hk.2) (.string t442)) (fun _ hk => hk.2) (.int .i64 t443)) (fun _ hk => hk.2) (.int .i64 t444)) (fun _ hk => hk.2) (.slice Ao24 t445.length co24)) (fun _ h_ => h_.1))) hb); have n2_ := Aside0.mk (blk_below (g := gb429) (o := .cells #[.int .i64 a0_0, .string a0_1, .string a0_2, .int .i64 a0_3, .int .i64 a0_4, .slice A0_5 l0_5.length c0_5] 35 (0, 0)) (by (with_reducible repeat (first | refine blk_drewN ?_ _ | refine blk_drew ?_ | refine blk_alloc ?_ _)); refine blk_far ?_ NB429_448.out _; (with_reducible repeat (first | refine blk_drewN ?_ _ | refine blk_drew ?_ | refine blk_alloc ?_ _)); refine blk_far ?_ NB429_448.out _; (with_reducible repeat (first | refine blk_drewN ?_ _ | refine blk_drew ?_ | refine blk_alloc ?_ _)); refine blk_far ?_ NB429_448.out _; (with_reducible repeat (first | refine blk_drewN ?_ _ | refine blk_drew ?_ | refine blk_alloc ?_ _)); refine blk_far ?_ NB429_448.out _; (with_reducible repeat (first | refine blk_drewN ?_ _ | refine blk_drew ?_ | refine blk_alloc ?_ _)); refine blk_far ?_ NB429_448.out _; (with_reducible repeat (first | refine blk_drewN ?_ _ | refine blk_drew ?_ | refine blk_alloc ?_ _)); refine blk_far ?_ NB429_448.out _; (with_reducible repeat (first | refine blk_drewN ?_ _ | refine blk_drew ?_ | refine blk_alloc ?_ _)); exact BK429.out) hb); have n3_ := Aside0.mk (blk_below (g := gb448) (o := .cells #[.int .i64 t440, .string t441, .string t442, .int .i64 t443, .int .i64 t444, .slice Ao24 t445.length co24] 38 (0, 0)) (by (with_reducible repeat (first | refine blk_drewN ?_ _ | refine blk_drew ?_ | refine blk_alloc ?_ _)); refine blk_put (cs := #[.int .i64 t440, .string t441, .string t442, .int .i64 t443, .int .i64 t444, .slice none 0 0]) ?_ 5 _ rfl; (with_reducible repeat (first | refine blk_drewN ?_ _ | refine blk_drew ?_ | refine blk_alloc ?_ _)); refine blk_put (cs := #[.int .i64 t440, .string t441, .string t442, .int .i64 t443, .int .i64 0, .slice none 0 0]) ?_ 4 _ rfl; (with_reducible repeat (first | refine blk_drewN ?_ _ | refine blk_drew ?_ | refine blk_alloc ?_ _)); refine blk_put (cs := #[.int .i64 t440, .string t441, .string t442, .int .i64 0, .int .i64 0, .slice none 0 0]) ?_ 3 _ rfl; (with_reducible repeat (first | refine blk_drewN ?_ _ | refine blk_drew ?_ | refine blk_alloc ?_ _)); refine blk_put (cs := #[.int .i64 t440, .string t441, .string (⟨#[]⟩ : ByteArray), .int .i64 0, .int .i64 0, .slice none 0 0]) ?_ 2 _ rfl; (with_reducible repeat (first | refine blk_drewN ?_ _ | refine blk_drew ?_ | refine blk_alloc ?_ _)); refine blk_put (cs := #[.int .i64 t440, .string (⟨#[]⟩ : ByteArray), .string (⟨#[]⟩ : ByteArray), .int .i64 0, .int .i64 0, .slice none 0 0]) ?_ 1 _ rfl; (with_reducible repeat (first | refine blk_drewN ?_ _ | refine blk_drew ?_ | refine blk_alloc ?_ _)); refine blk_put (cs := #[.int .i64 0, .string (⟨#[]⟩ : ByteArray), .string (⟨#[]⟩ : ByteArray), .int .i64 0, .int .i64 0, .slice none 0 0]) ?_ 0 _ rfl; (with_reducible repeat (first | refine blk_drewN ?_ _ | refine blk_drew ?_ | refine blk_alloc ?_ _)); exact BK448.out) hb); have n4_ := Aside0.mk (below_step (by repeat (first | (with_reducible first | exact HB.out | apply below_alloc | apply pw_below_drewN | apply below_drew1 | refine below_set ?_ GE429.out | refine below_set ?_ GE448.out) | exact HB.out)) hb); clear HO438; clear HO447; clear BK429; clear BK448; clear HB; have HO438 := n0_; have HO447 := n1_; have BK429 := n2_; have BK448 := n3_; have HB := n4_; clear n0_ n1_ n2_ n3_ n4_; (try clear hb); (try clear hb2); (try clear hk); (try clear hi)))
      go_ret
      exact ⟨by first | rfl | (simp [errW_none, errW_some] <;> rfl) | (simp [*, errW_none, errW_some] <;> rfl), by repeat (first | (with_reducible first | exact HB.out | apply below_alloc | apply pw_below_drewN | apply below_drew1 | refine below_set ?_ GE429.out | refine below_set ?_ GE448.out) | exact HB.out)⟩
    · rw [if_neg c11] at H
      have c11b0 : (t449 != t439) = false := by simpa using c11
      (try (have c11b1 : decide (t449 = t439) = true := by simpa using c11))
      (try (have c11b2 : (t449 == t439) = true := by simpa using c11))
      clear c11
      replace H := Option.bind_eq_some_iff.mp H
      obtain ⟨⟨t450, t451, t452, t453, t454, t455⟩, A260, H⟩ := H
      replace H : ((laws_eqJob.f k t440 t441 t442 t443 t444 t445 t450 t451 t452 t453 t454 t455).bind fun t458 => (if t458 = true then (some true) else (some false))) = some r := H
      have A26 := Aside0.mk A260
      clear A260
      replace H := Option.bind_eq_some_iff.mp H
      obtain ⟨t458, A270, H⟩ := H
      replace H : (if t458 = true then (some true) else (some false)) = some r := H
      have A27 := Aside0.mk A270
      clear A270
      by_cases c28 : t458 = true
      · subst c28
        have H1 : (some true) = some r := by rw [if_pos rfl] at H; exact H
        clear H
        have H := H1
        clear H1
        obtain rfl := Option.some.inj H
        go_enter Tryd.func6, Tryd.ntmps6
        try go_wp2_with (first | ((with_reducible refine gate_dst (N := 1) rfl ?_); refine box_event ?hg (N := 1) ?hd (cs := #[.int .i64 a0_0, .string a0_1, .string a0_2, .int .i64 a0_3, .int .i64 a0_4, .slice A0_5 l0_5.length c0_5]) (t := 35) ?hr ?_; (case hd => rfl); (case hg => rfl); (case hr => first | (go_simp; done) | (go_simp; rfl)); intro gb429 hg w29 hbox hb; have n0_ := Aside0.mk (below_step (by repeat (first | (with_reducible first | exact HB.out | apply below_alloc | apply pw_below_drewN | apply below_drew1) | exact HB.out)) hb); have n1_ := Aside0.mk (hbox); have n2_ := Aside0.mk ((by rw [hg]; exact (below_size (by repeat (first | (with_reducible first | exact HB.out | apply below_alloc | apply pw_below_drewN | apply below_drew1) | exact HB.out))) : w.heap.size ≤ gb429)); have n3_ := Aside0.mk ((by rw [hg]; exact (below_size (by repeat (first | (with_reducible first | exact HB.out | apply below_alloc | apply pw_below_drewN | apply below_drew1) | exact HB.out))) : w.heap.size ≤ gb429)); clear HB; have HB := n0_; have BK429 := n1_; have GW429 := n2_; have GE429 := n3_; clear n0_ n1_ n2_ n3_; clear hb hbox hg; have hcz30_0 : w29.cell? ⟨gb429, 0, none⟩ = some (.int .i64 a0_0) := (blk_cell BK429.out 0).trans rfl; have hcz30_1 : w29.cell? ⟨gb429, 1, none⟩ = some (.string a0_1) := (blk_cell BK429.out 1).trans rfl; have hcz30_2 : w29.cell? ⟨gb429, 2, none⟩ = some (.string a0_2) := (blk_cell BK429.out 2).trans rfl; have hcz30_3 : w29.cell? ⟨gb429, 3, none⟩ = some (.int .i64 a0_3) := (blk_cell BK429.out 3).trans rfl; have hcz30_4 : w29.cell? ⟨gb429, 4, none⟩ = some (.int .i64 a0_4) := (blk_cell BK429.out 4).trans rfl; have hcz30_5 : w29.cell? ⟨gb429, 5, none⟩ = some (.slice A0_5 l0_5.length c0_5) := (blk_cell BK429.out 5).trans rfl; have hfz30_0 := blk_frozen BK429.out 0; have hfz30_1 := blk_frozen BK429.out 1; have hfz30_2 := blk_frozen BK429.out 2; have hfz30_3 := blk_frozen BK429.out 3; have hfz30_4 := blk_frozen BK429.out 4; have hfz30_5 := blk_frozen BK429.out 5) | ((with_reducible refine gate_callee (f := 17) rfl ?_); refine goesL_ (some 9) rfl rfl Tryd.func17 (by kernel_rfl) rfl #[.agg #[.int .i64 a0_0, .string a0_1, .string a0_2, .int .i64 a0_3, .int .i64 a0_4, .slice A0_5 l0_5.length c0_5], .int .i64 1048576] rfl (by (try simp only [List.map_toArray, List.map_cons, List.map_nil]); first | done | rfl | (simp only [List.length_drop, List.length_take]; rfl)) ?_; (with_reducible refine (laws_szJob.calls k a0_0 a0_1 a0_2 a0_3 a0_4 _ _ l0_5 1048576 t430 _ ?side1 ?side2 A2.out).mono ?_); (case side1 => repeat (first | exact (Kd.C_below HR0_5.out HB.out) | (with_reducible refine Kd.C_alloc ?_ _) | (with_reducible refine Kd.C_drewN ?_ _) | (with_reducible refine Kd.C_drew ?_))); (case side2 => exact HC0_5.out); rintro e w31 ⟨rfl, hb⟩; refine ⟨_, rfl, ?_⟩; have n0_ := Aside0.mk (blk_below (g := gb429) (o := .cells #[.int .i64 a0_0, .string a0_1, .string a0_2, .int .i64 a0_3, .int .i64 a0_4, .slice A0_5 l0_5.length c0_5] 35 (0, 0)) (by (with_reducible repeat (first | refine blk_drewN ?_ _ | refine blk_drew ?_ | refine blk_alloc ?_ _)); exact BK429.out) hb); have n1_ := Aside0.mk (below_step (by repeat (first | (with_reducible first | exact HB.out | apply below_alloc | apply pw_below_drewN | apply below_drew1 | refine below_set ?_ GE429.out) | exact HB.out)) hb); clear BK429; clear HB; have BK429 := n0_; have HB := n1_; clear n0_ n1_; (try clear hb); (try clear hb2); (try clear hk); (try clear hi); have hcz32_0 : w31.cell? ⟨gb429, 0, none⟩ = some (.int .i64 a0_0) := (blk_cell BK429.out 0).trans rfl; have hcz32_1 : w31.cell? ⟨gb429, 1, none⟩ = some (.string a0_1) := (blk_cell BK429.out 1).trans rfl; have hcz32_2 : w31.cell? ⟨gb429, 2, none⟩ = some (.string a0_2) := (blk_cell BK429.out 2).trans rfl; have hcz32_3 : w31.cell? ⟨gb429, 3, none⟩ = some (.int .i64 a0_3) := (blk_cell BK429.out 3).trans rfl; have hcz32_4 : w31.cell? ⟨gb429, 4, none⟩ = some (.int .i64 a0_4) := (blk_cell BK429.out 4).trans rfl; have hcz32_5 : w31.cell? ⟨gb429, 5, none⟩ = some (.slice A0_5 l0_5.length c0_5) := (blk_cell BK429.out 5).trans rfl; have hfz32_0 := blk_frozen BK429.out 0; have hfz32_1 := blk_frozen BK429.out 1; have hfz32_2 := blk_frozen BK429.out 2; have hfz32_3 := blk_frozen BK429.out 3; have hfz32_4 := blk_frozen BK429.out 4; have hfz32_5 := blk_frozen BK429.out 5) | ((with_reducible refine gate_callee (f := 19) rfl ?_); refine goesL_ (some 13) rfl rfl Tryd.func19 (by kernel_rfl) rfl #[.agg #[.int .i64 a0_0, .string a0_1, .string a0_2, .int .i64 a0_3, .int .i64 a0_4, .slice A0_5 l0_5.length c0_5]] rfl (by (try simp only [List.map_toArray, List.map_cons, List.map_nil]); first | done | rfl | (simp only [List.length_drop, List.length_take]; rfl)) ?_; (with_reducible refine (laws_toJob.calls k a0_0 a0_1 a0_2 a0_3 a0_4 _ _ l0_5 t431 t432 t433 t434 t435 t436 _ ?side1 ?side2 A7.out).mono ?_); (case side1 => repeat (first | exact (Kd.C_below HR0_5.out HB.out) | (with_reducible refine Kd.C_alloc ?_ _) | (with_reducible refine Kd.C_drewN ?_ _) | (with_reducible refine Kd.C_drew ?_))); (case side2 => exact HC0_5.out); rintro e w33 ⟨v437, rfl, ho0, hb⟩; refine ⟨_, rfl, ?_⟩; have n0_ := Aside0.mk (Kd.R_lower ho0 (below_size (by repeat (first | (with_reducible first | exact HB.out | apply below_alloc | apply pw_below_drewN | apply below_drew1 | refine below_set ?_ GE429.out) | exact HB.out)))); have n1_ := Aside0.mk (blk_below (g := gb429) (o := .cells #[.int .i64 a0_0, .string a0_1, .string a0_2, .int .i64 a0_3, .int .i64 a0_4, .slice A0_5 l0_5.length c0_5] 35 (0, 0)) (by (with_reducible repeat (first | refine blk_drewN ?_ _ | refine blk_drew ?_ | refine blk_alloc ?_ _)); exact BK429.out) hb); have n2_ := Aside0.mk (below_step (by repeat (first | (with_reducible first | exact HB.out | apply below_alloc | apply pw_below_drewN | apply below_drew1 | refine below_set ?_ GE429.out) | exact HB.out)) hb); clear BK429; clear HB; have HO438 := n0_; have BK429 := n1_; have HB := n2_; clear n0_ n1_ n2_; (try clear hb); (try clear hb2); (try clear hk); (try clear hi); (try clear ho0); obtain ⟨Ao34, co34, eo34⟩ := Kd.R_slice HO438.out; subst eo34) | ((with_reducible refine gate_callee (f := 18) rfl ?_); refine goesL_ (some 14) rfl rfl Tryd.func18 (by kernel_rfl) rfl #[.agg #[.int .i64 t431, .string t432, .string t433, .int .i64 t434, .int .i64 t435, .slice Ao34 t436.length co34]] rfl (by (try simp only [List.map_toArray, List.map_cons, List.map_nil]); first | done | rfl | (simp only [List.length_drop, List.length_take]; rfl)) ?_; (with_reducible refine (spec_GoodJob.calls k t431 t432 t433 t434 t435 _ _ t436 t439 _ ?side1 ?side2 A8.out).mono ?_); (case side1 => repeat (first | exact (Kd.R_reads' HO438.out).2.2 | (with_reducible refine Kd.C_alloc ?_ _) | (with_reducible refine Kd.C_drewN ?_ _) | (with_reducible refine Kd.C_drew ?_))); (case side2 => exact (Kd.R_reads' HO438.out).2.1); rintro e w35 ⟨rfl, hb⟩; refine ⟨_, rfl, ?_⟩; have n0_ := Aside0.mk (Kd.R_below (by (with_reducible repeat (first | apply Kd.R_alloc | apply Kd.R_drewN | apply Kd.R_drew)); exact HO438.out) hb); have n1_ := Aside0.mk (blk_below (g := gb429) (o := .cells #[.int .i64 a0_0, .string a0_1, .string a0_2, .int .i64 a0_3, .int .i64 a0_4, .slice A0_5 l0_5.length c0_5] 35 (0, 0)) (by (with_reducible repeat (first | refine blk_drewN ?_ _ | refine blk_drew ?_ | refine blk_alloc ?_ _)); exact BK429.out) hb); have n2_ := Aside0.mk (below_step (by repeat (first | (with_reducible first | exact HB.out | apply below_alloc | apply pw_below_drewN | apply below_drew1 | refine below_set ?_ GE429.out) | exact HB.out)) hb); clear HO438; clear BK429; clear HB; have HO438 := n0_; have BK429 := n1_; have HB := n2_; clear n0_ n1_ n2_; (try clear hb); (try clear hb2); (try clear hk); (try clear hi); have hcz36_0 : w35.cell? ⟨gb429, 0, none⟩ = some (.int .i64 a0_0) := (blk_cell BK429.out 0).trans rfl; have hcz36_1 : w35.cell? ⟨gb429, 1, none⟩ = some (.string a0_1) := (blk_cell BK429.out 1).trans rfl; have hcz36_2 : w35.cell? ⟨gb429, 2, none⟩ = some (.string a0_2) := (blk_cell BK429.out 2).trans rfl; have hcz36_3 : w35.cell? ⟨gb429, 3, none⟩ = some (.int .i64 a0_3) := (blk_cell BK429.out 3).trans rfl; have hcz36_4 : w35.cell? ⟨gb429, 4, none⟩ = some (.int .i64 a0_4) := (blk_cell BK429.out 4).trans rfl; have hcz36_5 : w35.cell? ⟨gb429, 5, none⟩ = some (.slice A0_5 l0_5.length c0_5) := (blk_cell BK429.out 5).trans rfl; have hfz36_0 := blk_frozen BK429.out 0; have hfz36_1 := blk_frozen BK429.out 1; have hfz36_2 := blk_frozen BK429.out 2; have hfz36_3 := blk_frozen BK429.out 3; have hfz36_4 := blk_frozen BK429.out 4; have hfz36_5 := blk_frozen BK429.out 5) | ((with_reducible refine gate_callee (f := 19) rfl ?_); refine goesL_ (some 16) rfl rfl Tryd.func19 (by kernel_rfl) rfl #[.agg #[.int .i64 a0_0, .string a0_1, .string a0_2, .int .i64 a0_3, .int .i64 a0_4, .slice A0_5 l0_5.length c0_5]] rfl (by (try simp only [List.map_toArray, List.map_cons, List.map_nil]); first | done | rfl | (simp only [List.length_drop, List.length_take]; rfl)) ?_; (with_reducible refine (laws_toJob.calls k a0_0 a0_1 a0_2 a0_3 a0_4 _ _ l0_5 t440 t441 t442 t443 t444 t445 _ ?side1 ?side2 A9.out).mono ?_); (case side1 => repeat (first | exact (Kd.C_below HR0_5.out HB.out) | (with_reducible refine Kd.C_alloc ?_ _) | (with_reducible refine Kd.C_drewN ?_ _) | (with_reducible refine Kd.C_drew ?_))); (case side2 => exact HC0_5.out); rintro e w37 ⟨v446, rfl, ho0, hb⟩; refine ⟨_, rfl, ?_⟩; have n0_ := Aside0.mk (Kd.R_elder' (by (with_reducible repeat (first | apply Kd.R_alloc | apply Kd.R_drewN | apply Kd.R_drew)); exact HO438.out) (Kd.R_base ho0) hb); have n1_ := Aside0.mk (Kd.R_lower (Kd.R_new' ho0 (Kd.R_lt (by (with_reducible repeat (first | apply Kd.R_alloc | apply Kd.R_drewN | apply Kd.R_drew)); exact HO438.out))) (below_size (by repeat (first | (with_reducible first | exact HB.out | apply below_alloc | apply pw_below_drewN | apply below_drew1 | refine below_set ?_ GE429.out) | exact HB.out)))); have n2_ := Aside0.mk (blk_below (g := gb429) (o := .cells #[.int .i64 a0_0, .string a0_1, .string a0_2, .int .i64 a0_3, .int .i64 a0_4, .slice A0_5 l0_5.length c0_5] 35 (0, 0)) (by (with_reducible repeat (first | refine blk_drewN ?_ _ | refine blk_drew ?_ | refine blk_alloc ?_ _)); exact BK429.out) hb); have n3_ := Aside0.mk (below_step (by repeat (first | (with_reducible first | exact HB.out | apply below_alloc | apply pw_below_drewN | apply below_drew1 | refine below_set ?_ GE429.out) | exact HB.out)) hb); clear HO438; clear BK429; clear HB; have HO438 := n0_; have HO447 := n1_; have BK429 := n2_; have HB := n3_; clear n0_ n1_ n2_ n3_; (try clear hb); (try clear hb2); (try clear hk); (try clear hi); (try clear ho0)) | ((with_reducible refine gate_dst (N := 5) rfl ?_); refine box_event ?hg (N := 5) ?hd (cs := #[.int .i64 0, .string (⟨#[]⟩ : ByteArray), .string (⟨#[]⟩ : ByteArray), .int .i64 0, .int .i64 0, .slice none 0 0]) (t := 38) ?hr ?_; (case hd => rfl); (case hg => rfl); (case hr => first | (go_simp; done) | (go_simp; rfl)); intro gb448 hg w38 hbox hb; have n0_ := Aside0.mk (Kd.R_below (by (with_reducible repeat (first | apply Kd.R_alloc | apply Kd.R_drewN | apply Kd.R_drew)); exact HO438.out) hb); have n1_ := Aside0.mk (Kd.R_below (by (with_reducible repeat (first | apply Kd.R_alloc | apply Kd.R_drewN | apply Kd.R_drew)); exact HO447.out) hb); have n2_ := Aside0.mk (blk_below (g := gb429) (o := .cells #[.int .i64 a0_0, .string a0_1, .string a0_2, .int .i64 a0_3, .int .i64 a0_4, .slice A0_5 l0_5.length c0_5] 35 (0, 0)) (by (with_reducible repeat (first | refine blk_drewN ?_ _ | refine blk_drew ?_ | refine blk_alloc ?_ _)); exact BK429.out) hb); have n3_ := Aside0.mk (below_step (by repeat (first | (with_reducible first | exact HB.out | apply below_alloc | apply pw_below_drewN | apply below_drew1 | refine below_set ?_ GE429.out) | exact HB.out)) hb); have n4_ := Aside0.mk (hbox); have n5_ := Aside0.mk ((by rw [hg]; exact (below_size (by repeat (first | (with_reducible first | exact HB.out | apply below_alloc | apply pw_below_drewN | apply below_drew1 | refine below_set ?_ GE429.out) | exact HB.out))) : w.heap.size ≤ gb448)); have n6_ := Aside0.mk ((by rw [hg]; exact (below_size (by repeat (first | (with_reducible first | exact HB.out | apply below_alloc | apply pw_below_drewN | apply below_drew1 | refine below_set ?_ GE429.out) | exact HB.out))) : w.heap.size ≤ gb448)); have n7_ := Aside0.mk ((by rw [hg]; exact Nat.ne_of_lt (blk_lt (g := gb429) (o := .cells #[.int .i64 a0_0, .string a0_1, .string a0_2, .int .i64 a0_3, .int .i64 a0_4, .slice A0_5 l0_5.length c0_5] 35 (0, 0)) (by (with_reducible repeat (first | refine blk_drewN ?_ _ | refine blk_drew ?_ | refine blk_alloc ?_ _)); exact BK429.out)) : gb429 ≠ gb448)); have n8_ := Aside0.mk ((by rw [hg]; exact Nat.ne_of_gt (blk_lt (g := gb429) (o := .cells #[.int .i64 a0_0, .string a0_1, .string a0_2, .int .i64 a0_3, .int .i64 a0_4, .slice A0_5 l0_5.length c0_5] 35 (0, 0)) (by (with_reducible repeat (first | refine blk_drewN ?_ _ | refine blk_drew ?_ | refine blk_alloc ?_ _)); exact BK429.out)) : gb448 ≠ gb429)); clear HO438; clear HO447; clear BK429; clear HB; have HO438 := n0_; have HO447 := n1_; have BK429 := n2_; have HB := n3_; have BK448 := n4_; have GW448 := n5_; have GE448 := n6_; have NB429_448 := n7_; have NB448_429 := n8_; clear n0_ n1_ n2_ n3_ n4_ n5_ n6_ n7_ n8_; clear hb hbox hg; have hnb39 := NB448_429.out; have hnc39 := NB429_448.out; have hcz40_0 : w38.cell? ⟨gb448, 0, none⟩ = some (.int .i64 0) := (blk_cell BK448.out 0).trans rfl; have hcz40_1 : w38.cell? ⟨gb448, 1, none⟩ = some (.string (⟨#[]⟩ : ByteArray)) := (blk_cell BK448.out 1).trans rfl; have hcz40_2 : w38.cell? ⟨gb448, 2, none⟩ = some (.string (⟨#[]⟩ : ByteArray)) := (blk_cell BK448.out 2).trans rfl; have hcz40_3 : w38.cell? ⟨gb448, 3, none⟩ = some (.int .i64 0) := (blk_cell BK448.out 3).trans rfl; have hcz40_4 : w38.cell? ⟨gb448, 4, none⟩ = some (.int .i64 0) := (blk_cell BK448.out 4).trans rfl; have hcz40_5 : w38.cell? ⟨gb448, 5, none⟩ = some (.slice none 0 0) := (blk_cell BK448.out 5).trans rfl; have hfz40_0 := blk_frozen BK448.out 0; have hfz40_1 := blk_frozen BK448.out 1; have hfz40_2 := blk_frozen BK448.out 2; have hfz40_3 := blk_frozen BK448.out 3; have hfz40_4 := blk_frozen BK448.out 4; have hfz40_5 := blk_frozen BK448.out 5; obtain ⟨Ao41, co41, eo41⟩ := Kd.R_slice HO447.out; subst eo41) | ((with_reducible refine gate_callee (f := 20) rfl ?_); refine goesL_ (some 18) rfl rfl Tryd.func20 (by kernel_rfl) rfl #[.agg #[.int .i64 t440, .string t441, .string t442, .int .i64 t443, .int .i64 t444, .slice Ao41 t445.length co41]] rfl (by (try simp only [List.map_toArray, List.map_cons, List.map_nil]); first | done | rfl | (simp only [List.length_drop, List.length_take]; rfl)) ?_; (with_reducible refine (impl_GoodJob.calls k t440 t441 t442 t443 t444 _ _ t445 t449 _ ?side1 ?side2 A10.out).mono ?_); (case side1 => refine (Kd.R_reads' (e := 9) (base := w.heap.size) (ok := fun k_ => (True ∧ some k_ ≠ (.slice Ao34 t436.length co34 : Value).ownBlock)) (n := t445.length) (c := co41) ?_).2.2; exact (by (with_reducible repeat (first | apply Kd.R_alloc | apply Kd.R_drewN | apply Kd.R_drew)); exact (Kd.R_mono (Kd.R_far (p := ⟨gb448, 5, none⟩) (Kd.R_far (p := ⟨gb448, 4, none⟩) (Kd.R_far (p := ⟨gb448, 3, none⟩) (Kd.R_far (p := ⟨gb448, 2, none⟩) (Kd.R_far (p := ⟨gb448, 1, none⟩) (Kd.R_far (p := ⟨gb448, 0, none⟩) (Kd.R_types HO447.out BK448.out (by decide)) (fun _ hk => hk.2) (.int .i64 t440)) (fun _ hk => hk.2) (.string t441)) (fun _ hk => hk.2) (.string t442)) (fun _ hk => hk.2) (.int .i64 t443)) (fun _ hk => hk.2) (.int .i64 t444)) (fun _ hk => hk.2) (.slice Ao41 t445.length co41)) (fun _ h_ => h_.1)))); (case side2 => exact (Kd.R_reads' HO447.out).2.1); rintro e w42 ⟨rfl, hb⟩; refine ⟨_, rfl, ?_⟩; have n0_ := Aside0.mk (Kd.R_below (by (with_reducible repeat (first | apply Kd.R_alloc | apply Kd.R_drewN | apply Kd.R_drew)); exact (Kd.R_mono (Kd.R_far (p := ⟨gb448, 5, none⟩) (Kd.R_far (p := ⟨gb448, 4, none⟩) (Kd.R_far (p := ⟨gb448, 3, none⟩) (Kd.R_far (p := ⟨gb448, 2, none⟩) (Kd.R_far (p := ⟨gb448, 1, none⟩) (Kd.R_far (p := ⟨gb448, 0, none⟩) (Kd.R_types HO438.out BK448.out (by decide)) (fun _ hk => hk.2) (.int .i64 t440)) (fun _ hk => hk.2) (.string t441)) (fun _ hk => hk.2) (.string t442)) (fun _ hk => hk.2) (.int .i64 t443)) (fun _ hk => hk.2) (.int .i64 t444)) (fun _ hk => hk.2) (.slice Ao41 t445.length co41)) (fun _ h_ => h_.1))) hb); have n1_ := Aside0.mk (Kd.R_below (by (with_reducible repeat (first | apply Kd.R_alloc | apply Kd.R_drewN | apply Kd.R_drew)); exact (Kd.R_mono (Kd.R_far (p := ⟨gb448, 5, none⟩) (Kd.R_far (p := ⟨gb448, 4, none⟩) (Kd.R_far (p := ⟨gb448, 3, none⟩) (Kd.R_far (p := ⟨gb448, 2, none⟩) (Kd.R_far (p := ⟨gb448, 1, none⟩) (Kd.R_far (p := ⟨gb448, 0, none⟩) (Kd.R_types HO447.out BK448.out (by decide)) (fun _ hk => hk.2) (.int .i64 t440)) (fun _ hk => hk.2) (.string t441)) (fun _ hk => hk.2) (.string t442)) (fun _ hk => hk.2) (.int .i64 t443)) (fun _ hk => hk.2) (.int .i64 t444)) (fun _ hk => hk.2) (.slice Ao41 t445.length co41)) (fun _ h_ => h_.1))) hb); have n2_ := Aside0.mk (blk_below (g := gb429) (o := .cells #[.int .i64 a0_0, .string a0_1, .string a0_2, .int .i64 a0_3, .int .i64 a0_4, .slice A0_5 l0_5.length c0_5] 35 (0, 0)) (by (with_reducible repeat (first | refine blk_drewN ?_ _ | refine blk_drew ?_ | refine blk_alloc ?_ _)); refine blk_far ?_ NB429_448.out _; (with_reducible repeat (first | refine blk_drewN ?_ _ | refine blk_drew ?_ | refine blk_alloc ?_ _)); refine blk_far ?_ NB429_448.out _; (with_reducible repeat (first | refine blk_drewN ?_ _ | refine blk_drew ?_ | refine blk_alloc ?_ _)); refine blk_far ?_ NB429_448.out _; (with_reducible repeat (first | refine blk_drewN ?_ _ | refine blk_drew ?_ | refine blk_alloc ?_ _)); refine blk_far ?_ NB429_448.out _; (with_reducible repeat (first | refine blk_drewN ?_ _ | refine blk_drew ?_ | refine blk_alloc ?_ _)); refine blk_far ?_ NB429_448.out _; (with_reducible repeat (first | refine blk_drewN ?_ _ | refine blk_drew ?_ | refine blk_alloc ?_ _)); refine blk_far ?_ NB429_448.out _; (with_reducible repeat (first | refine blk_drewN ?_ _ | refine blk_drew ?_ | refine blk_alloc ?_ _)); exact BK429.out) hb); have n3_ := Aside0.mk (blk_below (g := gb448) (o := .cells #[.int .i64 t440, .string t441, .string t442, .int .i64 t443, .int .i64 t444, .slice Ao41 t445.length co41] 38 (0, 0)) (by (with_reducible repeat (first | refine blk_drewN ?_ _ | refine blk_drew ?_ | refine blk_alloc ?_ _)); refine blk_put (cs := #[.int .i64 t440, .string t441, .string t442, .int .i64 t443, .int .i64 t444, .slice none 0 0]) ?_ 5 _ rfl; (with_reducible repeat (first | refine blk_drewN ?_ _ | refine blk_drew ?_ | refine blk_alloc ?_ _)); refine blk_put (cs := #[.int .i64 t440, .string t441, .string t442, .int .i64 t443, .int .i64 0, .slice none 0 0]) ?_ 4 _ rfl; (with_reducible repeat (first | refine blk_drewN ?_ _ | refine blk_drew ?_ | refine blk_alloc ?_ _)); refine blk_put (cs := #[.int .i64 t440, .string t441, .string t442, .int .i64 0, .int .i64 0, .slice none 0 0]) ?_ 3 _ rfl; (with_reducible repeat (first | refine blk_drewN ?_ _ | refine blk_drew ?_ | refine blk_alloc ?_ _)); refine blk_put (cs := #[.int .i64 t440, .string t441, .string (⟨#[]⟩ : ByteArray), .int .i64 0, .int .i64 0, .slice none 0 0]) ?_ 2 _ rfl; (with_reducible repeat (first | refine blk_drewN ?_ _ | refine blk_drew ?_ | refine blk_alloc ?_ _)); refine blk_put (cs := #[.int .i64 t440, .string (⟨#[]⟩ : ByteArray), .string (⟨#[]⟩ : ByteArray), .int .i64 0, .int .i64 0, .slice none 0 0]) ?_ 1 _ rfl; (with_reducible repeat (first | refine blk_drewN ?_ _ | refine blk_drew ?_ | refine blk_alloc ?_ _)); refine blk_put (cs := #[.int .i64 0, .string (⟨#[]⟩ : ByteArray), .string (⟨#[]⟩ : ByteArray), .int .i64 0, .int .i64 0, .slice none 0 0]) ?_ 0 _ rfl; (with_reducible repeat (first | refine blk_drewN ?_ _ | refine blk_drew ?_ | refine blk_alloc ?_ _)); exact BK448.out) hb); have n4_ := Aside0.mk (below_step (by repeat (first | (with_reducible first | exact HB.out | apply below_alloc | apply pw_below_drewN | apply below_drew1 | refine below_set ?_ GE429.out | refine below_set ?_ GE448.out) | exact HB.out)) hb); clear HO438; clear HO447; clear BK429; clear BK448; clear HB; have HO438 := n0_; have HO447 := n1_; have BK429 := n2_; have BK448 := n3_; have HB := n4_; clear n0_ n1_ n2_ n3_ n4_; (try clear hb); (try clear hb2); (try clear hk); (try clear hi)))
        have n0_ := Aside0.mk (Kd.R_drew HO438.out)
        have n1_ := Aside0.mk (Kd.R_drew HO447.out)
        have n2_ := Aside0.mk (blk_drew BK429.out)
        have n3_ := Aside0.mk (blk_drew BK448.out)
        have n4_ := Aside0.mk (below_drew1 HB.out)
        clear HO438
        clear HO447
        clear BK429
        clear BK448
        clear HB
        have HO438 := n0_
        have HO447 := n1_
        have BK429 := n2_
        have BK448 := n3_
        have HB := n4_
        clear n0_ n1_ n2_ n3_ n4_
        refine start_ (n := 5) (S := fun w' => w'.cell? ⟨gb448, 0, none⟩ = some (.int .i64 t440) ∧ w'.cell? ⟨gb448, 1, none⟩ = some (.string t441) ∧ w'.cell? ⟨gb448, 2, none⟩ = some (.string t442) ∧ w'.cell? ⟨gb448, 3, none⟩ = some (.int .i64 t443) ∧ w'.cell? ⟨gb448, 4, none⟩ = some (.int .i64 t444) ∧ w'.cell? ⟨gb448, 5, none⟩ = some (.slice Ao41 t445.length co41) ∧ w'.cell? ⟨gb429, 0, none⟩ = some (.int .i64 a0_0) ∧ w'.cell? ⟨gb429, 1, none⟩ = some (.string a0_1) ∧ w'.cell? ⟨gb429, 2, none⟩ = some (.string a0_2) ∧ w'.cell? ⟨gb429, 3, none⟩ = some (.int .i64 a0_3) ∧ w'.cell? ⟨gb429, 4, none⟩ = some (.int .i64 a0_4) ∧ w'.cell? ⟨gb429, 5, none⟩ = some (.slice A0_5 l0_5.length c0_5)) (ds := []) #[false, false, false, false, false] (by kernel_rfl) rfl rfl ⟨(blk_cell BK448.out 0).trans rfl, (blk_cell BK448.out 1).trans rfl, (blk_cell BK448.out 2).trans rfl, (blk_cell BK448.out 3).trans rfl, (blk_cell BK448.out 4).trans rfl, (blk_cell BK448.out 5).trans rfl, (blk_cell BK429.out 0).trans rfl, (blk_cell BK429.out 1).trans rfl, (blk_cell BK429.out 2).trans rfl, (blk_cell BK429.out 3).trans rfl, (blk_cell BK429.out 4).trans rfl, (blk_cell BK429.out 5).trans rfl⟩ (fun hHeld => ?_)
        generalize w42.drew = w43 at HO438 HO447 BK429 BK448 HB hHeld ⊢
        refine take_ (i := 0) (N := some 22) (v := ?_) (a' := ?_) #[true, false, false, false, false] rfl rfl (by kernel_rfl) (fun _ _ _ h => h) (Or.inl ⟨by rfl, ?_⟩) hHeld ?_ ?_
        rotate_left
        · rintro w' ⟨s0, s1, s2, s3, s4, s5, s6, s7, s8, s9, s10, s11⟩
          go_simp
          with_reducible rfl
        rotate_left
        · simp only [Act.put, List.setIfInBounds_toArray, List.set_cons_zero, List.set_cons_succ, i64_w, i32_w]
          rfl
        refine take_ (i := 1) (N := some 23) (v := ?_) (a' := ?_) #[true, true, false, false, false] rfl rfl (by kernel_rfl) (fun _ _ _ h => h) (Or.inl ⟨by rfl, ?_⟩) hHeld ?_ ?_
        rotate_left
        · rintro w' ⟨s0, s1, s2, s3, s4, s5, s6, s7, s8, s9, s10, s11⟩
          go_simp
          with_reducible rfl
        rotate_left
        · simp only [Act.put, List.setIfInBounds_toArray, List.set_cons_zero, List.set_cons_succ, i64_w, i32_w]
          rfl
        refine one_ (i := 2) (N := some 24) #[true, true, true, false, false] rfl rfl (by kernel_rfl) (by decide) (fun K hK => ?_)
        refine goes_ Tryd.func19 (by kernel_rfl) rfl #[.agg #[.int .i64 a0_0, .string a0_1, .string a0_2, .int .i64 a0_3, .int .i64 a0_4, .slice A0_5 l0_5.length c0_5]] (by rfl) rfl rfl (by (try simp only [List.map_toArray, List.map_cons, List.map_nil]); first | done | rfl | (simp only [List.length_drop, List.length_take]; rfl)) ?_
        with_reducible refine (laws_toJob.calls k a0_0 a0_1 a0_2 a0_3 a0_4 _ _ l0_5 t450 t451 t452 t453 t454 t455 _ ?side1 ?side2 A26.out).mono ?_
        (case side1 => repeat (first | exact (Kd.C_below HR0_5.out HB.out) | (with_reducible refine Kd.C_alloc ?_ _) | (with_reducible refine Kd.C_drewN ?_ _) | (with_reducible refine Kd.C_drew ?_)))
        (case side2 => exact HC0_5.out)
        rintro e w44 ⟨v456, rfl, ho0, hb⟩
        refine ⟨_, rfl, ?_⟩
        have n0_ := Aside0.mk (Kd.R_elder' (by (with_reducible repeat (first | apply Kd.R_alloc | apply Kd.R_drewN | apply Kd.R_drew)); exact HO438.out) (Kd.R_base ho0) hb)
        have n1_ := Aside0.mk (Kd.R_elder' (by (with_reducible repeat (first | apply Kd.R_alloc | apply Kd.R_drewN | apply Kd.R_drew)); exact HO447.out) (Kd.R_base ho0) hb)
        have n2_ := Aside0.mk (Kd.R_lower (Kd.R_new' (Kd.R_new' ho0 (Kd.R_lt (by (with_reducible repeat (first | apply Kd.R_alloc | apply Kd.R_drewN | apply Kd.R_drew)); exact HO438.out))) (Kd.R_lt (by (with_reducible repeat (first | apply Kd.R_alloc | apply Kd.R_drewN | apply Kd.R_drew)); exact HO447.out))) (below_size (by repeat (first | (with_reducible first | exact HB.out | apply below_alloc | apply pw_below_drewN | apply below_drew1 | refine below_set ?_ GE429.out | refine below_set ?_ GE448.out) | exact HB.out))))
        have n3_ := Aside0.mk (blk_below (g := gb429) (o := .cells #[.int .i64 a0_0, .string a0_1, .string a0_2, .int .i64 a0_3, .int .i64 a0_4, .slice A0_5 l0_5.length c0_5] 35 (0, 0)) (by (with_reducible repeat (first | refine blk_drewN ?_ _ | refine blk_drew ?_ | refine blk_alloc ?_ _)); exact BK429.out) hb)
        have n4_ := Aside0.mk (blk_below (g := gb448) (o := .cells #[.int .i64 t440, .string t441, .string t442, .int .i64 t443, .int .i64 t444, .slice Ao41 t445.length co41] 38 (0, 0)) (by (with_reducible repeat (first | refine blk_drewN ?_ _ | refine blk_drew ?_ | refine blk_alloc ?_ _)); exact BK448.out) hb)
        have n5_ := Aside0.mk (below_step (by repeat (first | (with_reducible first | exact HB.out | apply below_alloc | apply pw_below_drewN | apply below_drew1 | refine below_set ?_ GE429.out | refine below_set ?_ GE448.out) | exact HB.out)) hb)
        clear HO438
        clear HO447
        clear BK429
        clear BK448
        clear HB
        have HO438 := n0_
        have HO447 := n1_
        have HO457 := n2_
        have BK429 := n3_
        have BK448 := n4_
        have HB := n5_
        clear n0_ n1_ n2_ n3_ n4_ n5_
        (try clear hb)
        (try clear hb2)
        (try clear hk)
        (try clear hi)
        (try clear ho0)
        obtain ⟨Ao45, co45, eo45⟩ := Kd.R_slice HO457.out
        (first | subst eo45 | (injection eo45 with f1_ f2_ f3_; have f4_ := f1_.symm; have f5_ := f3_.symm; clear f1_ f2_ f3_; subst f4_; subst f5_))
        refine hK.out _ _ ⟨(blk_cell BK448.out 0).trans rfl, (blk_cell BK448.out 1).trans rfl, (blk_cell BK448.out 2).trans rfl, (blk_cell BK448.out 3).trans rfl, (blk_cell BK448.out 4).trans rfl, (blk_cell BK448.out 5).trans rfl, (blk_cell BK429.out 0).trans rfl, (blk_cell BK429.out 1).trans rfl, (blk_cell BK429.out 2).trans rfl, (blk_cell BK429.out 3).trans rfl, (blk_cell BK429.out 4).trans rfl, (blk_cell BK429.out 5).trans rfl⟩ (fun hHeld => ?_)
        clear hK K
        refine norm_ (a' := ?_) ?_ ?_
        rotate_left
        · show Act.put _ (some 24) _ = _
          simp only [Act.put, List.setIfInBounds_toArray, List.set_cons_zero, List.set_cons_succ, i64_w, i32_w]
          rfl
        refine one_ (i := 3) (N := some 25) #[true, true, true, true, false] rfl rfl (by kernel_rfl) (by decide) (fun K hK => ?_)
        refine goes_ Tryd.func21 (by kernel_rfl) rfl #[.agg #[.int .i64 t440, .string t441, .string t442, .int .i64 t443, .int .i64 t444, .slice Ao41 t445.length co41], .agg #[.int .i64 t450, .string t451, .string t452, .int .i64 t453, .int .i64 t454, .slice Ao45 t455.length co45]] (by rfl) rfl rfl (by (try simp only [List.map_toArray, List.map_cons, List.map_nil]); first | done | rfl | (simp only [List.length_drop, List.length_take]; rfl)) ?_
        with_reducible refine (laws_eqJob.calls k t440 t441 t442 t443 t444 _ _ t445 t450 t451 t452 t453 t454 _ _ t455 true _ ?side1 ?side2 ?side3 ?side4 A27.out).mono ?_
        (case side1 => repeat (first | exact (Kd.R_reads' HO447.out).2.2 | (with_reducible refine Kd.C_alloc ?_ _) | (with_reducible refine Kd.C_drewN ?_ _) | (with_reducible refine Kd.C_drew ?_)))
        (case side2 => exact (Kd.R_reads' HO447.out).2.1)
        (case side3 => repeat (first | exact (Kd.R_reads' HO457.out).2.2 | (with_reducible refine Kd.C_alloc ?_ _) | (with_reducible refine Kd.C_drewN ?_ _) | (with_reducible refine Kd.C_drew ?_)))
        (case side4 => exact (Kd.R_reads' HO457.out).2.1)
        rintro e w46 ⟨rfl, hb⟩
        refine ⟨_, rfl, ?_⟩
        have n0_ := Aside0.mk (Kd.R_below (by (with_reducible repeat (first | apply Kd.R_alloc | apply Kd.R_drewN | apply Kd.R_drew)); exact HO438.out) hb)
        have n1_ := Aside0.mk (Kd.R_below (by (with_reducible repeat (first | apply Kd.R_alloc | apply Kd.R_drewN | apply Kd.R_drew)); exact HO447.out) hb)
        have n2_ := Aside0.mk (Kd.R_below (by (with_reducible repeat (first | apply Kd.R_alloc | apply Kd.R_drewN | apply Kd.R_drew)); exact HO457.out) hb)
        have n3_ := Aside0.mk (blk_below (g := gb429) (o := .cells #[.int .i64 a0_0, .string a0_1, .string a0_2, .int .i64 a0_3, .int .i64 a0_4, .slice A0_5 l0_5.length c0_5] 35 (0, 0)) (by (with_reducible repeat (first | refine blk_drewN ?_ _ | refine blk_drew ?_ | refine blk_alloc ?_ _)); exact BK429.out) hb)
        have n4_ := Aside0.mk (blk_below (g := gb448) (o := .cells #[.int .i64 t440, .string t441, .string t442, .int .i64 t443, .int .i64 t444, .slice Ao41 t445.length co41] 38 (0, 0)) (by (with_reducible repeat (first | refine blk_drewN ?_ _ | refine blk_drew ?_ | refine blk_alloc ?_ _)); exact BK448.out) hb)
        have n5_ := Aside0.mk (below_step (by repeat (first | (with_reducible first | exact HB.out | apply below_alloc | apply pw_below_drewN | apply below_drew1 | refine below_set ?_ GE429.out | refine below_set ?_ GE448.out) | exact HB.out)) hb)
        clear HO438
        clear HO447
        clear HO457
        clear BK429
        clear BK448
        clear HB
        have HO438 := n0_
        have HO447 := n1_
        have HO457 := n2_
        have BK429 := n3_
        have BK448 := n4_
        have HB := n5_
        clear n0_ n1_ n2_ n3_ n4_ n5_
        (try clear hb)
        (try clear hb2)
        (try clear hk)
        (try clear hi)
        refine hK.out _ _ ⟨(blk_cell BK448.out 0).trans rfl, (blk_cell BK448.out 1).trans rfl, (blk_cell BK448.out 2).trans rfl, (blk_cell BK448.out 3).trans rfl, (blk_cell BK448.out 4).trans rfl, (blk_cell BK448.out 5).trans rfl, (blk_cell BK429.out 0).trans rfl, (blk_cell BK429.out 1).trans rfl, (blk_cell BK429.out 2).trans rfl, (blk_cell BK429.out 3).trans rfl, (blk_cell BK429.out 4).trans rfl, (blk_cell BK429.out 5).trans rfl⟩ (fun hHeld => ?_)
        clear hK K
        refine norm_ (a' := ?_) ?_ ?_
        rotate_left
        · show Act.put _ (some 25) _ = _
          simp only [Act.put, List.setIfInBounds_toArray, List.set_cons_zero, List.set_cons_succ, i64_w, i32_w]
          rfl
        refine pure_ (i := 4) (N := some 26) (v := ?_) (a' := ?_) #[true, true, true, true, true] rfl rfl (by kernel_rfl) (fun _ _ _ h => h) (Or.inl ⟨by rfl, ?_⟩) ?_ ?_
        rotate_left
        · intro w'
          go_simp
          with_reducible rfl
        rotate_left
        · simp only [Act.put, List.setIfInBounds_toArray, List.set_cons_zero, List.set_cons_succ, i64_w, i32_w]
          rfl
        refine done_ (by kernel_rfl) ?_
        try go_wp2
        go_ret
        exact ⟨by first | rfl | (simp [errW_none, errW_some] <;> rfl) | (simp [*, errW_none, errW_some] <;> rfl), by repeat (first | (with_reducible first | exact HB.out | apply below_alloc | apply pw_below_drewN | apply below_drew1 | refine below_set ?_ GE429.out | refine below_set ?_ GE448.out) | exact HB.out)⟩
      · replace c28 := Bool.eq_false_iff.mpr c28
        subst c28
        have H1 : (some false) = some r := by rw [if_neg (show ¬ (false = true) by decide)] at H; exact H
        clear H
        have H := H1
        clear H1
        obtain rfl := Option.some.inj H
        go_enter Tryd.func6, Tryd.ntmps6
        try go_wp2_with (first | ((with_reducible refine gate_dst (N := 1) rfl ?_); refine box_event ?hg (N := 1) ?hd (cs := #[.int .i64 a0_0, .string a0_1, .string a0_2, .int .i64 a0_3, .int .i64 a0_4, .slice A0_5 l0_5.length c0_5]) (t := 35) ?hr ?_; (case hd => rfl); (case hg => rfl); (case hr => first | (go_simp; done) | (go_simp; rfl)); intro gb429 hg w47 hbox hb; have n0_ := Aside0.mk (below_step (by repeat (first | (with_reducible first | exact HB.out | apply below_alloc | apply pw_below_drewN | apply below_drew1) | exact HB.out)) hb); have n1_ := Aside0.mk (hbox); have n2_ := Aside0.mk ((by rw [hg]; exact (below_size (by repeat (first | (with_reducible first | exact HB.out | apply below_alloc | apply pw_below_drewN | apply below_drew1) | exact HB.out))) : w.heap.size ≤ gb429)); have n3_ := Aside0.mk ((by rw [hg]; exact (below_size (by repeat (first | (with_reducible first | exact HB.out | apply below_alloc | apply pw_below_drewN | apply below_drew1) | exact HB.out))) : w.heap.size ≤ gb429)); clear HB; have HB := n0_; have BK429 := n1_; have GW429 := n2_; have GE429 := n3_; clear n0_ n1_ n2_ n3_; clear hb hbox hg; have hcz48_0 : w47.cell? ⟨gb429, 0, none⟩ = some (.int .i64 a0_0) := (blk_cell BK429.out 0).trans rfl; have hcz48_1 : w47.cell? ⟨gb429, 1, none⟩ = some (.string a0_1) := (blk_cell BK429.out 1).trans rfl; have hcz48_2 : w47.cell? ⟨gb429, 2, none⟩ = some (.string a0_2) := (blk_cell BK429.out 2).trans rfl; have hcz48_3 : w47.cell? ⟨gb429, 3, none⟩ = some (.int .i64 a0_3) := (blk_cell BK429.out 3).trans rfl; have hcz48_4 : w47.cell? ⟨gb429, 4, none⟩ = some (.int .i64 a0_4) := (blk_cell BK429.out 4).trans rfl; have hcz48_5 : w47.cell? ⟨gb429, 5, none⟩ = some (.slice A0_5 l0_5.length c0_5) := (blk_cell BK429.out 5).trans rfl; have hfz48_0 := blk_frozen BK429.out 0; have hfz48_1 := blk_frozen BK429.out 1; have hfz48_2 := blk_frozen BK429.out 2; have hfz48_3 := blk_frozen BK429.out 3; have hfz48_4 := blk_frozen BK429.out 4; have hfz48_5 := blk_frozen BK429.out 5) | ((with_reducible refine gate_callee (f := 17) rfl ?_); refine goesL_ (some 9) rfl rfl Tryd.func17 (by kernel_rfl) rfl #[.agg #[.int .i64 a0_0, .string a0_1, .string a0_2, .int .i64 a0_3, .int .i64 a0_4, .slice A0_5 l0_5.length c0_5], .int .i64 1048576] rfl (by (try simp only [List.map_toArray, List.map_cons, List.map_nil]); first | done | rfl | (simp only [List.length_drop, List.length_take]; rfl)) ?_; (with_reducible refine (laws_szJob.calls k a0_0 a0_1 a0_2 a0_3 a0_4 _ _ l0_5 1048576 t430 _ ?side1 ?side2 A2.out).mono ?_); (case side1 => repeat (first | exact (Kd.C_below HR0_5.out HB.out) | (with_reducible refine Kd.C_alloc ?_ _) | (with_reducible refine Kd.C_drewN ?_ _) | (with_reducible refine Kd.C_drew ?_))); (case side2 => exact HC0_5.out); rintro e w49 ⟨rfl, hb⟩; refine ⟨_, rfl, ?_⟩; have n0_ := Aside0.mk (blk_below (g := gb429) (o := .cells #[.int .i64 a0_0, .string a0_1, .string a0_2, .int .i64 a0_3, .int .i64 a0_4, .slice A0_5 l0_5.length c0_5] 35 (0, 0)) (by (with_reducible repeat (first | refine blk_drewN ?_ _ | refine blk_drew ?_ | refine blk_alloc ?_ _)); exact BK429.out) hb); have n1_ := Aside0.mk (below_step (by repeat (first | (with_reducible first | exact HB.out | apply below_alloc | apply pw_below_drewN | apply below_drew1 | refine below_set ?_ GE429.out) | exact HB.out)) hb); clear BK429; clear HB; have BK429 := n0_; have HB := n1_; clear n0_ n1_; (try clear hb); (try clear hb2); (try clear hk); (try clear hi); have hcz50_0 : w49.cell? ⟨gb429, 0, none⟩ = some (.int .i64 a0_0) := (blk_cell BK429.out 0).trans rfl; have hcz50_1 : w49.cell? ⟨gb429, 1, none⟩ = some (.string a0_1) := (blk_cell BK429.out 1).trans rfl; have hcz50_2 : w49.cell? ⟨gb429, 2, none⟩ = some (.string a0_2) := (blk_cell BK429.out 2).trans rfl; have hcz50_3 : w49.cell? ⟨gb429, 3, none⟩ = some (.int .i64 a0_3) := (blk_cell BK429.out 3).trans rfl; have hcz50_4 : w49.cell? ⟨gb429, 4, none⟩ = some (.int .i64 a0_4) := (blk_cell BK429.out 4).trans rfl; have hcz50_5 : w49.cell? ⟨gb429, 5, none⟩ = some (.slice A0_5 l0_5.length c0_5) := (blk_cell BK429.out 5).trans rfl; have hfz50_0 := blk_frozen BK429.out 0; have hfz50_1 := blk_frozen BK429.out 1; have hfz50_2 := blk_frozen BK429.out 2; have hfz50_3 := blk_frozen BK429.out 3; have hfz50_4 := blk_frozen BK429.out 4; have hfz50_5 := blk_frozen BK429.out 5) | ((with_reducible refine gate_callee (f := 19) rfl ?_); refine goesL_ (some 13) rfl rfl Tryd.func19 (by kernel_rfl) rfl #[.agg #[.int .i64 a0_0, .string a0_1, .string a0_2, .int .i64 a0_3, .int .i64 a0_4, .slice A0_5 l0_5.length c0_5]] rfl (by (try simp only [List.map_toArray, List.map_cons, List.map_nil]); first | done | rfl | (simp only [List.length_drop, List.length_take]; rfl)) ?_; (with_reducible refine (laws_toJob.calls k a0_0 a0_1 a0_2 a0_3 a0_4 _ _ l0_5 t431 t432 t433 t434 t435 t436 _ ?side1 ?side2 A7.out).mono ?_); (case side1 => repeat (first | exact (Kd.C_below HR0_5.out HB.out) | (with_reducible refine Kd.C_alloc ?_ _) | (with_reducible refine Kd.C_drewN ?_ _) | (with_reducible refine Kd.C_drew ?_))); (case side2 => exact HC0_5.out); rintro e w51 ⟨v437, rfl, ho0, hb⟩; refine ⟨_, rfl, ?_⟩; have n0_ := Aside0.mk (Kd.R_lower ho0 (below_size (by repeat (first | (with_reducible first | exact HB.out | apply below_alloc | apply pw_below_drewN | apply below_drew1 | refine below_set ?_ GE429.out) | exact HB.out)))); have n1_ := Aside0.mk (blk_below (g := gb429) (o := .cells #[.int .i64 a0_0, .string a0_1, .string a0_2, .int .i64 a0_3, .int .i64 a0_4, .slice A0_5 l0_5.length c0_5] 35 (0, 0)) (by (with_reducible repeat (first | refine blk_drewN ?_ _ | refine blk_drew ?_ | refine blk_alloc ?_ _)); exact BK429.out) hb); have n2_ := Aside0.mk (below_step (by repeat (first | (with_reducible first | exact HB.out | apply below_alloc | apply pw_below_drewN | apply below_drew1 | refine below_set ?_ GE429.out) | exact HB.out)) hb); clear BK429; clear HB; have HO438 := n0_; have BK429 := n1_; have HB := n2_; clear n0_ n1_ n2_; (try clear hb); (try clear hb2); (try clear hk); (try clear hi); (try clear ho0); obtain ⟨Ao52, co52, eo52⟩ := Kd.R_slice HO438.out; subst eo52) | ((with_reducible refine gate_callee (f := 18) rfl ?_); refine goesL_ (some 14) rfl rfl Tryd.func18 (by kernel_rfl) rfl #[.agg #[.int .i64 t431, .string t432, .string t433, .int .i64 t434, .int .i64 t435, .slice Ao52 t436.length co52]] rfl (by (try simp only [List.map_toArray, List.map_cons, List.map_nil]); first | done | rfl | (simp only [List.length_drop, List.length_take]; rfl)) ?_; (with_reducible refine (spec_GoodJob.calls k t431 t432 t433 t434 t435 _ _ t436 t439 _ ?side1 ?side2 A8.out).mono ?_); (case side1 => repeat (first | exact (Kd.R_reads' HO438.out).2.2 | (with_reducible refine Kd.C_alloc ?_ _) | (with_reducible refine Kd.C_drewN ?_ _) | (with_reducible refine Kd.C_drew ?_))); (case side2 => exact (Kd.R_reads' HO438.out).2.1); rintro e w53 ⟨rfl, hb⟩; refine ⟨_, rfl, ?_⟩; have n0_ := Aside0.mk (Kd.R_below (by (with_reducible repeat (first | apply Kd.R_alloc | apply Kd.R_drewN | apply Kd.R_drew)); exact HO438.out) hb); have n1_ := Aside0.mk (blk_below (g := gb429) (o := .cells #[.int .i64 a0_0, .string a0_1, .string a0_2, .int .i64 a0_3, .int .i64 a0_4, .slice A0_5 l0_5.length c0_5] 35 (0, 0)) (by (with_reducible repeat (first | refine blk_drewN ?_ _ | refine blk_drew ?_ | refine blk_alloc ?_ _)); exact BK429.out) hb); have n2_ := Aside0.mk (below_step (by repeat (first | (with_reducible first | exact HB.out | apply below_alloc | apply pw_below_drewN | apply below_drew1 | refine below_set ?_ GE429.out) | exact HB.out)) hb); clear HO438; clear BK429; clear HB; have HO438 := n0_; have BK429 := n1_; have HB := n2_; clear n0_ n1_ n2_; (try clear hb); (try clear hb2); (try clear hk); (try clear hi); have hcz54_0 : w53.cell? ⟨gb429, 0, none⟩ = some (.int .i64 a0_0) := (blk_cell BK429.out 0).trans rfl; have hcz54_1 : w53.cell? ⟨gb429, 1, none⟩ = some (.string a0_1) := (blk_cell BK429.out 1).trans rfl; have hcz54_2 : w53.cell? ⟨gb429, 2, none⟩ = some (.string a0_2) := (blk_cell BK429.out 2).trans rfl; have hcz54_3 : w53.cell? ⟨gb429, 3, none⟩ = some (.int .i64 a0_3) := (blk_cell BK429.out 3).trans rfl; have hcz54_4 : w53.cell? ⟨gb429, 4, none⟩ = some (.int .i64 a0_4) := (blk_cell BK429.out 4).trans rfl; have hcz54_5 : w53.cell? ⟨gb429, 5, none⟩ = some (.slice A0_5 l0_5.length c0_5) := (blk_cell BK429.out 5).trans rfl; have hfz54_0 := blk_frozen BK429.out 0; have hfz54_1 := blk_frozen BK429.out 1; have hfz54_2 := blk_frozen BK429.out 2; have hfz54_3 := blk_frozen BK429.out 3; have hfz54_4 := blk_frozen BK429.out 4; have hfz54_5 := blk_frozen BK429.out 5) | ((with_reducible refine gate_callee (f := 19) rfl ?_); refine goesL_ (some 16) rfl rfl Tryd.func19 (by kernel_rfl) rfl #[.agg #[.int .i64 a0_0, .string a0_1, .string a0_2, .int .i64 a0_3, .int .i64 a0_4, .slice A0_5 l0_5.length c0_5]] rfl (by (try simp only [List.map_toArray, List.map_cons, List.map_nil]); first | done | rfl | (simp only [List.length_drop, List.length_take]; rfl)) ?_; (with_reducible refine (laws_toJob.calls k a0_0 a0_1 a0_2 a0_3 a0_4 _ _ l0_5 t440 t441 t442 t443 t444 t445 _ ?side1 ?side2 A9.out).mono ?_); (case side1 => repeat (first | exact (Kd.C_below HR0_5.out HB.out) | (with_reducible refine Kd.C_alloc ?_ _) | (with_reducible refine Kd.C_drewN ?_ _) | (with_reducible refine Kd.C_drew ?_))); (case side2 => exact HC0_5.out); rintro e w55 ⟨v446, rfl, ho0, hb⟩; refine ⟨_, rfl, ?_⟩; have n0_ := Aside0.mk (Kd.R_elder' (by (with_reducible repeat (first | apply Kd.R_alloc | apply Kd.R_drewN | apply Kd.R_drew)); exact HO438.out) (Kd.R_base ho0) hb); have n1_ := Aside0.mk (Kd.R_lower (Kd.R_new' ho0 (Kd.R_lt (by (with_reducible repeat (first | apply Kd.R_alloc | apply Kd.R_drewN | apply Kd.R_drew)); exact HO438.out))) (below_size (by repeat (first | (with_reducible first | exact HB.out | apply below_alloc | apply pw_below_drewN | apply below_drew1 | refine below_set ?_ GE429.out) | exact HB.out)))); have n2_ := Aside0.mk (blk_below (g := gb429) (o := .cells #[.int .i64 a0_0, .string a0_1, .string a0_2, .int .i64 a0_3, .int .i64 a0_4, .slice A0_5 l0_5.length c0_5] 35 (0, 0)) (by (with_reducible repeat (first | refine blk_drewN ?_ _ | refine blk_drew ?_ | refine blk_alloc ?_ _)); exact BK429.out) hb); have n3_ := Aside0.mk (below_step (by repeat (first | (with_reducible first | exact HB.out | apply below_alloc | apply pw_below_drewN | apply below_drew1 | refine below_set ?_ GE429.out) | exact HB.out)) hb); clear HO438; clear BK429; clear HB; have HO438 := n0_; have HO447 := n1_; have BK429 := n2_; have HB := n3_; clear n0_ n1_ n2_ n3_; (try clear hb); (try clear hb2); (try clear hk); (try clear hi); (try clear ho0)) | ((with_reducible refine gate_dst (N := 5) rfl ?_); refine box_event ?hg (N := 5) ?hd (cs := #[.int .i64 0, .string (⟨#[]⟩ : ByteArray), .string (⟨#[]⟩ : ByteArray), .int .i64 0, .int .i64 0, .slice none 0 0]) (t := 38) ?hr ?_; (case hd => rfl); (case hg => rfl); (case hr => first | (go_simp; done) | (go_simp; rfl)); intro gb448 hg w56 hbox hb; have n0_ := Aside0.mk (Kd.R_below (by (with_reducible repeat (first | apply Kd.R_alloc | apply Kd.R_drewN | apply Kd.R_drew)); exact HO438.out) hb); have n1_ := Aside0.mk (Kd.R_below (by (with_reducible repeat (first | apply Kd.R_alloc | apply Kd.R_drewN | apply Kd.R_drew)); exact HO447.out) hb); have n2_ := Aside0.mk (blk_below (g := gb429) (o := .cells #[.int .i64 a0_0, .string a0_1, .string a0_2, .int .i64 a0_3, .int .i64 a0_4, .slice A0_5 l0_5.length c0_5] 35 (0, 0)) (by (with_reducible repeat (first | refine blk_drewN ?_ _ | refine blk_drew ?_ | refine blk_alloc ?_ _)); exact BK429.out) hb); have n3_ := Aside0.mk (below_step (by repeat (first | (with_reducible first | exact HB.out | apply below_alloc | apply pw_below_drewN | apply below_drew1 | refine below_set ?_ GE429.out) | exact HB.out)) hb); have n4_ := Aside0.mk (hbox); have n5_ := Aside0.mk ((by rw [hg]; exact (below_size (by repeat (first | (with_reducible first | exact HB.out | apply below_alloc | apply pw_below_drewN | apply below_drew1 | refine below_set ?_ GE429.out) | exact HB.out))) : w.heap.size ≤ gb448)); have n6_ := Aside0.mk ((by rw [hg]; exact (below_size (by repeat (first | (with_reducible first | exact HB.out | apply below_alloc | apply pw_below_drewN | apply below_drew1 | refine below_set ?_ GE429.out) | exact HB.out))) : w.heap.size ≤ gb448)); have n7_ := Aside0.mk ((by rw [hg]; exact Nat.ne_of_lt (blk_lt (g := gb429) (o := .cells #[.int .i64 a0_0, .string a0_1, .string a0_2, .int .i64 a0_3, .int .i64 a0_4, .slice A0_5 l0_5.length c0_5] 35 (0, 0)) (by (with_reducible repeat (first | refine blk_drewN ?_ _ | refine blk_drew ?_ | refine blk_alloc ?_ _)); exact BK429.out)) : gb429 ≠ gb448)); have n8_ := Aside0.mk ((by rw [hg]; exact Nat.ne_of_gt (blk_lt (g := gb429) (o := .cells #[.int .i64 a0_0, .string a0_1, .string a0_2, .int .i64 a0_3, .int .i64 a0_4, .slice A0_5 l0_5.length c0_5] 35 (0, 0)) (by (with_reducible repeat (first | refine blk_drewN ?_ _ | refine blk_drew ?_ | refine blk_alloc ?_ _)); exact BK429.out)) : gb448 ≠ gb429)); clear HO438; clear HO447; clear BK429; clear HB; have HO438 := n0_; have HO447 := n1_; have BK429 := n2_; have HB := n3_; have BK448 := n4_; have GW448 := n5_; have GE448 := n6_; have NB429_448 := n7_; have NB448_429 := n8_; clear n0_ n1_ n2_ n3_ n4_ n5_ n6_ n7_ n8_; clear hb hbox hg; have hnb57 := NB448_429.out; have hnc57 := NB429_448.out; have hcz58_0 : w56.cell? ⟨gb448, 0, none⟩ = some (.int .i64 0) := (blk_cell BK448.out 0).trans rfl; have hcz58_1 : w56.cell? ⟨gb448, 1, none⟩ = some (.string (⟨#[]⟩ : ByteArray)) := (blk_cell BK448.out 1).trans rfl; have hcz58_2 : w56.cell? ⟨gb448, 2, none⟩ = some (.string (⟨#[]⟩ : ByteArray)) := (blk_cell BK448.out 2).trans rfl; have hcz58_3 : w56.cell? ⟨gb448, 3, none⟩ = some (.int .i64 0) := (blk_cell BK448.out 3).trans rfl; have hcz58_4 : w56.cell? ⟨gb448, 4, none⟩ = some (.int .i64 0) := (blk_cell BK448.out 4).trans rfl; have hcz58_5 : w56.cell? ⟨gb448, 5, none⟩ = some (.slice none 0 0) := (blk_cell BK448.out 5).trans rfl; have hfz58_0 := blk_frozen BK448.out 0; have hfz58_1 := blk_frozen BK448.out 1; have hfz58_2 := blk_frozen BK448.out 2; have hfz58_3 := blk_frozen BK448.out 3; have hfz58_4 := blk_frozen BK448.out 4; have hfz58_5 := blk_frozen BK448.out 5; obtain ⟨Ao59, co59, eo59⟩ := Kd.R_slice HO447.out; subst eo59) | ((with_reducible refine gate_callee (f := 20) rfl ?_); refine goesL_ (some 18) rfl rfl Tryd.func20 (by kernel_rfl) rfl #[.agg #[.int .i64 t440, .string t441, .string t442, .int .i64 t443, .int .i64 t444, .slice Ao59 t445.length co59]] rfl (by (try simp only [List.map_toArray, List.map_cons, List.map_nil]); first | done | rfl | (simp only [List.length_drop, List.length_take]; rfl)) ?_; (with_reducible refine (impl_GoodJob.calls k t440 t441 t442 t443 t444 _ _ t445 t449 _ ?side1 ?side2 A10.out).mono ?_); (case side1 => refine (Kd.R_reads' (e := 9) (base := w.heap.size) (ok := fun k_ => (True ∧ some k_ ≠ (.slice Ao52 t436.length co52 : Value).ownBlock)) (n := t445.length) (c := co59) ?_).2.2; exact (by (with_reducible repeat (first | apply Kd.R_alloc | apply Kd.R_drewN | apply Kd.R_drew)); exact (Kd.R_mono (Kd.R_far (p := ⟨gb448, 5, none⟩) (Kd.R_far (p := ⟨gb448, 4, none⟩) (Kd.R_far (p := ⟨gb448, 3, none⟩) (Kd.R_far (p := ⟨gb448, 2, none⟩) (Kd.R_far (p := ⟨gb448, 1, none⟩) (Kd.R_far (p := ⟨gb448, 0, none⟩) (Kd.R_types HO447.out BK448.out (by decide)) (fun _ hk => hk.2) (.int .i64 t440)) (fun _ hk => hk.2) (.string t441)) (fun _ hk => hk.2) (.string t442)) (fun _ hk => hk.2) (.int .i64 t443)) (fun _ hk => hk.2) (.int .i64 t444)) (fun _ hk => hk.2) (.slice Ao59 t445.length co59)) (fun _ h_ => h_.1)))); (case side2 => exact (Kd.R_reads' HO447.out).2.1); rintro e w60 ⟨rfl, hb⟩; refine ⟨_, rfl, ?_⟩; have n0_ := Aside0.mk (Kd.R_below (by (with_reducible repeat (first | apply Kd.R_alloc | apply Kd.R_drewN | apply Kd.R_drew)); exact (Kd.R_mono (Kd.R_far (p := ⟨gb448, 5, none⟩) (Kd.R_far (p := ⟨gb448, 4, none⟩) (Kd.R_far (p := ⟨gb448, 3, none⟩) (Kd.R_far (p := ⟨gb448, 2, none⟩) (Kd.R_far (p := ⟨gb448, 1, none⟩) (Kd.R_far (p := ⟨gb448, 0, none⟩) (Kd.R_types HO438.out BK448.out (by decide)) (fun _ hk => hk.2) (.int .i64 t440)) (fun _ hk => hk.2) (.string t441)) (fun _ hk => hk.2) (.string t442)) (fun _ hk => hk.2) (.int .i64 t443)) (fun _ hk => hk.2) (.int .i64 t444)) (fun _ hk => hk.2) (.slice Ao59 t445.length co59)) (fun _ h_ => h_.1))) hb); have n1_ := Aside0.mk (Kd.R_below (by (with_reducible repeat (first | apply Kd.R_alloc | apply Kd.R_drewN | apply Kd.R_drew)); exact (Kd.R_mono (Kd.R_far (p := ⟨gb448, 5, none⟩) (Kd.R_far (p := ⟨gb448, 4, none⟩) (Kd.R_far (p := ⟨gb448, 3, none⟩) (Kd.R_far (p := ⟨gb448, 2, none⟩) (Kd.R_far (p := ⟨gb448, 1, none⟩) (Kd.R_far (p := ⟨gb448, 0, none⟩) (Kd.R_types HO447.out BK448.out (by decide)) (fun _ hk => hk.2) (.int .i64 t440)) (fun _ hk => hk.2) (.string t441)) (fun _ hk => hk.2) (.string t442)) (fun _ hk => hk.2) (.int .i64 t443)) (fun _ hk => hk.2) (.int .i64 t444)) (fun _ hk => hk.2) (.slice Ao59 t445.length co59)) (fun _ h_ => h_.1))) hb); have n2_ := Aside0.mk (blk_below (g := gb429) (o := .cells #[.int .i64 a0_0, .string a0_1, .string a0_2, .int .i64 a0_3, .int .i64 a0_4, .slice A0_5 l0_5.length c0_5] 35 (0, 0)) (by (with_reducible repeat (first | refine blk_drewN ?_ _ | refine blk_drew ?_ | refine blk_alloc ?_ _)); refine blk_far ?_ NB429_448.out _; (with_reducible repeat (first | refine blk_drewN ?_ _ | refine blk_drew ?_ | refine blk_alloc ?_ _)); refine blk_far ?_ NB429_448.out _; (with_reducible repeat (first | refine blk_drewN ?_ _ | refine blk_drew ?_ | refine blk_alloc ?_ _)); refine blk_far ?_ NB429_448.out _; (with_reducible repeat (first | refine blk_drewN ?_ _ | refine blk_drew ?_ | refine blk_alloc ?_ _)); refine blk_far ?_ NB429_448.out _; (with_reducible repeat (first | refine blk_drewN ?_ _ | refine blk_drew ?_ | refine blk_alloc ?_ _)); refine blk_far ?_ NB429_448.out _; (with_reducible repeat (first | refine blk_drewN ?_ _ | refine blk_drew ?_ | refine blk_alloc ?_ _)); refine blk_far ?_ NB429_448.out _; (with_reducible repeat (first | refine blk_drewN ?_ _ | refine blk_drew ?_ | refine blk_alloc ?_ _)); exact BK429.out) hb); have n3_ := Aside0.mk (blk_below (g := gb448) (o := .cells #[.int .i64 t440, .string t441, .string t442, .int .i64 t443, .int .i64 t444, .slice Ao59 t445.length co59] 38 (0, 0)) (by (with_reducible repeat (first | refine blk_drewN ?_ _ | refine blk_drew ?_ | refine blk_alloc ?_ _)); refine blk_put (cs := #[.int .i64 t440, .string t441, .string t442, .int .i64 t443, .int .i64 t444, .slice none 0 0]) ?_ 5 _ rfl; (with_reducible repeat (first | refine blk_drewN ?_ _ | refine blk_drew ?_ | refine blk_alloc ?_ _)); refine blk_put (cs := #[.int .i64 t440, .string t441, .string t442, .int .i64 t443, .int .i64 0, .slice none 0 0]) ?_ 4 _ rfl; (with_reducible repeat (first | refine blk_drewN ?_ _ | refine blk_drew ?_ | refine blk_alloc ?_ _)); refine blk_put (cs := #[.int .i64 t440, .string t441, .string t442, .int .i64 0, .int .i64 0, .slice none 0 0]) ?_ 3 _ rfl; (with_reducible repeat (first | refine blk_drewN ?_ _ | refine blk_drew ?_ | refine blk_alloc ?_ _)); refine blk_put (cs := #[.int .i64 t440, .string t441, .string (⟨#[]⟩ : ByteArray), .int .i64 0, .int .i64 0, .slice none 0 0]) ?_ 2 _ rfl; (with_reducible repeat (first | refine blk_drewN ?_ _ | refine blk_drew ?_ | refine blk_alloc ?_ _)); refine blk_put (cs := #[.int .i64 t440, .string (⟨#[]⟩ : ByteArray), .string (⟨#[]⟩ : ByteArray), .int .i64 0, .int .i64 0, .slice none 0 0]) ?_ 1 _ rfl; (with_reducible repeat (first | refine blk_drewN ?_ _ | refine blk_drew ?_ | refine blk_alloc ?_ _)); refine blk_put (cs := #[.int .i64 0, .string (⟨#[]⟩ : ByteArray), .string (⟨#[]⟩ : ByteArray), .int .i64 0, .int .i64 0, .slice none 0 0]) ?_ 0 _ rfl; (with_reducible repeat (first | refine blk_drewN ?_ _ | refine blk_drew ?_ | refine blk_alloc ?_ _)); exact BK448.out) hb); have n4_ := Aside0.mk (below_step (by repeat (first | (with_reducible first | exact HB.out | apply below_alloc | apply pw_below_drewN | apply below_drew1 | refine below_set ?_ GE429.out | refine below_set ?_ GE448.out) | exact HB.out)) hb); clear HO438; clear HO447; clear BK429; clear BK448; clear HB; have HO438 := n0_; have HO447 := n1_; have BK429 := n2_; have BK448 := n3_; have HB := n4_; clear n0_ n1_ n2_ n3_ n4_; (try clear hb); (try clear hb2); (try clear hk); (try clear hi)))
        have n0_ := Aside0.mk (Kd.R_drew HO438.out)
        have n1_ := Aside0.mk (Kd.R_drew HO447.out)
        have n2_ := Aside0.mk (blk_drew BK429.out)
        have n3_ := Aside0.mk (blk_drew BK448.out)
        have n4_ := Aside0.mk (below_drew1 HB.out)
        clear HO438
        clear HO447
        clear BK429
        clear BK448
        clear HB
        have HO438 := n0_
        have HO447 := n1_
        have BK429 := n2_
        have BK448 := n3_
        have HB := n4_
        clear n0_ n1_ n2_ n3_ n4_
        refine start_ (n := 5) (S := fun w' => w'.cell? ⟨gb448, 0, none⟩ = some (.int .i64 t440) ∧ w'.cell? ⟨gb448, 1, none⟩ = some (.string t441) ∧ w'.cell? ⟨gb448, 2, none⟩ = some (.string t442) ∧ w'.cell? ⟨gb448, 3, none⟩ = some (.int .i64 t443) ∧ w'.cell? ⟨gb448, 4, none⟩ = some (.int .i64 t444) ∧ w'.cell? ⟨gb448, 5, none⟩ = some (.slice Ao59 t445.length co59) ∧ w'.cell? ⟨gb429, 0, none⟩ = some (.int .i64 a0_0) ∧ w'.cell? ⟨gb429, 1, none⟩ = some (.string a0_1) ∧ w'.cell? ⟨gb429, 2, none⟩ = some (.string a0_2) ∧ w'.cell? ⟨gb429, 3, none⟩ = some (.int .i64 a0_3) ∧ w'.cell? ⟨gb429, 4, none⟩ = some (.int .i64 a0_4) ∧ w'.cell? ⟨gb429, 5, none⟩ = some (.slice A0_5 l0_5.length c0_5)) (ds := []) #[false, false, false, false, false] (by kernel_rfl) rfl rfl ⟨(blk_cell BK448.out 0).trans rfl, (blk_cell BK448.out 1).trans rfl, (blk_cell BK448.out 2).trans rfl, (blk_cell BK448.out 3).trans rfl, (blk_cell BK448.out 4).trans rfl, (blk_cell BK448.out 5).trans rfl, (blk_cell BK429.out 0).trans rfl, (blk_cell BK429.out 1).trans rfl, (blk_cell BK429.out 2).trans rfl, (blk_cell BK429.out 3).trans rfl, (blk_cell BK429.out 4).trans rfl, (blk_cell BK429.out 5).trans rfl⟩ (fun hHeld => ?_)
        generalize w60.drew = w61 at HO438 HO447 BK429 BK448 HB hHeld ⊢
        refine take_ (i := 0) (N := some 22) (v := ?_) (a' := ?_) #[true, false, false, false, false] rfl rfl (by kernel_rfl) (fun _ _ _ h => h) (Or.inl ⟨by rfl, ?_⟩) hHeld ?_ ?_
        rotate_left
        · rintro w' ⟨s0, s1, s2, s3, s4, s5, s6, s7, s8, s9, s10, s11⟩
          go_simp
          with_reducible rfl
        rotate_left
        · simp only [Act.put, List.setIfInBounds_toArray, List.set_cons_zero, List.set_cons_succ, i64_w, i32_w]
          rfl
        refine take_ (i := 1) (N := some 23) (v := ?_) (a' := ?_) #[true, true, false, false, false] rfl rfl (by kernel_rfl) (fun _ _ _ h => h) (Or.inl ⟨by rfl, ?_⟩) hHeld ?_ ?_
        rotate_left
        · rintro w' ⟨s0, s1, s2, s3, s4, s5, s6, s7, s8, s9, s10, s11⟩
          go_simp
          with_reducible rfl
        rotate_left
        · simp only [Act.put, List.setIfInBounds_toArray, List.set_cons_zero, List.set_cons_succ, i64_w, i32_w]
          rfl
        refine one_ (i := 2) (N := some 24) #[true, true, true, false, false] rfl rfl (by kernel_rfl) (by decide) (fun K hK => ?_)
        refine goes_ Tryd.func19 (by kernel_rfl) rfl #[.agg #[.int .i64 a0_0, .string a0_1, .string a0_2, .int .i64 a0_3, .int .i64 a0_4, .slice A0_5 l0_5.length c0_5]] (by rfl) rfl rfl (by (try simp only [List.map_toArray, List.map_cons, List.map_nil]); first | done | rfl | (simp only [List.length_drop, List.length_take]; rfl)) ?_
        with_reducible refine (laws_toJob.calls k a0_0 a0_1 a0_2 a0_3 a0_4 _ _ l0_5 t450 t451 t452 t453 t454 t455 _ ?side1 ?side2 A26.out).mono ?_
        (case side1 => repeat (first | exact (Kd.C_below HR0_5.out HB.out) | (with_reducible refine Kd.C_alloc ?_ _) | (with_reducible refine Kd.C_drewN ?_ _) | (with_reducible refine Kd.C_drew ?_)))
        (case side2 => exact HC0_5.out)
        rintro e w62 ⟨v456, rfl, ho0, hb⟩
        refine ⟨_, rfl, ?_⟩
        have n0_ := Aside0.mk (Kd.R_elder' (by (with_reducible repeat (first | apply Kd.R_alloc | apply Kd.R_drewN | apply Kd.R_drew)); exact HO438.out) (Kd.R_base ho0) hb)
        have n1_ := Aside0.mk (Kd.R_elder' (by (with_reducible repeat (first | apply Kd.R_alloc | apply Kd.R_drewN | apply Kd.R_drew)); exact HO447.out) (Kd.R_base ho0) hb)
        have n2_ := Aside0.mk (Kd.R_lower (Kd.R_new' (Kd.R_new' ho0 (Kd.R_lt (by (with_reducible repeat (first | apply Kd.R_alloc | apply Kd.R_drewN | apply Kd.R_drew)); exact HO438.out))) (Kd.R_lt (by (with_reducible repeat (first | apply Kd.R_alloc | apply Kd.R_drewN | apply Kd.R_drew)); exact HO447.out))) (below_size (by repeat (first | (with_reducible first | exact HB.out | apply below_alloc | apply pw_below_drewN | apply below_drew1 | refine below_set ?_ GE429.out | refine below_set ?_ GE448.out) | exact HB.out))))
        have n3_ := Aside0.mk (blk_below (g := gb429) (o := .cells #[.int .i64 a0_0, .string a0_1, .string a0_2, .int .i64 a0_3, .int .i64 a0_4, .slice A0_5 l0_5.length c0_5] 35 (0, 0)) (by (with_reducible repeat (first | refine blk_drewN ?_ _ | refine blk_drew ?_ | refine blk_alloc ?_ _)); exact BK429.out) hb)
        have n4_ := Aside0.mk (blk_below (g := gb448) (o := .cells #[.int .i64 t440, .string t441, .string t442, .int .i64 t443, .int .i64 t444, .slice Ao59 t445.length co59] 38 (0, 0)) (by (with_reducible repeat (first | refine blk_drewN ?_ _ | refine blk_drew ?_ | refine blk_alloc ?_ _)); exact BK448.out) hb)
        have n5_ := Aside0.mk (below_step (by repeat (first | (with_reducible first | exact HB.out | apply below_alloc | apply pw_below_drewN | apply below_drew1 | refine below_set ?_ GE429.out | refine below_set ?_ GE448.out) | exact HB.out)) hb)
        clear HO438
        clear HO447
        clear BK429
        clear BK448
        clear HB
        have HO438 := n0_
        have HO447 := n1_
        have HO457 := n2_
        have BK429 := n3_
        have BK448 := n4_
        have HB := n5_
        clear n0_ n1_ n2_ n3_ n4_ n5_
        (try clear hb)
        (try clear hb2)
        (try clear hk)
        (try clear hi)
        (try clear ho0)
        obtain ⟨Ao63, co63, eo63⟩ := Kd.R_slice HO457.out
        (first | subst eo63 | (injection eo63 with f1_ f2_ f3_; have f4_ := f1_.symm; have f5_ := f3_.symm; clear f1_ f2_ f3_; subst f4_; subst f5_))
        refine hK.out _ _ ⟨(blk_cell BK448.out 0).trans rfl, (blk_cell BK448.out 1).trans rfl, (blk_cell BK448.out 2).trans rfl, (blk_cell BK448.out 3).trans rfl, (blk_cell BK448.out 4).trans rfl, (blk_cell BK448.out 5).trans rfl, (blk_cell BK429.out 0).trans rfl, (blk_cell BK429.out 1).trans rfl, (blk_cell BK429.out 2).trans rfl, (blk_cell BK429.out 3).trans rfl, (blk_cell BK429.out 4).trans rfl, (blk_cell BK429.out 5).trans rfl⟩ (fun hHeld => ?_)
        clear hK K
        refine norm_ (a' := ?_) ?_ ?_
        rotate_left
        · show Act.put _ (some 24) _ = _
          simp only [Act.put, List.setIfInBounds_toArray, List.set_cons_zero, List.set_cons_succ, i64_w, i32_w]
          rfl
        refine one_ (i := 3) (N := some 25) #[true, true, true, true, false] rfl rfl (by kernel_rfl) (by decide) (fun K hK => ?_)
        refine goes_ Tryd.func21 (by kernel_rfl) rfl #[.agg #[.int .i64 t440, .string t441, .string t442, .int .i64 t443, .int .i64 t444, .slice Ao59 t445.length co59], .agg #[.int .i64 t450, .string t451, .string t452, .int .i64 t453, .int .i64 t454, .slice Ao63 t455.length co63]] (by rfl) rfl rfl (by (try simp only [List.map_toArray, List.map_cons, List.map_nil]); first | done | rfl | (simp only [List.length_drop, List.length_take]; rfl)) ?_
        with_reducible refine (laws_eqJob.calls k t440 t441 t442 t443 t444 _ _ t445 t450 t451 t452 t453 t454 _ _ t455 false _ ?side1 ?side2 ?side3 ?side4 A27.out).mono ?_
        (case side1 => repeat (first | exact (Kd.R_reads' HO447.out).2.2 | (with_reducible refine Kd.C_alloc ?_ _) | (with_reducible refine Kd.C_drewN ?_ _) | (with_reducible refine Kd.C_drew ?_)))
        (case side2 => exact (Kd.R_reads' HO447.out).2.1)
        (case side3 => repeat (first | exact (Kd.R_reads' HO457.out).2.2 | (with_reducible refine Kd.C_alloc ?_ _) | (with_reducible refine Kd.C_drewN ?_ _) | (with_reducible refine Kd.C_drew ?_)))
        (case side4 => exact (Kd.R_reads' HO457.out).2.1)
        rintro e w64 ⟨rfl, hb⟩
        refine ⟨_, rfl, ?_⟩
        have n0_ := Aside0.mk (Kd.R_below (by (with_reducible repeat (first | apply Kd.R_alloc | apply Kd.R_drewN | apply Kd.R_drew)); exact HO438.out) hb)
        have n1_ := Aside0.mk (Kd.R_below (by (with_reducible repeat (first | apply Kd.R_alloc | apply Kd.R_drewN | apply Kd.R_drew)); exact HO447.out) hb)
        have n2_ := Aside0.mk (Kd.R_below (by (with_reducible repeat (first | apply Kd.R_alloc | apply Kd.R_drewN | apply Kd.R_drew)); exact HO457.out) hb)
        have n3_ := Aside0.mk (blk_below (g := gb429) (o := .cells #[.int .i64 a0_0, .string a0_1, .string a0_2, .int .i64 a0_3, .int .i64 a0_4, .slice A0_5 l0_5.length c0_5] 35 (0, 0)) (by (with_reducible repeat (first | refine blk_drewN ?_ _ | refine blk_drew ?_ | refine blk_alloc ?_ _)); exact BK429.out) hb)
        have n4_ := Aside0.mk (blk_below (g := gb448) (o := .cells #[.int .i64 t440, .string t441, .string t442, .int .i64 t443, .int .i64 t444, .slice Ao59 t445.length co59] 38 (0, 0)) (by (with_reducible repeat (first | refine blk_drewN ?_ _ | refine blk_drew ?_ | refine blk_alloc ?_ _)); exact BK448.out) hb)
        have n5_ := Aside0.mk (below_step (by repeat (first | (with_reducible first | exact HB.out | apply below_alloc | apply pw_below_drewN | apply below_drew1 | refine below_set ?_ GE429.out | refine below_set ?_ GE448.out) | exact HB.out)) hb)
        clear HO438
        clear HO447
        clear HO457
        clear BK429
        clear BK448
        clear HB
        have HO438 := n0_
        have HO447 := n1_
        have HO457 := n2_
        have BK429 := n3_
        have BK448 := n4_
        have HB := n5_
        clear n0_ n1_ n2_ n3_ n4_ n5_
        (try clear hb)
        (try clear hb2)
        (try clear hk)
        (try clear hi)
        refine hK.out _ _ ⟨(blk_cell BK448.out 0).trans rfl, (blk_cell BK448.out 1).trans rfl, (blk_cell BK448.out 2).trans rfl, (blk_cell BK448.out 3).trans rfl, (blk_cell BK448.out 4).trans rfl, (blk_cell BK448.out 5).trans rfl, (blk_cell BK429.out 0).trans rfl, (blk_cell BK429.out 1).trans rfl, (blk_cell BK429.out 2).trans rfl, (blk_cell BK429.out 3).trans rfl, (blk_cell BK429.out 4).trans rfl, (blk_cell BK429.out 5).trans rfl⟩ (fun hHeld => ?_)
        clear hK K
        refine norm_ (a' := ?_) ?_ ?_
        rotate_left
        · show Act.put _ (some 25) _ = _
          simp only [Act.put, List.setIfInBounds_toArray, List.set_cons_zero, List.set_cons_succ, i64_w, i32_w]
          rfl
        refine pure_ (i := 4) (N := some 26) (v := ?_) (a' := ?_) #[true, true, true, true, true] rfl rfl (by kernel_rfl) (fun _ _ _ h => h) (Or.inl ⟨by rfl, ?_⟩) ?_ ?_
        rotate_left
        · intro w'
          go_simp
          with_reducible rfl
        rotate_left
        · simp only [Act.put, List.setIfInBounds_toArray, List.set_cons_zero, List.set_cons_succ, i64_w, i32_w]
          rfl
        refine done_ (by kernel_rfl) ?_
        try go_wp2
        go_ret
        exact ⟨by first | rfl | (simp [errW_none, errW_some] <;> rfl) | (simp [*, errW_none, errW_some] <;> rfl), by repeat (first | (with_reducible first | exact HB.out | apply below_alloc | apply pw_below_drewN | apply below_drew1 | refine below_set ?_ GE429.out | refine below_set ?_ GE448.out) | exact HB.out)⟩

end Go.Proofs.YtibfocaldcjiiaaDoor.Q

/- The reference's names, parts and paths come to the program's. -/
namespace Go.Proofs.YtibfocaldcjiiaaDoor.Q
open Go.RowKit Go.Proofs.YtibfocaldcjiiaaDoorW.PrintWords Go.Proofs.YtibfocaldcjiiaaDoorW.PrintLast Go.Proofs.YtibfocaldcjiiaaDoorW.PrintMore
attribute [local go_sem] max2_int min2_int max_two min_two max_three min_three max_four min_four   -- for this text's walks alone
set_option linter.unusedVariables false
set_option linter.unusedSimpArgs false

theorem nameB_iff (c : Int) : nameB c = true ↔ (97 ≤ c ∧ c ≤ 122) ∨ (48 ≤ c ∧ c ≤ 57) ∨ c = 46 ∨ c = 95 ∨ c = 45 := by
  unfold nameB; simp
theorem name_step {α : Type} (c : Int) (X F : α) :
    (if c < 97 then (if c < 48 then (if c = 46 then X else (if c = 95 then X else (if c = 45 then X else F))) else (if c > 57 then (if c = 46 then X else (if c = 95 then X else (if c = 45 then X else F))) else X)) else (if c > 122 then (if c < 48 then (if c = 46 then X else (if c = 95 then X else (if c = 45 then X else F))) else (if c > 57 then (if c = 46 then X else (if c = 95 then X else (if c = 45 then X else F))) else X)) else X)) = if nameB c = true then X else F := by
  by_cases h : nameB c = true
  · rw [if_pos h]
    have := (nameB_iff c).mp h
    repeat' split
    all_goals first | rfl | omega
  · rw [if_neg h]
    have := fun q => h ((nameB_iff c).mpr q)
    repeat' split
    all_goals first | rfl | (exfalso; apply this; omega)
theorem l1In_f (n lo hi : Int) : spec_l1In.f n lo hi = some (inB lo hi n) := by
  unfold spec_l1In.f inB
  by_cases h : n ≥ lo
  · rw [if_pos h]; have : lo ≤ n := h; simp [this]
  · rw [if_neg h]; have : ¬ lo ≤ n := h; simp [this]
/-- What the reference's loop over the bytes from place i on ends in. -/
def nameEnd (s : ByteArray) : Bool := inB 1 8 s.size && !(s.toList == [46] || s.toList == [46, 46])
theorem l2Name_loop (s : ByteArray) (hs : s.size < 4294967281) (d : Nat) : ∀ i : Nat, i + d = s.size → Ev (fun k => spec_l2Name.l0 k s (i : Int)) (((bytesOf s).drop i).all nameB && nameEnd s) := by
  induction d with
  | zero =>
    intro i hi
    refine Ev.step (f := fun _ => some (nameEnd s)) (fun k => ?_) ?_
    · simp only [spec_l2Name.l0]
      rw [if_neg (by omega), l1In_f]
      unfold nameEnd
      simp only [Option.bind_some]
      cases inB 1 8 s.size
      · rfl
      · by_cases h1 : s.toList = [46]
        · simp [h1]
        · have e1 : (s.toList == [46]) = false := by simpa using h1
          rw [if_pos rfl, if_neg h1, e1]
          simp [bne]
    · rw [List.drop_of_length_le (by rw [bytesOf_length]; omega)]
      simpa using Ev.now (nameEnd s)
  | succ d ih =>
    intro i hi
    have hlt : i < s.size := by omega
    have hw := step_n (i := i) (n := s.size) hlt (by omega)
    have e : ∀ k, spec_l2Name.l0 (k + 1) s (i : Int) = if nameB (bt s i) = true then spec_l2Name.l0 k s ((i + 1 : Nat) : Int) else some false := fun k => by
      simp only [spec_l2Name.l0]
      rw [if_pos (by omega), if_pos (by omega), hw, name_step]
    have hdrop : (bytesOf s).drop i = bt s i :: (bytesOf s).drop (i + 1) := by
      rw [List.drop_eq_getElem_cons (by rw [bytesOf_length]; exact hlt)]
      congr 1
      have := rd_bytesOf s (i : Int)
      rw [← this]
      simp [rd, rdOf, List.getD, bytesOf_length, hlt]
    rw [hdrop, List.all_cons]
    by_cases hn : nameB (bt s i) = true
    · rw [hn, Bool.true_and]
      exact Ev.step (fun k => by rw [e k, if_pos hn]) (ih (i + 1) (by omega))
    · have hn' : nameB (bt s i) = false := by simpa using hn
      rw [hn', Bool.false_and, Bool.false_and]
      exact Ev.step (f := fun _ => some false) (fun k => by rw [e k, if_neg hn]) (Ev.now _)
theorem inB_nat (lo hi : Nat) (n : Nat) : inB lo hi n = (decide (lo ≤ n) && decide (n ≤ hi)) := by
  unfold inB; simp
theorem nameOk_eq (s : ByteArray) : ((bytesOf s).all nameB && nameEnd s) = nameOkB s := by
  unfold nameOkB partB nameEnd
  rw [show inB 1 8 (s.size : Int) = (decide (1 ≤ s.size) && decide (s.size ≤ 8)) from inB_nat 1 8 s.size]
  have : (bytesOf s).all nameB = !(bytesOf s).any (fun b => !nameB b) := by
    rw [List.all_eq_not_any_not]
  rw [this]
  cases (bytesOf s).any (fun b => !nameB b) <;> cases decide (1 ≤ s.size) <;> cases decide (s.size ≤ 8) <;> simp
theorem l2Name_ev (s : ByteArray) (hs : s.size < 4294967281) : Ev (fun k => spec_l2Name.f k s) (nameOkB s) := by
  rw [← nameOk_eq]
  have h := l2Name_loop s hs s.size 0 (by omega)
  rw [List.drop_zero] at h
  exact h
theorem rdS (xs : List ByteArray) (i : Nat) (h : i < xs.length) : rdOf ByteArray.empty xs (i : Int) = xs[i] := by
  simp [rdOf, List.getD, h]
theorem l2Parts_loop (l : List ByteArray) (hl : l.length ≤ 4294967282) (d : Nat) : ∀ (i : Nat) (out : List ByteArray), i + d = l.length → out.length ≤ i →
    Ev (fun k => spec_l2Parts.l0 k out l (l.length : Int) (i : Int)) (out ++ (l.drop i).filter fun p => !nilB p) := by
  induction d with
  | zero =>
    intro i out hi ho
    refine Ev.step (f := fun _ => some out) (fun k => ?_) ?_
    · simp only [spec_l2Parts.l0]; rw [if_neg (by omega)]
    · rw [List.drop_of_length_le (by omega)]; simpa using Ev.now out
  | succ d ih =>
    intro i out hi ho
    have hlt : i < l.length := by omega
    have hw := step_n (i := i) (n := l.length) hlt (by omega)
    rw [List.drop_eq_getElem_cons hlt, List.filter_cons]
    by_cases hc : l[i].toList = []
    · have hn : nilB l[i] = true := by rw [← nilB_eq]; simpa using hc
      rw [hn, Bool.not_true, if_neg (by simp)]
      refine Ev.step (f := fun k => spec_l2Parts.l0 k out l (l.length : Int) ((i + 1 : Nat) : Int)) (fun k => ?_) (ih (i + 1) out (by omega) (by omega))
      simp only [spec_l2Parts.l0]
      rw [if_pos (by omega), if_pos (by omega), if_pos (by omega), rdS _ _ hlt, if_pos hc, hw]
    · have hn : nilB l[i] = false := by rw [← nilB_eq]; simpa using hc
      rw [hn, Bool.not_false, if_pos rfl]
      have h2 := ih (i + 1) (out ++ [l[i]]) (by omega) (by simp; omega)
      refine Ev.step (f := fun k => spec_l2Parts.l0 k (out ++ [l[i]]) l (l.length : Int) ((i + 1 : Nat) : Int)) (fun k => ?_) (by simpa using h2)
      simp only [spec_l2Parts.l0]
      rw [if_pos (by omega), if_pos (by omega), if_pos (by omega), rdS _ _ hlt, if_neg hc, if_pos (by omega), hw]
theorem slash_len (s : ByteArray) (hs : s.size < 4294967281) : (slashL s).length ≤ 4294967282 := by
  unfold slashL
  rw [← show segs s 47 s.size 0 0 = _ from segs_split s 47]
  have := segs_len s 47 s.size 0 0
  omega
theorem l2Parts_ev (s : ByteArray) (hs : s.size < 4294967281) : Ev (fun k => spec_l2Parts.f k s) (partsL s) := by
  refine Ev.bind (slash_ev s hs) ?_
  have := l2Parts_loop (slashL s) (slash_len s hs) (slashL s).length 0 [] (by omega) (by simp)
  simpa [partsL] using this
theorem parts_mem_size (s : ByteArray) : ∀ p ∈ partsL s, p.size ≤ s.size := by
  intro p hp
  have hm : p ∈ slashL s := (List.mem_filter.mp hp).1
  unfold slashL at hm
  rw [← show segs s 47 s.size 0 0 = _ from segs_split s 47] at hm
  have key : ∀ d fr i, i ≤ s.size → ∀ p ∈ segs s 47 d fr i, p.size ≤ s.size := by
    intro d
    induction d with
    | zero => intro fr i hi p hp; simp only [segs, List.mem_singleton] at hp; subst hp; simp
    | succ d ih =>
      intro fr i hi p hp
      simp only [segs] at hp
      by_cases hi2 : i < s.size
      · split at hp
        · rcases List.mem_cons.mp hp with rfl | h
          · simp; omega
          · exact ih _ _ (by omega) p h
        · exact ih _ _ (by omega) p hp
      · have hb : bt s i = 0 := by unfold bt; rw [dif_neg (by simpa using hi2)]
        rw [if_neg (by rw [hb]; decide)] at hp
        have : ∀ d fr j, s.size ≤ j → ∀ p ∈ segs s 47 d fr j, p.size ≤ s.size := by
          intro d
          induction d with
          | zero => intro fr j hj p hp; simp only [segs, List.mem_singleton] at hp; subst hp; simp
          | succ d ih =>
            intro fr j hj p hp
            simp only [segs] at hp
            have hb : bt s j = 0 := by unfold bt; rw [dif_neg (by simp; omega)]
            rw [if_neg (by rw [hb]; decide)] at hp
            exact ih _ _ (by omega) p hp
        exact this d fr (i + 1) (by omega) p hp
  exact key _ _ _ (by omega) p hm
/-- A part is a name, or dots. -/
def dotsOr (p : ByteArray) : Bool := nameOkB p || (p.toList == [46] || p.toList == [46, 46])
theorem part_of_dots {p : ByteArray} (h : p.toList = [46] ∨ p.toList = [46, 46]) : partB p = true := by
  have hd : p.data.toList = p.toList := (ByteArray.toList_eq p).symm
  have hsz : p.size = p.toList.length := by rw [← hd, data_length]
  unfold partB bytesOf
  rw [hd]
  rcases h with h | h <;> rw [hsz, h] <;> decide
theorem dotsOr_eq (p : ByteArray) : dotsOr p = partB p := by
  unfold dotsOr nameOkB
  by_cases h1 : p.toList = [46]
  · rw [part_of_dots (.inl h1)]; simp [h1]
  · by_cases h2 : p.toList = [46, 46]
    · rw [part_of_dots (.inr h2)]; simp [h2]
    · have e1 : (p.toList == [46]) = false := by simpa using h1
      have e2 : (p.toList == [46, 46]) = false := by simpa using h2
      rw [e1, e2]
      simp
theorem l2Path_loop (s : ByteArray) (l : List ByteArray) (hl : l.length ≤ 4294967282) (hm : ∀ p ∈ l, p.size < 4294967281) (d : Nat) : ∀ i : Nat, i + d = l.length →
    Ev (fun k => spec_l2Path.l0 k s l (l.length : Int) (i : Int)) ((l.drop i).all partB && inB 1 60 s.size) := by
  induction d with
  | zero =>
    intro i hi
    refine Ev.step (f := fun _ => some (inB 1 60 s.size)) (fun k => ?_) ?_
    · simp only [spec_l2Path.l0]; rw [if_neg (by omega), l1In_f]; rfl
    · rw [List.drop_of_length_le (by omega)]; simpa using Ev.now (inB 1 60 s.size)
  | succ d ih =>
    intro i hi
    have hlt : i < l.length := by omega
    have hw := step_n (i := i) (n := l.length) hlt (by omega)
    rw [List.drop_eq_getElem_cons hlt, List.all_cons, ← dotsOr_eq]
    refine Ev.step (f := fun k => (spec_l2Name.f k l[i]).bind fun t122 => (if t122 = true then (spec_l2Path.l0 k s l (l.length : Int) ((i + 1 : Nat) : Int)) else (if l[i].toList = ([46] : List UInt8) then (spec_l2Path.l0 k s l (l.length : Int) ((i + 1 : Nat) : Int)) else (if l[i].toList = ([46, 46] : List UInt8) then (spec_l2Path.l0 k s l (l.length : Int) ((i + 1 : Nat) : Int)) else (some false))))) (fun k => ?_) ?_
    · simp only [spec_l2Path.l0]
      rw [if_pos (by omega), if_pos (by omega), if_pos (by omega), rdS _ _ hlt, hw]
    · refine Ev.bind (l2Name_ev l[i] (hm _ (List.getElem_mem hlt))) ?_
      unfold dotsOr
      cases nameOkB l[i]
      · by_cases h1 : l[i].toList = [46]
        · simp only [h1, if_true, Bool.false_eq_true, if_false]
          simpa using ih (i + 1) (by omega)
        · by_cases h2 : l[i].toList = [46, 46]
          · simp only [h2, if_true, Bool.false_eq_true, if_false]
            simpa using ih (i + 1) (by omega)
          · simp only [h1, h2, Bool.false_eq_true, if_false]
            have e1 : (l[i].toList == [46]) = false := by simpa using h1
            have e2 : (l[i].toList == [46, 46]) = false := by simpa using h2
            rw [e1, e2]
            exact Ev.now _
      · simp only [if_true, Bool.true_or, Bool.true_and]
        exact ih (i + 1) (by omega)
theorem l2Path_ev (s : ByteArray) (hs : s.size < 4294967281) : Ev (fun k => spec_l2Path.f k s) (goodPathB s) := by
  refine Ev.bind (l2Parts_ev s hs) ?_
  have h := l2Path_loop s (partsL s) (Nat.le_trans (List.length_filter_le _ _) (slash_len s hs)) (fun p hp => by have := parts_mem_size s p hp; omega) (partsL s).length 0 (by omega)
  have e : ((partsL s).all partB && inB 1 60 s.size) = goodPathB s := by
    unfold goodPathB longB nilB
    rw [show inB 1 60 (s.size : Int) = (decide (1 ≤ s.size) && decide (s.size ≤ 60)) from inB_nat 1 60 s.size]
    have : (partsL s).all partB = !(partsL s).any (fun b => !partB b) := by rw [List.all_eq_not_any_not]
    rw [this]
    have h0 : decide (1 ≤ s.size) = !decide (s.size = 0) := by
      by_cases hz : s.size = 0 <;> simp [hz]
      omega
    rw [h0]
    cases (partsL s).any (fun b => !partB b) <;> cases decide (s.size = 0) <;> cases decide (s.size ≤ 60) <;> rfl
  rw [← e]
  simpa using h

end Go.Proofs.YtibfocaldcjiiaaDoor.Q

/- What the laws over lists of texts ask beside the two functions: copies, sizes, equality. -/
namespace Go.Proofs.YtibfocaldcjiiaaDoor.Q
open Go.RowKit Go.Proofs.YtibfocaldcjiiaaDoorW.PrintWords Go.Proofs.YtibfocaldcjiiaaDoorW.PrintLast Go.Proofs.YtibfocaldcjiiaaDoorW.PrintMore
attribute [local go_sem] max2_int min2_int max_two min_two max_three min_three max_four min_four   -- for this text's walks alone
set_option linter.unusedVariables false
set_option linter.unusedSimpArgs false

theorem toStringS_loop (l0 : List ByteArray) (hl : l0.length ≤ 4294967282) (d : Nat) : ∀ (i : Nat) (acc : List ByteArray), i + d = l0.length → acc.length = l0.length →
    Ev (fun k => laws_toStringS.l0 k l0 acc (i : Int)) (acc.take i ++ l0.drop i) := by
  induction d with
  | zero =>
    intro i acc hi ha
    refine Ev.step (f := fun _ => some acc) (fun k => ?_) ?_
    · simp only [laws_toStringS.l0]; rw [if_neg (by omega)]
    · have : acc.take i ++ l0.drop i = acc := by rw [List.drop_of_length_le (by omega), List.take_of_length_le (by omega)]; simp
      rw [this]; exact Ev.now acc
  | succ d ih =>
    intro i acc hi ha
    have hlt : i < l0.length := by omega
    have hw := step_n (i := i) (n := l0.length) hlt (by omega)
    have := ih (i + 1) (acc.set i l0[i]) (by omega) (by simpa using ha)
    refine Ev.step (f := fun k => laws_toStringS.l0 k l0 (acc.set i l0[i]) ((i + 1 : Nat) : Int)) (fun k => ?_) ?_
    · simp only [laws_toStringS.l0]
      rw [if_pos (by omega), if_pos (by omega), if_pos (by omega), hw, rdS _ _ hlt]; rfl
    · have e : (acc.set i l0[i]).take (i + 1) ++ l0.drop (i + 1) = acc.take i ++ l0.drop i := by
        rw [List.drop_eq_getElem_cons hlt, List.take_succ_eq_append_getElem (by simp; omega), List.take_set_of_le (by omega), List.getElem_set_self, List.append_assoc]; rfl
      rw [← e]; exact this
theorem toStringS_ev (l0 : List ByteArray) (hl : l0.length ≤ 4294967282) : Ev (fun k => laws_toStringS.f k l0) l0 := by
  refine Ev.congr (f := fun k => laws_toStringS.l0 k l0 (List.replicate l0.length (⟨#[]⟩ : ByteArray)) ((0 : Nat) : Int)) (fun k => ?_) ?_
  · simp only [laws_toStringS.f]
    rw [if_pos (by omega), if_pos (by omega)]; rfl
  · simpa using toStringS_loop l0 hl l0.length 0 (List.replicate l0.length (⟨#[]⟩ : ByteArray)) (by omega) (by simp)
theorem eqStringS_loop (l : List ByteArray) (hl : l.length ≤ 4294967282) (d : Nat) : ∀ i : Nat, i + d = l.length → Ev (fun k => laws_eqStringS.l0 k l l (i : Int)) true := by
  induction d with
  | zero =>
    intro i hi
    refine Ev.step (f := fun _ => some true) (fun k => ?_) (Ev.now true)
    simp only [laws_eqStringS.l0]; rw [if_neg (by omega)]
  | succ d ih =>
    intro i hi
    have hlt : i < l.length := by omega
    have hw := step_n (i := i) (n := l.length) hlt (by omega)
    refine Ev.step (f := fun k => laws_eqStringS.l0 k l l ((i + 1 : Nat) : Int)) (fun k => ?_) (ih (i + 1) (by omega))
    simp only [laws_eqStringS.l0]
    rw [if_pos (by omega), if_pos (by omega), if_pos (by omega), if_pos trivial, hw]
theorem eqStringS_ev (l : List ByteArray) (hl : l.length ≤ 4294967282) : Ev (fun k => laws_eqStringS.f k l l) true := by
  refine Ev.congr (f := fun k => laws_eqStringS.l0 k l l ((0 : Nat) : Int)) (fun k => ?_) (eqStringS_loop l hl l.length 0 (by omega))
  simp only [laws_eqStringS.f, if_true]; rfl
theorem szStringS_loop (l : List ByteArray) (hl : l.length ≤ 4294967282) (hs : ∀ x ∈ l, x.size ≤ maxLen) (d : Nat) : ∀ (i : Nat) (a : Int), i + d = l.length → 0 ≤ a → a ≤ 1048576 →
    ∃ r, Ev (fun k => laws_szStringS.l0 k l a (i : Int)) r ∧ r ≤ 1048576 ∧ (0 ≤ r → ∀ x ∈ l.drop i, x.size ≤ 1048576) := by
  induction d with
  | zero =>
    intro i a hi h0 h1
    refine ⟨a, Ev.step (f := fun _ => some a) (fun k => ?_) (Ev.now a), h1, fun _ => ?_⟩
    · simp only [laws_szStringS.l0]; rw [if_neg (by omega)]
    · rw [List.drop_of_length_le (by omega)]; simp
  | succ d ih =>
    intro i a hi h0 h1
    have hlt : i < l.length := by omega
    have hw := step_n (i := i) (n := l.length) hlt (by omega)
    have hx := hs l[i] (List.getElem_mem hlt)
    unfold maxLen at hx
    have e : ∀ k, laws_szStringS.l0 (k + 1) l a (i : Int) = if wrap64 (a - (l[i].size : Int)) < 0 then some (-1) else laws_szStringS.l0 k l (wrap64 (a - (l[i].size : Int))) ((i + 1 : Nat) : Int) := fun k => by
      simp only [laws_szStringS.l0]
      rw [if_pos (by omega), if_pos (by omega), rdS _ _ hlt, hw]
    have ew : wrap64 (a - (l[i].size : Int)) = a - (l[i].size : Int) := by unfold wrap64; omega
    rw [ew] at e
    by_cases hc : a - (l[i].size : Int) < 0
    · exact ⟨-1, Ev.step (f := fun _ => some (-1)) (fun k => by rw [e k, if_pos hc]) (Ev.now _), by omega, by omega⟩
    · obtain ⟨q, hq, hq1, hq2⟩ := ih (i + 1) (a - (l[i].size : Int)) (by omega) (by omega) (by omega)
      refine ⟨q, Ev.step (f := fun k => laws_szStringS.l0 k l (a - (l[i].size : Int)) ((i + 1 : Nat) : Int)) (fun k => by rw [e k, if_neg hc]) hq, hq1, fun h => ?_⟩
      rw [List.drop_eq_getElem_cons hlt]
      intro x hx
      rcases List.mem_cons.mp hx with rfl | hx
      · omega
      · exact hq2 h x hx
theorem szStringS_ev (l : List ByteArray) (hl : l.length ≤ maxLen) (hs : ∀ x ∈ l, x.size ≤ maxLen) (a : Int) (h0 : 0 ≤ a) (h1 : a ≤ 1048576) :
    ∃ r, Ev (fun k => laws_szStringS.f k l a) r ∧ r ≤ 1048576 ∧ (0 ≤ r → l.length ≤ 1048576 ∧ ∀ x ∈ l, x.size ≤ 1048576) := by
  have e : wrap64 (a - (l.length : Int)) = a - l.length := by unfold wrap64; unfold maxLen at hl; omega
  by_cases hc : a - (l.length : Int) < 0
  · exact ⟨-1, Ev.congr (f := fun _ => some (-1)) (fun k => by simp only [laws_szStringS.f]; rw [e, if_pos hc]) (Ev.now _), by omega, by omega⟩
  · obtain ⟨r, hr, h, hz⟩ := szStringS_loop l (by omega) hs l.length 0 (a - l.length) (by omega) (by omega) (by omega)
    exact ⟨r, Ev.congr (fun k => by simp only [laws_szStringS.f]; rw [e, if_neg hc]; rfl) hr, h, fun hr => ⟨by omega, by simpa using hz hr⟩⟩

end Go.Proofs.YtibfocaldcjiiaaDoor.Q
