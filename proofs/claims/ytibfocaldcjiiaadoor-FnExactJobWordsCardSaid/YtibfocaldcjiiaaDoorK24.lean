/- Texts of this claim, merged by a program (wip/tools/merge.py): Q136. -/
import Derived.Test.YtibfocaldcjiiaaDoorK1
import Derived.Test.YtibfocaldcjiiaaDoorK4
import Derived.Test.YtibfocaldcjiiaaDoorK5
import Derived.Test.YtibfocaldcjiiaaDoorK23
namespace Go.Proofs.YtibfocaldcjiiaaDoor.Q
open Go.RowKit Go.Proofs.YtibfocaldcjiiaaDoorW.PrintWords Go.Proofs.YtibfocaldcjiiaaDoorW.PrintLast Go.Proofs.YtibfocaldcjiiaaDoorW.PrintMore
attribute [local go_sem] max2_int min2_int max_two min_two max_three min_three max_four min_four   -- for this text's walks alone
set_option linter.unusedVariables false
set_option linter.unusedSimpArgs false
mutual
def laws_FnExactJobWords.j0 : Nat → List ByteArray → Bool → List ByteArray → Bool → Bool → Int → ByteArray → ByteArray → Int → Int → List ByteArray → Int → ByteArray → ByteArray → Int → Int → List ByteArray → Option (Bool)
  | 0, _, _, _, _, _, _, _, _, _, _, _, _, _, _, _, _, _ => none
  | k + 1, x4, x5, x7, x8, x40, x552000, x552001, x552002, x552003, x552004, x552005, x574000, x574001, x574002, x574003, x574004, x574005 => if x40 = true then (some false) else ((laws_toJob.f k x552000 x552001 x552002 x552003 x552004 x552005).bind fun bt579 => ((laws_eqJob.f k x574000 x574001 x574002 x574003 x574004 x574005 bt579.1 bt579.2.1 bt579.2.2.1 bt579.2.2.2.1 bt579.2.2.2.2.1 bt579.2.2.2.2.2).bind fun t587 => (if t587 = true then ((laws_markJob.f k x574000 x574001 x574002 x574003 x574004 x574005 1).bind fun bt588 => (if bt588.1 < 0 then (laws_FnExactJobWords.j1 k x4 x5 x7 true x552000 x552001 x552002 x552003 x552004 x552005) else ((laws_eqStringS.f k x7 x4).bind fun t590 => (if t590 = true then (laws_FnExactJobWords.j1 k x4 x5 x7 (x8 != x5) x552000 x552001 x552002 x552003 x552004 x552005) else (laws_FnExactJobWords.j1 k x4 x5 x7 true x552000 x552001 x552002 x552003 x552004 x552005))))) else (some false))))
def laws_FnExactJobWords.j1 : Nat → List ByteArray → Bool → List ByteArray → Bool → Int → ByteArray → ByteArray → Int → Int → List ByteArray → Option (Bool)
  | 0, _, _, _, _, _, _, _, _, _, _ => none
  | k + 1, x4, x5, x7, x61, x552000, x552001, x552002, x552003, x552004, x552005 => if x61 = true then (some false) else ((laws_markStringS.f k x7 1).bind fun bt591 => ((laws_heldStringS.f k bt591.2 1).bind fun t593 => (if t593 < 0 then (some false) else (if t593 = bt591.1 then ((laws_toJob.f k x552000 x552001 x552002 x552003 x552004 x552005).bind fun bt594 => ((impl_JobWords.f k bt594.1 bt594.2.1 bt594.2.2.1 bt594.2.2.2.1 bt594.2.2.2.2.1 bt594.2.2.2.2.2).bind fun bt602 => ((laws_eqStringS.f k bt602.1 x4).bind fun t606 => (if t606 = true then (laws_FnExactJobWords.j2 k bt591.2 bt591.1 (bt602.2 != x5)) else (laws_FnExactJobWords.j2 k bt591.2 bt591.1 true))))) else (some false)))))
def laws_FnExactJobWords.j2 : Nat → List ByteArray → Int → Bool → Option (Bool)
  | 0, _, _, _ => none
  | k + 1, x7, x10, x87 => if x87 = true then (some false) else ((laws_heldStringS.f k x7 1).bind fun t607 => (if t607 < 0 then (some false) else (if t607 = x10 then (some true) else (some false))))
end
def laws_FnExactJobWords.f (k : Nat) (a0_0 : Int) (a0_1 : ByteArray) (a0_2 : ByteArray) (a0_3 : Int) (a0_4 : Int) (l0_5 : List ByteArray) : Option (Bool) := (laws_szJob.f k a0_0 a0_1 a0_2 a0_3 a0_4 l0_5 1048576).bind fun t552 => (if t552 < 0 then (some true) else ((laws_toJob.f k a0_0 a0_1 a0_2 a0_3 a0_4 l0_5).bind fun bt553 => ((spec_JobWords.f k bt553.1 bt553.2.1 bt553.2.2.1 bt553.2.2.2.1 bt553.2.2.2.2.1 bt553.2.2.2.2.2).bind fun bt561 => ((laws_toJob.f k a0_0 a0_1 a0_2 a0_3 a0_4 l0_5).bind fun bt565 => ((impl_JobWords.f k bt565.1 bt565.2.1 bt565.2.2.1 bt565.2.2.2.1 bt565.2.2.2.2.1 bt565.2.2.2.2.2).bind fun bt574 => ((laws_eqStringS.f k bt574.1 bt561.1).bind fun t578 => (if t578 = true then (laws_FnExactJobWords.j0 k bt561.1 bt561.2 bt574.1 bt574.2 (bt574.2 != bt561.2) a0_0 a0_1 a0_2 a0_3 a0_4 l0_5 bt565.1 bt565.2.1 bt565.2.2.1 bt565.2.2.2.1 bt565.2.2.2.2.1 bt565.2.2.2.2.2) else (laws_FnExactJobWords.j0 k bt561.1 bt561.2 bt574.1 bt574.2 true a0_0 a0_1 a0_2 a0_3 a0_4 l0_5 bt565.1 bt565.2.1 bt565.2.2.1 bt565.2.2.2.1 bt565.2.2.2.2.1 bt565.2.2.2.2.2))))))))
set_option maxHeartbeats 8000000 in
set_option maxRecDepth 100000 in
theorem laws_FnExactJobWords.calls (k : Nat) (a0_0 : Int) (a0_1 : ByteArray) (a0_2 : ByteArray) (a0_3 : Int) (a0_4 : Int) (A0_5 : Option Addr) (c0_5 : Nat) (l0_5 : List ByteArray) (r : Bool) (w : World) (hr0_5 : Kd.C Kd.string w A0_5 l0_5.length l0_5) (hc0_5 : l0_5.length ≤ c0_5) (h : laws_FnExactJobWords.f k a0_0 a0_1 a0_2 a0_3 a0_4 l0_5 = some r) :
    Calls Tryd.prog 7 #[.agg #[.int .i64 a0_0, .string a0_1, .string a0_2, .int .i64 a0_3, .int .i64 a0_4, .slice A0_5 l0_5.length c0_5]] w fun e w' => e = .returned (.bool r) ∧ Below w.heap.size w w' := by
  have hu35 := Tryd.underlying35
  have hu38 := Tryd.underlying38
  have HR0_5 := Aside0.mk hr0_5
  have HC0_5 := Aside0.mk hc0_5
  clear hr0_5 hc0_5
  have HB := Aside0.mk (Below.refl w.heap.size w)
  have H : ((laws_szJob.f k a0_0 a0_1 a0_2 a0_3 a0_4 l0_5 1048576).bind fun t552 => (if t552 < 0 then (some true) else ((laws_toJob.f k a0_0 a0_1 a0_2 a0_3 a0_4 l0_5).bind fun bt553 => ((spec_JobWords.f k bt553.1 bt553.2.1 bt553.2.2.1 bt553.2.2.2.1 bt553.2.2.2.2.1 bt553.2.2.2.2.2).bind fun bt561 => ((laws_toJob.f k a0_0 a0_1 a0_2 a0_3 a0_4 l0_5).bind fun bt565 => ((impl_JobWords.f k bt565.1 bt565.2.1 bt565.2.2.1 bt565.2.2.2.1 bt565.2.2.2.2.1 bt565.2.2.2.2.2).bind fun bt574 => ((laws_eqStringS.f k bt574.1 bt561.1).bind fun t578 => (if t578 = true then (laws_FnExactJobWords.j0 k bt561.1 bt561.2 bt574.1 bt574.2 (bt574.2 != bt561.2) a0_0 a0_1 a0_2 a0_3 a0_4 l0_5 bt565.1 bt565.2.1 bt565.2.2.1 bt565.2.2.2.1 bt565.2.2.2.2.1 bt565.2.2.2.2.2) else (laws_FnExactJobWords.j0 k bt561.1 bt561.2 bt574.1 bt574.2 true a0_0 a0_1 a0_2 a0_3 a0_4 l0_5 bt565.1 bt565.2.1 bt565.2.2.1 bt565.2.2.2.1 bt565.2.2.2.2.1 bt565.2.2.2.2.2))))))))) = some r := h
  clear h
  replace H := Option.bind_eq_some_iff.mp H
  obtain ⟨t552, A20, H⟩ := H
  replace H : (if t552 < 0 then (some true) else ((laws_toJob.f k a0_0 a0_1 a0_2 a0_3 a0_4 l0_5).bind fun bt553 => ((spec_JobWords.f k bt553.1 bt553.2.1 bt553.2.2.1 bt553.2.2.2.1 bt553.2.2.2.2.1 bt553.2.2.2.2.2).bind fun bt561 => ((laws_toJob.f k a0_0 a0_1 a0_2 a0_3 a0_4 l0_5).bind fun bt565 => ((impl_JobWords.f k bt565.1 bt565.2.1 bt565.2.2.1 bt565.2.2.2.1 bt565.2.2.2.2.1 bt565.2.2.2.2.2).bind fun bt574 => ((laws_eqStringS.f k bt574.1 bt561.1).bind fun t578 => (if t578 = true then (laws_FnExactJobWords.j0 k bt561.1 bt561.2 bt574.1 bt574.2 (bt574.2 != bt561.2) a0_0 a0_1 a0_2 a0_3 a0_4 l0_5 bt565.1 bt565.2.1 bt565.2.2.1 bt565.2.2.2.1 bt565.2.2.2.2.1 bt565.2.2.2.2.2) else (laws_FnExactJobWords.j0 k bt561.1 bt561.2 bt574.1 bt574.2 true a0_0 a0_1 a0_2 a0_3 a0_4 l0_5 bt565.1 bt565.2.1 bt565.2.2.1 bt565.2.2.2.1 bt565.2.2.2.2.1 bt565.2.2.2.2.2)))))))) = some r := H
  have A2 := Aside0.mk A20
  clear A20
  by_cases c3 : t552 < 0
  · rw [if_pos c3] at H
    have c3b0 : decide (t552 < 0) = true := decide_eq_true c3
    clear c3
    obtain rfl := Option.some.inj H
    go_enter Tryd.func7, Tryd.ntmps7
    go_wp2_with (first | ((with_reducible refine gate_dst (N := 1) rfl ?_); refine box_event ?hg (N := 1) ?hd (cs := #[.int .i64 a0_0, .string a0_1, .string a0_2, .int .i64 a0_3, .int .i64 a0_4, .slice A0_5 l0_5.length c0_5]) (t := 35) ?hr ?_; (case hd => rfl); (case hg => rfl); (case hr => first | (go_simp; done) | (go_simp; rfl)); intro gb551 hg w4 hbox hb; have n0_ := Aside0.mk (below_step (by repeat (first | (with_reducible first | exact HB.out | apply below_alloc | apply pw_below_drewN | apply below_drew1) | exact HB.out)) hb); have n1_ := Aside0.mk (hbox); have n2_ := Aside0.mk ((by rw [hg]; exact (below_size (by repeat (first | (with_reducible first | exact HB.out | apply below_alloc | apply pw_below_drewN | apply below_drew1) | exact HB.out))) : w.heap.size ≤ gb551)); have n3_ := Aside0.mk ((by rw [hg]; exact (below_size (by repeat (first | (with_reducible first | exact HB.out | apply below_alloc | apply pw_below_drewN | apply below_drew1) | exact HB.out))) : w.heap.size ≤ gb551)); clear HB; have HB := n0_; have BK551 := n1_; have GW551 := n2_; have GE551 := n3_; clear n0_ n1_ n2_ n3_; clear hb hbox hg; have hcz5_0 : w4.cell? ⟨gb551, 0, none⟩ = some (.int .i64 a0_0) := (blk_cell BK551.out 0).trans rfl; have hcz5_1 : w4.cell? ⟨gb551, 1, none⟩ = some (.string a0_1) := (blk_cell BK551.out 1).trans rfl; have hcz5_2 : w4.cell? ⟨gb551, 2, none⟩ = some (.string a0_2) := (blk_cell BK551.out 2).trans rfl; have hcz5_3 : w4.cell? ⟨gb551, 3, none⟩ = some (.int .i64 a0_3) := (blk_cell BK551.out 3).trans rfl; have hcz5_4 : w4.cell? ⟨gb551, 4, none⟩ = some (.int .i64 a0_4) := (blk_cell BK551.out 4).trans rfl; have hcz5_5 : w4.cell? ⟨gb551, 5, none⟩ = some (.slice A0_5 l0_5.length c0_5) := (blk_cell BK551.out 5).trans rfl; have hfz5_0 := blk_frozen BK551.out 0; have hfz5_1 := blk_frozen BK551.out 1; have hfz5_2 := blk_frozen BK551.out 2; have hfz5_3 := blk_frozen BK551.out 3; have hfz5_4 := blk_frozen BK551.out 4; have hfz5_5 := blk_frozen BK551.out 5) | ((with_reducible refine gate_callee (f := 17) rfl ?_); refine goesL_ (some 16) rfl rfl Tryd.func17 (by kernel_rfl) rfl #[.agg #[.int .i64 a0_0, .string a0_1, .string a0_2, .int .i64 a0_3, .int .i64 a0_4, .slice A0_5 l0_5.length c0_5], .int .i64 1048576] rfl (by (try simp only [List.map_toArray, List.map_cons, List.map_nil]); first | done | rfl | (simp only [List.length_drop, List.length_take]; rfl)) ?_; (with_reducible refine (laws_szJob.calls k a0_0 a0_1 a0_2 a0_3 a0_4 _ _ l0_5 1048576 t552 _ ?side1 ?side2 A2.out).mono ?_); (case side1 => repeat (first | exact (Kd.C_below HR0_5.out HB.out) | (with_reducible refine Kd.C_alloc ?_ _) | (with_reducible refine Kd.C_drewN ?_ _) | (with_reducible refine Kd.C_drew ?_))); (case side2 => exact HC0_5.out); rintro e w6 ⟨rfl, hb⟩; refine ⟨_, rfl, ?_⟩; have n0_ := Aside0.mk (blk_below (g := gb551) (o := .cells #[.int .i64 a0_0, .string a0_1, .string a0_2, .int .i64 a0_3, .int .i64 a0_4, .slice A0_5 l0_5.length c0_5] 35 (0, 0)) (by (with_reducible repeat (first | refine blk_drewN ?_ _ | refine blk_drew ?_ | refine blk_alloc ?_ _)); exact BK551.out) hb); have n1_ := Aside0.mk (below_step (by repeat (first | (with_reducible first | exact HB.out | apply below_alloc | apply pw_below_drewN | apply below_drew1 | refine below_set ?_ GE551.out) | exact HB.out)) hb); clear BK551; clear HB; have BK551 := n0_; have HB := n1_; clear n0_ n1_; (try clear hb); (try clear hb2); (try clear hk); (try clear hi)))
    go_ret
    exact ⟨by first | rfl | (simp [errW_none, errW_some] <;> rfl) | (simp [*, errW_none, errW_some] <;> rfl), by repeat (first | (with_reducible first | exact HB.out | apply below_alloc | apply pw_below_drewN | apply below_drew1 | refine below_set ?_ GE551.out) | exact HB.out)⟩
  · rw [if_neg c3] at H
    have c3b0 : decide (t552 < 0) = false := decide_eq_false c3
    clear c3
    replace H := Option.bind_eq_some_iff.mp H
    obtain ⟨⟨t553, t554, t555, t556, t557, t558⟩, A70, H⟩ := H
    replace H : ((spec_JobWords.f k t553 t554 t555 t556 t557 t558).bind fun bt561 => ((laws_toJob.f k a0_0 a0_1 a0_2 a0_3 a0_4 l0_5).bind fun bt565 => ((impl_JobWords.f k bt565.1 bt565.2.1 bt565.2.2.1 bt565.2.2.2.1 bt565.2.2.2.2.1 bt565.2.2.2.2.2).bind fun bt574 => ((laws_eqStringS.f k bt574.1 bt561.1).bind fun t578 => (if t578 = true then (laws_FnExactJobWords.j0 k bt561.1 bt561.2 bt574.1 bt574.2 (bt574.2 != bt561.2) a0_0 a0_1 a0_2 a0_3 a0_4 l0_5 bt565.1 bt565.2.1 bt565.2.2.1 bt565.2.2.2.1 bt565.2.2.2.2.1 bt565.2.2.2.2.2) else (laws_FnExactJobWords.j0 k bt561.1 bt561.2 bt574.1 bt574.2 true a0_0 a0_1 a0_2 a0_3 a0_4 l0_5 bt565.1 bt565.2.1 bt565.2.2.1 bt565.2.2.2.1 bt565.2.2.2.2.1 bt565.2.2.2.2.2)))))) = some r := H
    have A7 := Aside0.mk A70
    clear A70
    replace H := Option.bind_eq_some_iff.mp H
    obtain ⟨⟨t561, t564⟩, A80, H⟩ := H
    replace H : ((laws_toJob.f k a0_0 a0_1 a0_2 a0_3 a0_4 l0_5).bind fun bt565 => ((impl_JobWords.f k bt565.1 bt565.2.1 bt565.2.2.1 bt565.2.2.2.1 bt565.2.2.2.2.1 bt565.2.2.2.2.2).bind fun bt574 => ((laws_eqStringS.f k bt574.1 t561).bind fun t578 => (if t578 = true then (laws_FnExactJobWords.j0 k t561 t564 bt574.1 bt574.2 (bt574.2 != t564) a0_0 a0_1 a0_2 a0_3 a0_4 l0_5 bt565.1 bt565.2.1 bt565.2.2.1 bt565.2.2.2.1 bt565.2.2.2.2.1 bt565.2.2.2.2.2) else (laws_FnExactJobWords.j0 k t561 t564 bt574.1 bt574.2 true a0_0 a0_1 a0_2 a0_3 a0_4 l0_5 bt565.1 bt565.2.1 bt565.2.2.1 bt565.2.2.2.1 bt565.2.2.2.2.1 bt565.2.2.2.2.2))))) = some r := H
    have A8 := Aside0.mk A80
    clear A80
    replace H := Option.bind_eq_some_iff.mp H
    obtain ⟨⟨t565, t566, t567, t568, t569, t570⟩, A90, H⟩ := H
    replace H : ((impl_JobWords.f k t565 t566 t567 t568 t569 t570).bind fun bt574 => ((laws_eqStringS.f k bt574.1 t561).bind fun t578 => (if t578 = true then (laws_FnExactJobWords.j0 k t561 t564 bt574.1 bt574.2 (bt574.2 != t564) a0_0 a0_1 a0_2 a0_3 a0_4 l0_5 t565 t566 t567 t568 t569 t570) else (laws_FnExactJobWords.j0 k t561 t564 bt574.1 bt574.2 true a0_0 a0_1 a0_2 a0_3 a0_4 l0_5 t565 t566 t567 t568 t569 t570)))) = some r := H
    have A9 := Aside0.mk A90
    clear A90
    replace H := Option.bind_eq_some_iff.mp H
    obtain ⟨⟨t574, t577⟩, A100, H⟩ := H
    replace H : ((laws_eqStringS.f k t574 t561).bind fun t578 => (if t578 = true then (laws_FnExactJobWords.j0 k t561 t564 t574 t577 (t577 != t564) a0_0 a0_1 a0_2 a0_3 a0_4 l0_5 t565 t566 t567 t568 t569 t570) else (laws_FnExactJobWords.j0 k t561 t564 t574 t577 true a0_0 a0_1 a0_2 a0_3 a0_4 l0_5 t565 t566 t567 t568 t569 t570))) = some r := H
    have A10 := Aside0.mk A100
    clear A100
    have HC11 := Aside0.mk H
    clear H
    go_enter Tryd.func7, Tryd.ntmps7
    go_upto_region 8 with (first | ((with_reducible refine gate_dst (N := 1) rfl ?_); refine box_event ?hg (N := 1) ?hd (cs := #[.int .i64 a0_0, .string a0_1, .string a0_2, .int .i64 a0_3, .int .i64 a0_4, .slice A0_5 l0_5.length c0_5]) (t := 35) ?hr ?_; (case hd => rfl); (case hg => rfl); (case hr => first | (go_simp; done) | (go_simp; rfl)); intro gb551 hg w12 hbox hb; have n0_ := Aside0.mk (below_step (by repeat (first | (with_reducible first | exact HB.out | apply below_alloc | apply pw_below_drewN | apply below_drew1) | exact HB.out)) hb); have n1_ := Aside0.mk (hbox); have n2_ := Aside0.mk ((by rw [hg]; exact (below_size (by repeat (first | (with_reducible first | exact HB.out | apply below_alloc | apply pw_below_drewN | apply below_drew1) | exact HB.out))) : w.heap.size ≤ gb551)); have n3_ := Aside0.mk ((by rw [hg]; exact (below_size (by repeat (first | (with_reducible first | exact HB.out | apply below_alloc | apply pw_below_drewN | apply below_drew1) | exact HB.out))) : w.heap.size ≤ gb551)); clear HB; have HB := n0_; have BK551 := n1_; have GW551 := n2_; have GE551 := n3_; clear n0_ n1_ n2_ n3_; clear hb hbox hg; have hcz13_0 : w12.cell? ⟨gb551, 0, none⟩ = some (.int .i64 a0_0) := (blk_cell BK551.out 0).trans rfl; have hcz13_1 : w12.cell? ⟨gb551, 1, none⟩ = some (.string a0_1) := (blk_cell BK551.out 1).trans rfl; have hcz13_2 : w12.cell? ⟨gb551, 2, none⟩ = some (.string a0_2) := (blk_cell BK551.out 2).trans rfl; have hcz13_3 : w12.cell? ⟨gb551, 3, none⟩ = some (.int .i64 a0_3) := (blk_cell BK551.out 3).trans rfl; have hcz13_4 : w12.cell? ⟨gb551, 4, none⟩ = some (.int .i64 a0_4) := (blk_cell BK551.out 4).trans rfl; have hcz13_5 : w12.cell? ⟨gb551, 5, none⟩ = some (.slice A0_5 l0_5.length c0_5) := (blk_cell BK551.out 5).trans rfl; have hfz13_0 := blk_frozen BK551.out 0; have hfz13_1 := blk_frozen BK551.out 1; have hfz13_2 := blk_frozen BK551.out 2; have hfz13_3 := blk_frozen BK551.out 3; have hfz13_4 := blk_frozen BK551.out 4; have hfz13_5 := blk_frozen BK551.out 5) | ((with_reducible refine gate_callee (f := 17) rfl ?_); refine goesL_ (some 16) rfl rfl Tryd.func17 (by kernel_rfl) rfl #[.agg #[.int .i64 a0_0, .string a0_1, .string a0_2, .int .i64 a0_3, .int .i64 a0_4, .slice A0_5 l0_5.length c0_5], .int .i64 1048576] rfl (by (try simp only [List.map_toArray, List.map_cons, List.map_nil]); first | done | rfl | (simp only [List.length_drop, List.length_take]; rfl)) ?_; (with_reducible refine (laws_szJob.calls k a0_0 a0_1 a0_2 a0_3 a0_4 _ _ l0_5 1048576 t552 _ ?side1 ?side2 A2.out).mono ?_); (case side1 => repeat (first | exact (Kd.C_below HR0_5.out HB.out) | (with_reducible refine Kd.C_alloc ?_ _) | (with_reducible refine Kd.C_drewN ?_ _) | (with_reducible refine Kd.C_drew ?_))); (case side2 => exact HC0_5.out); rintro e w14 ⟨rfl, hb⟩; refine ⟨_, rfl, ?_⟩; have n0_ := Aside0.mk (blk_below (g := gb551) (o := .cells #[.int .i64 a0_0, .string a0_1, .string a0_2, .int .i64 a0_3, .int .i64 a0_4, .slice A0_5 l0_5.length c0_5] 35 (0, 0)) (by (with_reducible repeat (first | refine blk_drewN ?_ _ | refine blk_drew ?_ | refine blk_alloc ?_ _)); exact BK551.out) hb); have n1_ := Aside0.mk (below_step (by repeat (first | (with_reducible first | exact HB.out | apply below_alloc | apply pw_below_drewN | apply below_drew1 | refine below_set ?_ GE551.out) | exact HB.out)) hb); clear BK551; clear HB; have BK551 := n0_; have HB := n1_; clear n0_ n1_; (try clear hb); (try clear hb2); (try clear hk); (try clear hi); have hcz15_0 : w14.cell? ⟨gb551, 0, none⟩ = some (.int .i64 a0_0) := (blk_cell BK551.out 0).trans rfl; have hcz15_1 : w14.cell? ⟨gb551, 1, none⟩ = some (.string a0_1) := (blk_cell BK551.out 1).trans rfl; have hcz15_2 : w14.cell? ⟨gb551, 2, none⟩ = some (.string a0_2) := (blk_cell BK551.out 2).trans rfl; have hcz15_3 : w14.cell? ⟨gb551, 3, none⟩ = some (.int .i64 a0_3) := (blk_cell BK551.out 3).trans rfl; have hcz15_4 : w14.cell? ⟨gb551, 4, none⟩ = some (.int .i64 a0_4) := (blk_cell BK551.out 4).trans rfl; have hcz15_5 : w14.cell? ⟨gb551, 5, none⟩ = some (.slice A0_5 l0_5.length c0_5) := (blk_cell BK551.out 5).trans rfl; have hfz15_0 := blk_frozen BK551.out 0; have hfz15_1 := blk_frozen BK551.out 1; have hfz15_2 := blk_frozen BK551.out 2; have hfz15_3 := blk_frozen BK551.out 3; have hfz15_4 := blk_frozen BK551.out 4; have hfz15_5 := blk_frozen BK551.out 5) | ((with_reducible refine gate_callee (f := 19) rfl ?_); refine goesL_ (some 21) rfl rfl Tryd.func19 (by kernel_rfl) rfl #[.agg #[.int .i64 a0_0, .string a0_1, .string a0_2, .int .i64 a0_3, .int .i64 a0_4, .slice A0_5 l0_5.length c0_5]] rfl (by (try simp only [List.map_toArray, List.map_cons, List.map_nil]); first | done | rfl | (simp only [List.length_drop, List.length_take]; rfl)) ?_; (with_reducible refine (laws_toJob.calls k a0_0 a0_1 a0_2 a0_3 a0_4 _ _ l0_5 t553 t554 t555 t556 t557 t558 _ ?side1 ?side2 A7.out).mono ?_); (case side1 => repeat (first | exact (Kd.C_below HR0_5.out HB.out) | (with_reducible refine Kd.C_alloc ?_ _) | (with_reducible refine Kd.C_drewN ?_ _) | (with_reducible refine Kd.C_drew ?_))); (case side2 => exact HC0_5.out); rintro e w16 ⟨v559, rfl, ho0, hb⟩; refine ⟨_, rfl, ?_⟩; have n0_ := Aside0.mk (Kd.R_lower ho0 (below_size (by repeat (first | (with_reducible first | exact HB.out | apply below_alloc | apply pw_below_drewN | apply below_drew1 | refine below_set ?_ GE551.out) | exact HB.out)))); have n1_ := Aside0.mk (blk_below (g := gb551) (o := .cells #[.int .i64 a0_0, .string a0_1, .string a0_2, .int .i64 a0_3, .int .i64 a0_4, .slice A0_5 l0_5.length c0_5] 35 (0, 0)) (by (with_reducible repeat (first | refine blk_drewN ?_ _ | refine blk_drew ?_ | refine blk_alloc ?_ _)); exact BK551.out) hb); have n2_ := Aside0.mk (below_step (by repeat (first | (with_reducible first | exact HB.out | apply below_alloc | apply pw_below_drewN | apply below_drew1 | refine below_set ?_ GE551.out) | exact HB.out)) hb); clear BK551; clear HB; have HO560 := n0_; have BK551 := n1_; have HB := n2_; clear n0_ n1_ n2_; (try clear hb); (try clear hb2); (try clear hk); (try clear hi); (try clear ho0); obtain ⟨Ao17, co17, eo17⟩ := Kd.R_slice HO560.out; subst eo17) | ((with_reducible refine gate_callee (f := 22) rfl ?_); refine goesL_ (some 22) rfl rfl Tryd.func22 (by kernel_rfl) rfl #[.agg #[.int .i64 t553, .string t554, .string t555, .int .i64 t556, .int .i64 t557, .slice Ao17 t558.length co17]] rfl (by (try simp only [List.map_toArray, List.map_cons, List.map_nil]); first | done | rfl | (simp only [List.length_drop, List.length_take]; rfl)) ?_; (with_reducible refine (spec_JobWords.calls k t553 t554 t555 t556 t557 _ _ t558 t561 t564 _ ?side1 ?side2 A8.out).mono ?_); (case side1 => repeat (first | exact (Kd.R_reads' HO560.out).2.2 | (with_reducible refine Kd.C_alloc ?_ _) | (with_reducible refine Kd.C_drewN ?_ _) | (with_reducible refine Kd.C_drew ?_))); (case side2 => exact (Kd.R_reads' HO560.out).2.1); rintro e w18 ⟨v562, rfl, ho0, hb⟩; refine ⟨_, rfl, ?_⟩; have n0_ := Aside0.mk (Kd.R_elder' (by (with_reducible repeat (first | apply Kd.R_alloc | apply Kd.R_drewN | apply Kd.R_drew)); exact HO560.out) (Kd.R_base ho0) hb); have n1_ := Aside0.mk (Kd.R_lower (Kd.R_new' ho0 (Kd.R_lt (by (with_reducible repeat (first | apply Kd.R_alloc | apply Kd.R_drewN | apply Kd.R_drew)); exact HO560.out))) (below_size (by repeat (first | (with_reducible first | exact HB.out | apply below_alloc | apply pw_below_drewN | apply below_drew1 | refine below_set ?_ GE551.out) | exact HB.out)))); have n2_ := Aside0.mk (blk_below (g := gb551) (o := .cells #[.int .i64 a0_0, .string a0_1, .string a0_2, .int .i64 a0_3, .int .i64 a0_4, .slice A0_5 l0_5.length c0_5] 35 (0, 0)) (by (with_reducible repeat (first | refine blk_drewN ?_ _ | refine blk_drew ?_ | refine blk_alloc ?_ _)); exact BK551.out) hb); have n3_ := Aside0.mk (below_step (by repeat (first | (with_reducible first | exact HB.out | apply below_alloc | apply pw_below_drewN | apply below_drew1 | refine below_set ?_ GE551.out) | exact HB.out)) hb); clear HO560; clear BK551; clear HB; have HO560 := n0_; have HO563 := n1_; have BK551 := n2_; have HB := n3_; clear n0_ n1_ n2_ n3_; (try clear hb); (try clear hb2); (try clear hk); (try clear hi); (try clear ho0); have hcz19_0 : w18.cell? ⟨gb551, 0, none⟩ = some (.int .i64 a0_0) := (blk_cell BK551.out 0).trans rfl; have hcz19_1 : w18.cell? ⟨gb551, 1, none⟩ = some (.string a0_1) := (blk_cell BK551.out 1).trans rfl; have hcz19_2 : w18.cell? ⟨gb551, 2, none⟩ = some (.string a0_2) := (blk_cell BK551.out 2).trans rfl; have hcz19_3 : w18.cell? ⟨gb551, 3, none⟩ = some (.int .i64 a0_3) := (blk_cell BK551.out 3).trans rfl; have hcz19_4 : w18.cell? ⟨gb551, 4, none⟩ = some (.int .i64 a0_4) := (blk_cell BK551.out 4).trans rfl; have hcz19_5 : w18.cell? ⟨gb551, 5, none⟩ = some (.slice A0_5 l0_5.length c0_5) := (blk_cell BK551.out 5).trans rfl; have hfz19_0 := blk_frozen BK551.out 0; have hfz19_1 := blk_frozen BK551.out 1; have hfz19_2 := blk_frozen BK551.out 2; have hfz19_3 := blk_frozen BK551.out 3; have hfz19_4 := blk_frozen BK551.out 4; have hfz19_5 := blk_frozen BK551.out 5) | ((with_reducible refine gate_callee (f := 19) rfl ?_); refine goesL_ (some 26) rfl rfl Tryd.func19 (by kernel_rfl) rfl #[.agg #[.int .i64 a0_0, .string a0_1, .string a0_2, .int .i64 a0_3, .int .i64 a0_4, .slice A0_5 l0_5.length c0_5]] rfl (by (try simp only [List.map_toArray, List.map_cons, List.map_nil]); first | done | rfl | (simp only [List.length_drop, List.length_take]; rfl)) ?_; (with_reducible refine (laws_toJob.calls k a0_0 a0_1 a0_2 a0_3 a0_4 _ _ l0_5 t565 t566 t567 t568 t569 t570 _ ?side1 ?side2 A9.out).mono ?_); (case side1 => repeat (first | exact (Kd.C_below HR0_5.out HB.out) | (with_reducible refine Kd.C_alloc ?_ _) | (with_reducible refine Kd.C_drewN ?_ _) | (with_reducible refine Kd.C_drew ?_))); (case side2 => exact HC0_5.out); rintro e w20 ⟨v571, rfl, ho0, hb⟩; refine ⟨_, rfl, ?_⟩; have n0_ := Aside0.mk (Kd.R_elder' (by (with_reducible repeat (first | apply Kd.R_alloc | apply Kd.R_drewN | apply Kd.R_drew)); exact HO560.out) (Kd.R_base ho0) hb); have n1_ := Aside0.mk (Kd.R_elder' (by (with_reducible repeat (first | apply Kd.R_alloc | apply Kd.R_drewN | apply Kd.R_drew)); exact HO563.out) (Kd.R_base ho0) hb); have n2_ := Aside0.mk (Kd.R_lower (Kd.R_new' (Kd.R_new' ho0 (Kd.R_lt (by (with_reducible repeat (first | apply Kd.R_alloc | apply Kd.R_drewN | apply Kd.R_drew)); exact HO560.out))) (Kd.R_lt (by (with_reducible repeat (first | apply Kd.R_alloc | apply Kd.R_drewN | apply Kd.R_drew)); exact HO563.out))) (below_size (by repeat (first | (with_reducible first | exact HB.out | apply below_alloc | apply pw_below_drewN | apply below_drew1 | refine below_set ?_ GE551.out) | exact HB.out)))); have n3_ := Aside0.mk (blk_below (g := gb551) (o := .cells #[.int .i64 a0_0, .string a0_1, .string a0_2, .int .i64 a0_3, .int .i64 a0_4, .slice A0_5 l0_5.length c0_5] 35 (0, 0)) (by (with_reducible repeat (first | refine blk_drewN ?_ _ | refine blk_drew ?_ | refine blk_alloc ?_ _)); exact BK551.out) hb); have n4_ := Aside0.mk (below_step (by repeat (first | (with_reducible first | exact HB.out | apply below_alloc | apply pw_below_drewN | apply below_drew1 | refine below_set ?_ GE551.out) | exact HB.out)) hb); clear HO560; clear HO563; clear BK551; clear HB; have HO560 := n0_; have HO563 := n1_; have HO572 := n2_; have BK551 := n3_; have HB := n4_; clear n0_ n1_ n2_ n3_ n4_; (try clear hb); (try clear hb2); (try clear hk); (try clear hi); (try clear ho0)) | ((with_reducible refine gate_dst (N := 6) rfl ?_); refine box_event ?hg (N := 6) ?hd (cs := #[.int .i64 0, .string (⟨#[]⟩ : ByteArray), .string (⟨#[]⟩ : ByteArray), .int .i64 0, .int .i64 0, .slice none 0 0]) (t := 38) ?hr ?_; (case hd => rfl); (case hg => rfl); (case hr => first | (go_simp; done) | (go_simp; rfl)); intro gb573 hg w21 hbox hb; have n0_ := Aside0.mk (Kd.R_below (by (with_reducible repeat (first | apply Kd.R_alloc | apply Kd.R_drewN | apply Kd.R_drew)); exact HO560.out) hb); have n1_ := Aside0.mk (Kd.R_below (by (with_reducible repeat (first | apply Kd.R_alloc | apply Kd.R_drewN | apply Kd.R_drew)); exact HO563.out) hb); have n2_ := Aside0.mk (Kd.R_below (by (with_reducible repeat (first | apply Kd.R_alloc | apply Kd.R_drewN | apply Kd.R_drew)); exact HO572.out) hb); have n3_ := Aside0.mk (blk_below (g := gb551) (o := .cells #[.int .i64 a0_0, .string a0_1, .string a0_2, .int .i64 a0_3, .int .i64 a0_4, .slice A0_5 l0_5.length c0_5] 35 (0, 0)) (by (with_reducible repeat (first | refine blk_drewN ?_ _ | refine blk_drew ?_ | refine blk_alloc ?_ _)); exact BK551.out) hb); have n4_ := Aside0.mk (below_step (by repeat (first | (with_reducible first | exact HB.out | apply below_alloc | apply pw_below_drewN | apply below_drew1 | refine below_set ?_ GE551.out) | exact HB.out)) hb); have n5_ := Aside0.mk (hbox); have n6_ := Aside0.mk ((by rw [hg]; exact (below_size (by repeat (first | (with_reducible first | exact HB.out | apply below_alloc | apply pw_below_drewN | apply below_drew1 | refine below_set ?_ GE551.out) | exact HB.out))) : w.heap.size ≤ gb573)); have n7_ := Aside0.mk ((by rw [hg]; exact (below_size (by repeat (first | (with_reducible first | exact HB.out | apply below_alloc | apply pw_below_drewN | apply below_drew1 | refine below_set ?_ GE551.out) | exact HB.out))) : w.heap.size ≤ gb573)); have n8_ := Aside0.mk ((by rw [hg]; exact Nat.ne_of_lt (blk_lt (g := gb551) (o := .cells #[.int .i64 a0_0, .string a0_1, .string a0_2, .int .i64 a0_3, .int .i64 a0_4, .slice A0_5 l0_5.length c0_5] 35 (0, 0)) (by (with_reducible repeat (first | refine blk_drewN ?_ _ | refine blk_drew ?_ | refine blk_alloc ?_ _)); exact BK551.out)) : gb551 ≠ gb573)); have n9_ := Aside0.mk ((by rw [hg]; exact Nat.ne_of_gt (blk_lt (g := gb551) (o := .cells #[.int .i64 a0_0, .string a0_1, .string a0_2, .int .i64 a0_3, .int .i64 a0_4, .slice A0_5 l0_5.length c0_5] 35 (0, 0)) (by (with_reducible repeat (first | refine blk_drewN ?_ _ | refine blk_drew ?_ | refine blk_alloc ?_ _)); exact BK551.out)) : gb573 ≠ gb551)); clear HO560; clear HO563; clear HO572; clear BK551; clear HB; have HO560 := n0_; have HO563 := n1_; have HO572 := n2_; have BK551 := n3_; have HB := n4_; have BK573 := n5_; have GW573 := n6_; have GE573 := n7_; have NB551_573 := n8_; have NB573_551 := n9_; clear n0_ n1_ n2_ n3_ n4_ n5_ n6_ n7_ n8_ n9_; clear hb hbox hg; have hnb22 := NB573_551.out; have hnc22 := NB551_573.out; have hcz23_0 : w21.cell? ⟨gb573, 0, none⟩ = some (.int .i64 0) := (blk_cell BK573.out 0).trans rfl; have hcz23_1 : w21.cell? ⟨gb573, 1, none⟩ = some (.string (⟨#[]⟩ : ByteArray)) := (blk_cell BK573.out 1).trans rfl; have hcz23_2 : w21.cell? ⟨gb573, 2, none⟩ = some (.string (⟨#[]⟩ : ByteArray)) := (blk_cell BK573.out 2).trans rfl; have hcz23_3 : w21.cell? ⟨gb573, 3, none⟩ = some (.int .i64 0) := (blk_cell BK573.out 3).trans rfl; have hcz23_4 : w21.cell? ⟨gb573, 4, none⟩ = some (.int .i64 0) := (blk_cell BK573.out 4).trans rfl; have hcz23_5 : w21.cell? ⟨gb573, 5, none⟩ = some (.slice none 0 0) := (blk_cell BK573.out 5).trans rfl; have hfz23_0 := blk_frozen BK573.out 0; have hfz23_1 := blk_frozen BK573.out 1; have hfz23_2 := blk_frozen BK573.out 2; have hfz23_3 := blk_frozen BK573.out 3; have hfz23_4 := blk_frozen BK573.out 4; have hfz23_5 := blk_frozen BK573.out 5; obtain ⟨Ao24, co24, eo24⟩ := Kd.R_slice HO572.out; subst eo24) | ((with_reducible refine gate_callee (f := 23) rfl ?_); refine goesL_ (some 29) rfl rfl Tryd.func23 (by kernel_rfl) rfl #[.agg #[.int .i64 t565, .string t566, .string t567, .int .i64 t568, .int .i64 t569, .slice Ao24 t570.length co24]] rfl (by (try simp only [List.map_toArray, List.map_cons, List.map_nil]); first | done | rfl | (simp only [List.length_drop, List.length_take]; rfl)) ?_; (with_reducible refine (impl_JobWords.calls k t565 t566 t567 t568 t569 _ _ t570 t574 t577 _ ?side1 ?side2 A10.out).mono ?_); (case side1 => refine (Kd.R_reads' (e := 9) (base := w.heap.size) (ok := fun k_ => ((True ∧ some k_ ≠ (.slice Ao17 t558.length co17 : Value).ownBlock) ∧ some k_ ≠ (v562 : Value).ownBlock)) (n := t570.length) (c := co24) ?_).2.2; exact (by (with_reducible repeat (first | apply Kd.R_alloc | apply Kd.R_drewN | apply Kd.R_drew)); exact (Kd.R_mono (Kd.R_far (p := ⟨gb573, 5, none⟩) (Kd.R_far (p := ⟨gb573, 4, none⟩) (Kd.R_far (p := ⟨gb573, 3, none⟩) (Kd.R_far (p := ⟨gb573, 2, none⟩) (Kd.R_far (p := ⟨gb573, 1, none⟩) (Kd.R_far (p := ⟨gb573, 0, none⟩) (Kd.R_types HO572.out BK573.out (by decide)) (fun _ hk => hk.2) (.int .i64 t565)) (fun _ hk => hk.2) (.string t566)) (fun _ hk => hk.2) (.string t567)) (fun _ hk => hk.2) (.int .i64 t568)) (fun _ hk => hk.2) (.int .i64 t569)) (fun _ hk => hk.2) (.slice Ao24 t570.length co24)) (fun _ h_ => h_.1)))); (case side2 => exact (Kd.R_reads' HO572.out).2.1); rintro e w25 ⟨v575, rfl, ho0, hb⟩; refine ⟨_, rfl, ?_⟩; have n0_ := Aside0.mk (Kd.R_elder' (by (with_reducible repeat (first | apply Kd.R_alloc | apply Kd.R_drewN | apply Kd.R_drew)); exact (Kd.R_mono (Kd.R_far (p := ⟨gb573, 5, none⟩) (Kd.R_far (p := ⟨gb573, 4, none⟩) (Kd.R_far (p := ⟨gb573, 3, none⟩) (Kd.R_far (p := ⟨gb573, 2, none⟩) (Kd.R_far (p := ⟨gb573, 1, none⟩) (Kd.R_far (p := ⟨gb573, 0, none⟩) (Kd.R_types HO560.out BK573.out (by decide)) (fun _ hk => hk.2) (.int .i64 t565)) (fun _ hk => hk.2) (.string t566)) (fun _ hk => hk.2) (.string t567)) (fun _ hk => hk.2) (.int .i64 t568)) (fun _ hk => hk.2) (.int .i64 t569)) (fun _ hk => hk.2) (.slice Ao24 t570.length co24)) (fun _ h_ => h_.1))) (Kd.R_base ho0) hb); have n1_ := Aside0.mk (Kd.R_elder' (by (with_reducible repeat (first | apply Kd.R_alloc | apply Kd.R_drewN | apply Kd.R_drew)); exact (Kd.R_mono (Kd.R_far (p := ⟨gb573, 5, none⟩) (Kd.R_far (p := ⟨gb573, 4, none⟩) (Kd.R_far (p := ⟨gb573, 3, none⟩) (Kd.R_far (p := ⟨gb573, 2, none⟩) (Kd.R_far (p := ⟨gb573, 1, none⟩) (Kd.R_far (p := ⟨gb573, 0, none⟩) (Kd.R_types HO563.out BK573.out (by decide)) (fun _ hk => hk.2) (.int .i64 t565)) (fun _ hk => hk.2) (.string t566)) (fun _ hk => hk.2) (.string t567)) (fun _ hk => hk.2) (.int .i64 t568)) (fun _ hk => hk.2) (.int .i64 t569)) (fun _ hk => hk.2) (.slice Ao24 t570.length co24)) (fun _ h_ => h_.1))) (Kd.R_base ho0) hb); have n2_ := Aside0.mk (Kd.R_elder' (by (with_reducible repeat (first | apply Kd.R_alloc | apply Kd.R_drewN | apply Kd.R_drew)); exact (Kd.R_mono (Kd.R_far (p := ⟨gb573, 5, none⟩) (Kd.R_far (p := ⟨gb573, 4, none⟩) (Kd.R_far (p := ⟨gb573, 3, none⟩) (Kd.R_far (p := ⟨gb573, 2, none⟩) (Kd.R_far (p := ⟨gb573, 1, none⟩) (Kd.R_far (p := ⟨gb573, 0, none⟩) (Kd.R_types HO572.out BK573.out (by decide)) (fun _ hk => hk.2) (.int .i64 t565)) (fun _ hk => hk.2) (.string t566)) (fun _ hk => hk.2) (.string t567)) (fun _ hk => hk.2) (.int .i64 t568)) (fun _ hk => hk.2) (.int .i64 t569)) (fun _ hk => hk.2) (.slice Ao24 t570.length co24)) (fun _ h_ => h_.1))) (Kd.R_base ho0) hb); have n3_ := Aside0.mk (Kd.R_lower (Kd.R_new' (Kd.R_new' (Kd.R_new' ho0 (Kd.R_lt (by (with_reducible repeat (first | apply Kd.R_alloc | apply Kd.R_drewN | apply Kd.R_drew)); exact (Kd.R_mono (Kd.R_far (p := ⟨gb573, 5, none⟩) (Kd.R_far (p := ⟨gb573, 4, none⟩) (Kd.R_far (p := ⟨gb573, 3, none⟩) (Kd.R_far (p := ⟨gb573, 2, none⟩) (Kd.R_far (p := ⟨gb573, 1, none⟩) (Kd.R_far (p := ⟨gb573, 0, none⟩) (Kd.R_types HO560.out BK573.out (by decide)) (fun _ hk => hk.2) (.int .i64 t565)) (fun _ hk => hk.2) (.string t566)) (fun _ hk => hk.2) (.string t567)) (fun _ hk => hk.2) (.int .i64 t568)) (fun _ hk => hk.2) (.int .i64 t569)) (fun _ hk => hk.2) (.slice Ao24 t570.length co24)) (fun _ h_ => h_.1))))) (Kd.R_lt (by (with_reducible repeat (first | apply Kd.R_alloc | apply Kd.R_drewN | apply Kd.R_drew)); exact (Kd.R_mono (Kd.R_far (p := ⟨gb573, 5, none⟩) (Kd.R_far (p := ⟨gb573, 4, none⟩) (Kd.R_far (p := ⟨gb573, 3, none⟩) (Kd.R_far (p := ⟨gb573, 2, none⟩) (Kd.R_far (p := ⟨gb573, 1, none⟩) (Kd.R_far (p := ⟨gb573, 0, none⟩) (Kd.R_types HO563.out BK573.out (by decide)) (fun _ hk => hk.2) (.int .i64 t565)) (fun _ hk => hk.2) (.string t566)) (fun _ hk => hk.2) (.string t567)) (fun _ hk => hk.2) (.int .i64 t568)) (fun _ hk => hk.2) (.int .i64 t569)) (fun _ hk => hk.2) (.slice Ao24 t570.length co24)) (fun _ h_ => h_.1))))) (Kd.R_lt (by (with_reducible repeat (first | apply Kd.R_alloc | apply Kd.R_drewN | apply Kd.R_drew)); exact (Kd.R_mono (Kd.R_far (p := ⟨gb573, 5, none⟩) (Kd.R_far (p := ⟨gb573, 4, none⟩) (Kd.R_far (p := ⟨gb573, 3, none⟩) (Kd.R_far (p := ⟨gb573, 2, none⟩) (Kd.R_far (p := ⟨gb573, 1, none⟩) (Kd.R_far (p := ⟨gb573, 0, none⟩) (Kd.R_types HO572.out BK573.out (by decide)) (fun _ hk => hk.2) (.int .i64 t565)) (fun _ hk => hk.2) (.string t566)) (fun _ hk => hk.2) (.string t567)) (fun _ hk => hk.2) (.int .i64 t568)) (fun _ hk => hk.2) (.int .i64 t569)) (fun _ hk => hk.2) (.slice Ao24 t570.length co24)) (fun _ h_ => h_.1))))) (below_size (by repeat (first | (with_reducible first | exact HB.out | apply below_alloc | apply pw_below_drewN | apply below_drew1 | refine below_set ?_ GE551.out | refine below_set ?_ GE573.out) | exact HB.out)))); have n4_ := Aside0.mk (blk_below (g := gb551) (o := .cells #[.int .i64 a0_0, .string a0_1, .string a0_2, .int .i64 a0_3, .int .i64 a0_4, .slice A0_5 l0_5.length c0_5] 35 (0, 0)) (by (with_reducible repeat (first | refine blk_drewN ?_ _ | refine blk_drew ?_ | refine blk_alloc ?_ _)); refine blk_far ?_ NB551_573.out _; (with_reducible repeat (first | refine blk_drewN ?_ _ | refine blk_drew ?_ | refine blk_alloc ?_ _)); refine blk_far ?_ NB551_573.out _; (with_reducible repeat (first | refine blk_drewN ?_ _ | refine blk_drew ?_ | refine blk_alloc ?_ _)); refine blk_far ?_ NB551_573.out _; (with_reducible repeat (first | refine blk_drewN ?_ _ | refine blk_drew ?_ | refine blk_alloc ?_ _)); refine blk_far ?_ NB551_573.out _; (with_reducible repeat (first | refine blk_drewN ?_ _ | refine blk_drew ?_ | refine blk_alloc ?_ _)); refine blk_far ?_ NB551_573.out _; (with_reducible repeat (first | refine blk_drewN ?_ _ | refine blk_drew ?_ | refine blk_alloc ?_ _)); refine blk_far ?_ NB551_573.out _; (with_reducible repeat (first | refine blk_drewN ?_ _ | refine blk_drew ?_ | refine blk_alloc ?_ _)); exact BK551.out) hb); have n5_ := Aside0.mk (blk_below (g := gb573) (o := .cells #[.int .i64 t565, .string t566, .string t567, .int .i64 t568, .int .i64 t569, .slice Ao24 t570.length co24] 38 (0, 0)) (by (with_reducible repeat (first | refine blk_drewN ?_ _ | refine blk_drew ?_ | refine blk_alloc ?_ _)); refine blk_put (cs := #[.int .i64 t565, .string t566, .string t567, .int .i64 t568, .int .i64 t569, .slice none 0 0]) ?_ 5 _ rfl; (with_reducible repeat (first | refine blk_drewN ?_ _ | refine blk_drew ?_ | refine blk_alloc ?_ _)); refine blk_put (cs := #[.int .i64 t565, .string t566, .string t567, .int .i64 t568, .int .i64 0, .slice none 0 0]) ?_ 4 _ rfl; (with_reducible repeat (first | refine blk_drewN ?_ _ | refine blk_drew ?_ | refine blk_alloc ?_ _)); refine blk_put (cs := #[.int .i64 t565, .string t566, .string t567, .int .i64 0, .int .i64 0, .slice none 0 0]) ?_ 3 _ rfl; (with_reducible repeat (first | refine blk_drewN ?_ _ | refine blk_drew ?_ | refine blk_alloc ?_ _)); refine blk_put (cs := #[.int .i64 t565, .string t566, .string (⟨#[]⟩ : ByteArray), .int .i64 0, .int .i64 0, .slice none 0 0]) ?_ 2 _ rfl; (with_reducible repeat (first | refine blk_drewN ?_ _ | refine blk_drew ?_ | refine blk_alloc ?_ _)); refine blk_put (cs := #[.int .i64 t565, .string (⟨#[]⟩ : ByteArray), .string (⟨#[]⟩ : ByteArray), .int .i64 0, .int .i64 0, .slice none 0 0]) ?_ 1 _ rfl; (with_reducible repeat (first | refine blk_drewN ?_ _ | refine blk_drew ?_ | refine blk_alloc ?_ _)); refine blk_put (cs := #[.int .i64 0, .string (⟨#[]⟩ : ByteArray), .string (⟨#[]⟩ : ByteArray), .int .i64 0, .int .i64 0, .slice none 0 0]) ?_ 0 _ rfl; (with_reducible repeat (first | refine blk_drewN ?_ _ | refine blk_drew ?_ | refine blk_alloc ?_ _)); exact BK573.out) hb); have n6_ := Aside0.mk (below_step (by repeat (first | (with_reducible first | exact HB.out | apply below_alloc | apply pw_below_drewN | apply below_drew1 | refine below_set ?_ GE551.out | refine below_set ?_ GE573.out) | exact HB.out)) hb); clear HO560; clear HO563; clear HO572; clear BK551; clear BK573; clear HB; have HO560 := n0_; have HO563 := n1_; have HO572 := n2_; have HO576 := n3_; have BK551 := n4_; have BK573 := n5_; have HB := n6_; clear n0_ n1_ n2_ n3_ n4_ n5_ n6_; (try clear hb); (try clear hb2); (try clear hk); (try clear hi); (try clear ho0)))
    (try simp only [Act.put, List.setIfInBounds_toArray, List.set_cons_zero, List.set_cons_succ])
    go_cut [40] (fun v40 wc => ∃ (kq : Nat) (x40_10 : Bool), v40 = .bool x40_10 ∧ Aside0 (laws_FnExactJobWords.j0 kq t561 t564 t574 t577 x40_10 a0_0 a0_1 a0_2 a0_3 a0_4 l0_5 t565 t566 t567 t568 t569 t570 = some r) ∧ Aside0 (kq ≤ k) ∧ Aside0 (Kd.R Kd.string 9 wc w.heap.size (fun k_ => some k_ ≠ (v575 : Value).ownBlock ∧ some k_ ≠ ((.slice Ao24 t570.length co24) : Value).ownBlock) v562 t561) ∧ Aside0 (Kd.R Kd.string 9 wc w.heap.size (fun k_ => some k_ ≠ (v562 : Value).ownBlock ∧ some k_ ≠ ((.slice Ao24 t570.length co24) : Value).ownBlock) v575 t574) ∧ Aside0 (Kd.R Kd.string 9 wc w.heap.size (fun k_ => some k_ ≠ (v562 : Value).ownBlock ∧ some k_ ≠ (v575 : Value).ownBlock) (.slice Ao24 t570.length co24) t570) ∧ Aside0 (wc.heap[gb551]? = some (.cells #[.int .i64 a0_0, .string a0_1, .string a0_2, .int .i64 a0_3, .int .i64 a0_4, (.slice A0_5 l0_5.length c0_5)] 35 (0, 0))) ∧ Aside0 (wc.heap[gb573]? = some (.cells #[.int .i64 t565, .string t566, .string t567, .int .i64 t568, .int .i64 t569, (.slice Ao24 t570.length co24)] 38 (0, 0))) ∧ Aside0 (Below w.heap.size w wc))
    case first =>
      have H := HC11.out
      clear HC11
      replace H := Option.bind_eq_some_iff.mp H
      obtain ⟨t578, A260, H⟩ := H
      replace H : (if t578 = true then (laws_FnExactJobWords.j0 k t561 t564 t574 t577 (t577 != t564) a0_0 a0_1 a0_2 a0_3 a0_4 l0_5 t565 t566 t567 t568 t569 t570) else (laws_FnExactJobWords.j0 k t561 t564 t574 t577 true a0_0 a0_1 a0_2 a0_3 a0_4 l0_5 t565 t566 t567 t568 t569 t570)) = some r := H
      have A26 := Aside0.mk A260
      clear A260
      by_cases c27 : t578 = true
      · subst c27
        have H1 : (laws_FnExactJobWords.j0 k t561 t564 t574 t577 (t577 != t564) a0_0 a0_1 a0_2 a0_3 a0_4 l0_5 t565 t566 t567 t568 t569 t570) = some r := by rw [if_pos rfl] at H; exact H
        clear H
        have H := H1
        clear H1
        have H' := Aside0.mk H
        clear H
        obtain ⟨Ao28, co28, eo28⟩ := Kd.R_slice HO576.out
        subst eo28
        obtain ⟨Ao29, co29, eo29⟩ := Kd.R_slice HO563.out
        subst eo29
        go_wp2_with (first | ((with_reducible refine gate_callee (f := 24) rfl ?_); refine goesL_ (some 34) rfl rfl Tryd.func24 (by kernel_rfl) rfl #[.slice Ao28 t574.length co28, .slice Ao29 t561.length co29] rfl (by (try simp only [List.map_toArray, List.map_cons, List.map_nil]); first | done | rfl | (simp only [List.length_drop, List.length_take]; rfl)) ?_; (with_reducible refine (laws_eqStringS.calls k _ _ t574 _ _ t561 true _ ?side1 ?side2 ?side3 ?side4 A26.out).mono ?_); (case side1 => repeat (first | exact (Kd.R_reads' HO576.out).2.2 | (with_reducible refine Kd.C_alloc ?_ _) | (with_reducible refine Kd.C_drewN ?_ _) | (with_reducible refine Kd.C_drew ?_))); (case side2 => exact (Kd.R_reads' HO576.out).2.1); (case side3 => repeat (first | exact (Kd.R_reads' HO563.out).2.2 | (with_reducible refine Kd.C_alloc ?_ _) | (with_reducible refine Kd.C_drewN ?_ _) | (with_reducible refine Kd.C_drew ?_))); (case side4 => exact (Kd.R_reads' HO563.out).2.1); rintro e w' ⟨rfl, ⟨nd, rfl⟩⟩; refine ⟨_, rfl, ?_⟩))
        go_meet
        case rel => exact ⟨_, ((t577 != t564)), (by first | rfl | (simp; done) | (simp [*]; done)), H', ⟨by first | omega | exact Nat.le_refl _⟩, ⟨by (with_reducible repeat (first | apply Kd.R_alloc | apply Kd.R_drewN | apply Kd.R_drew)); exact Kd.R_mono HO563.out (fun _ hk => ⟨hk.2, hk.1.2⟩)⟩, ⟨by (with_reducible repeat (first | apply Kd.R_alloc | apply Kd.R_drewN | apply Kd.R_drew)); exact Kd.R_mono HO576.out (fun _ hk => ⟨hk.1.2, hk.2⟩)⟩, ⟨by (with_reducible repeat (first | apply Kd.R_alloc | apply Kd.R_drewN | apply Kd.R_drew)); exact Kd.R_mono HO572.out (fun _ hk => ⟨hk.1.2, hk.2⟩)⟩, ⟨by (with_reducible repeat (first | refine blk_drewN ?_ _ | refine blk_drew ?_ | refine blk_alloc ?_ _)); exact BK551.out⟩, ⟨by (with_reducible repeat (first | refine blk_drewN ?_ _ | refine blk_drew ?_ | refine blk_alloc ?_ _)); exact BK573.out⟩, ⟨by repeat (first | (with_reducible first | exact HB.out | apply below_alloc | apply pw_below_drewN | apply below_drew1 | refine below_set ?_ GE551.out | refine below_set ?_ GE573.out) | exact HB.out)⟩⟩
      · replace c27 := Bool.eq_false_iff.mpr c27
        subst c27
        have H1 : (laws_FnExactJobWords.j0 k t561 t564 t574 t577 true a0_0 a0_1 a0_2 a0_3 a0_4 l0_5 t565 t566 t567 t568 t569 t570) = some r := by rw [if_neg (show ¬ (false = true) by decide)] at H; exact H
        clear H
        have H := H1
        clear H1
        have H' := Aside0.mk H
        clear H
        obtain ⟨Ao30, co30, eo30⟩ := Kd.R_slice HO576.out
        subst eo30
        obtain ⟨Ao31, co31, eo31⟩ := Kd.R_slice HO563.out
        subst eo31
        go_wp2_with (first | ((with_reducible refine gate_callee (f := 24) rfl ?_); refine goesL_ (some 34) rfl rfl Tryd.func24 (by kernel_rfl) rfl #[.slice Ao30 t574.length co30, .slice Ao31 t561.length co31] rfl (by (try simp only [List.map_toArray, List.map_cons, List.map_nil]); first | done | rfl | (simp only [List.length_drop, List.length_take]; rfl)) ?_; (with_reducible refine (laws_eqStringS.calls k _ _ t574 _ _ t561 false _ ?side1 ?side2 ?side3 ?side4 A26.out).mono ?_); (case side1 => repeat (first | exact (Kd.R_reads' HO576.out).2.2 | (with_reducible refine Kd.C_alloc ?_ _) | (with_reducible refine Kd.C_drewN ?_ _) | (with_reducible refine Kd.C_drew ?_))); (case side2 => exact (Kd.R_reads' HO576.out).2.1); (case side3 => repeat (first | exact (Kd.R_reads' HO563.out).2.2 | (with_reducible refine Kd.C_alloc ?_ _) | (with_reducible refine Kd.C_drewN ?_ _) | (with_reducible refine Kd.C_drew ?_))); (case side4 => exact (Kd.R_reads' HO563.out).2.1); rintro e w' ⟨rfl, ⟨nd, rfl⟩⟩; refine ⟨_, rfl, ?_⟩))
        go_meet
        case rel => exact ⟨_, (true), (by first | rfl | (simp; done) | (simp [*]; done)), H', ⟨by first | omega | exact Nat.le_refl _⟩, ⟨by (with_reducible repeat (first | apply Kd.R_alloc | apply Kd.R_drewN | apply Kd.R_drew)); exact Kd.R_mono HO563.out (fun _ hk => ⟨hk.2, hk.1.2⟩)⟩, ⟨by (with_reducible repeat (first | apply Kd.R_alloc | apply Kd.R_drewN | apply Kd.R_drew)); exact Kd.R_mono HO576.out (fun _ hk => ⟨hk.1.2, hk.2⟩)⟩, ⟨by (with_reducible repeat (first | apply Kd.R_alloc | apply Kd.R_drewN | apply Kd.R_drew)); exact Kd.R_mono HO572.out (fun _ hk => ⟨hk.1.2, hk.2⟩)⟩, ⟨by (with_reducible repeat (first | refine blk_drewN ?_ _ | refine blk_drew ?_ | refine blk_alloc ?_ _)); exact BK551.out⟩, ⟨by (with_reducible repeat (first | refine blk_drewN ?_ _ | refine blk_drew ?_ | refine blk_alloc ?_ _)); exact BK573.out⟩, ⟨by repeat (first | (with_reducible first | exact HB.out | apply below_alloc | apply pw_below_drewN | apply below_drew1 | refine below_set ?_ GE551.out | refine below_set ?_ GE573.out) | exact HB.out)⟩⟩
    case rest =>
      clear HC11
      try clear c1
      try clear c2
      try clear p2
      try clear c3
      try clear c3b0
      try clear c7
      try clear c17
      try clear c19
      try clear c22
      try clear c23
      try clear c24
      try clear c27
      try clear hcz13_0
      try clear hcz13_1
      try clear hcz13_2
      try clear hcz13_3
      try clear hcz13_4
      try clear hcz13_5
      try clear hcz15_0
      try clear hcz15_1
      try clear hcz15_2
      try clear hcz15_3
      try clear hcz15_4
      try clear hcz15_5
      try clear hcz19_0
      try clear hcz19_1
      try clear hcz19_2
      try clear hcz19_3
      try clear hcz19_4
      try clear hcz19_5
      try clear hcz23_0
      try clear hcz23_1
      try clear hcz23_2
      try clear hcz23_3
      try clear hcz23_4
      try clear hcz23_5
      try clear hcz5_0
      try clear hcz5_1
      try clear hcz5_2
      try clear hcz5_3
      try clear hcz5_4
      try clear hcz5_5
      try clear hfz13_0
      try clear hfz13_1
      try clear hfz13_2
      try clear hfz13_3
      try clear hfz13_4
      try clear hfz13_5
      try clear hfz15_0
      try clear hfz15_1
      try clear hfz15_2
      try clear hfz15_3
      try clear hfz15_4
      try clear hfz15_5
      try clear hfz19_0
      try clear hfz19_1
      try clear hfz19_2
      try clear hfz19_3
      try clear hfz19_4
      try clear hfz19_5
      try clear hfz23_0
      try clear hfz23_1
      try clear hfz23_2
      try clear hfz23_3
      try clear hfz23_4
      try clear hfz23_5
      try clear hfz5_0
      try clear hfz5_1
      try clear hfz5_2
      try clear hfz5_3
      try clear hfz5_4
      try clear hfz5_5
      obtain ⟨kq, x40_10, rfl, HA, HJ10, HO_4, HO_7, HO_574005, BK551, BK573, HB⟩ := hcut
      cases kq with
      | zero => exact absurd HA.out (by simp [laws_FnExactJobWords.j0])
      | succ kj10 =>
        have H := HA.out
        clear HA
        simp only [laws_FnExactJobWords.j0] at H
        by_cases c32 : x40_10 = true
        · subst c32
          have H1 : (some false) = some r := by rw [if_pos rfl] at H; exact H
          clear H
          have H := H1
          clear H1
          obtain rfl := Option.some.inj H
          go_wp2
          go_ret
          exact ⟨by first | rfl | (simp [errW_none, errW_some] <;> rfl) | (simp [*, errW_none, errW_some] <;> rfl), by repeat (first | (with_reducible first | exact HB.out | apply below_alloc | apply pw_below_drewN | apply below_drew1 | refine below_set ?_ GE551.out | refine below_set ?_ GE573.out) | exact HB.out)⟩
        · replace c32 := Bool.eq_false_iff.mpr c32
          subst c32
          have H1 : ((laws_toJob.f kj10 a0_0 a0_1 a0_2 a0_3 a0_4 l0_5).bind fun bt579 => ((laws_eqJob.f kj10 t565 t566 t567 t568 t569 t570 bt579.1 bt579.2.1 bt579.2.2.1 bt579.2.2.2.1 bt579.2.2.2.2.1 bt579.2.2.2.2.2).bind fun t587 => (if t587 = true then ((laws_markJob.f kj10 t565 t566 t567 t568 t569 t570 1).bind fun bt588 => (if bt588.1 < 0 then (laws_FnExactJobWords.j1 kj10 t561 t564 t574 true a0_0 a0_1 a0_2 a0_3 a0_4 l0_5) else ((laws_eqStringS.f kj10 t574 t561).bind fun t590 => (if t590 = true then (laws_FnExactJobWords.j1 kj10 t561 t564 t574 (t577 != t564) a0_0 a0_1 a0_2 a0_3 a0_4 l0_5) else (laws_FnExactJobWords.j1 kj10 t561 t564 t574 true a0_0 a0_1 a0_2 a0_3 a0_4 l0_5))))) else (some false)))) = some r := by rw [if_neg (show ¬ (false = true) by decide)] at H; exact H
          clear H
          have H := H1
          clear H1
          replace H := Option.bind_eq_some_iff.mp H
          obtain ⟨⟨t579, t580, t581, t582, t583, t584⟩, A330, H⟩ := H
          replace H : ((laws_eqJob.f kj10 t565 t566 t567 t568 t569 t570 t579 t580 t581 t582 t583 t584).bind fun t587 => (if t587 = true then ((laws_markJob.f kj10 t565 t566 t567 t568 t569 t570 1).bind fun bt588 => (if bt588.1 < 0 then (laws_FnExactJobWords.j1 kj10 t561 t564 t574 true a0_0 a0_1 a0_2 a0_3 a0_4 l0_5) else ((laws_eqStringS.f kj10 t574 t561).bind fun t590 => (if t590 = true then (laws_FnExactJobWords.j1 kj10 t561 t564 t574 (t577 != t564) a0_0 a0_1 a0_2 a0_3 a0_4 l0_5) else (laws_FnExactJobWords.j1 kj10 t561 t564 t574 true a0_0 a0_1 a0_2 a0_3 a0_4 l0_5))))) else (some false))) = some r := H
          have A33 := Aside0.mk A330
          clear A330
          replace H := Option.bind_eq_some_iff.mp H
          obtain ⟨t587, A340, H⟩ := H
          replace H : (if t587 = true then ((laws_markJob.f kj10 t565 t566 t567 t568 t569 t570 1).bind fun bt588 => (if bt588.1 < 0 then (laws_FnExactJobWords.j1 kj10 t561 t564 t574 true a0_0 a0_1 a0_2 a0_3 a0_4 l0_5) else ((laws_eqStringS.f kj10 t574 t561).bind fun t590 => (if t590 = true then (laws_FnExactJobWords.j1 kj10 t561 t564 t574 (t577 != t564) a0_0 a0_1 a0_2 a0_3 a0_4 l0_5) else (laws_FnExactJobWords.j1 kj10 t561 t564 t574 true a0_0 a0_1 a0_2 a0_3 a0_4 l0_5))))) else (some false)) = some r := H
          have A34 := Aside0.mk A340
          clear A340
          by_cases c35 : t587 = true
          · subst c35
            have H1 : ((laws_markJob.f kj10 t565 t566 t567 t568 t569 t570 1).bind fun bt588 => (if bt588.1 < 0 then (laws_FnExactJobWords.j1 kj10 t561 t564 t574 true a0_0 a0_1 a0_2 a0_3 a0_4 l0_5) else ((laws_eqStringS.f kj10 t574 t561).bind fun t590 => (if t590 = true then (laws_FnExactJobWords.j1 kj10 t561 t564 t574 (t577 != t564) a0_0 a0_1 a0_2 a0_3 a0_4 l0_5) else (laws_FnExactJobWords.j1 kj10 t561 t564 t574 true a0_0 a0_1 a0_2 a0_3 a0_4 l0_5))))) = some r := by rw [if_pos rfl] at H; exact H
            clear H
            have H := H1
            clear H1
            replace H := Option.bind_eq_some_iff.mp H
            obtain ⟨⟨t588, t589⟩, A360, H⟩ := H
            replace H : (if t588 < 0 then (laws_FnExactJobWords.j1 kj10 t561 t564 t574 true a0_0 a0_1 a0_2 a0_3 a0_4 l0_5) else ((laws_eqStringS.f kj10 t574 t561).bind fun t590 => (if t590 = true then (laws_FnExactJobWords.j1 kj10 t561 t564 t574 (t577 != t564) a0_0 a0_1 a0_2 a0_3 a0_4 l0_5) else (laws_FnExactJobWords.j1 kj10 t561 t564 t574 true a0_0 a0_1 a0_2 a0_3 a0_4 l0_5)))) = some r := H
            have A36 := Aside0.mk A360
            clear A360
            have HC37 := Aside0.mk H
            clear H
            try go_wp2
            have n0_ := Aside0.mk (Kd.R_drew HO_4.out)
            have n1_ := Aside0.mk (Kd.R_drew HO_7.out)
            have n2_ := Aside0.mk (Kd.R_drew HO_574005.out)
            have n3_ := Aside0.mk (blk_drew BK551.out)
            have n4_ := Aside0.mk (blk_drew BK573.out)
            have n5_ := Aside0.mk (below_drew1 HB.out)
            clear HO_4
            clear HO_7
            clear HO_574005
            clear BK551
            clear BK573
            clear HB
            have HO_4 := n0_
            have HO_7 := n1_
            have HO_574005 := n2_
            have BK551 := n3_
            have BK573 := n4_
            have HB := n5_
            clear n0_ n1_ n2_ n3_ n4_ n5_
            refine start_ (n := 5) (S := fun w' => w'.cell? ⟨gb573, 0, none⟩ = some (.int .i64 t565) ∧ w'.cell? ⟨gb573, 1, none⟩ = some (.string t566) ∧ w'.cell? ⟨gb573, 2, none⟩ = some (.string t567) ∧ w'.cell? ⟨gb573, 3, none⟩ = some (.int .i64 t568) ∧ w'.cell? ⟨gb573, 4, none⟩ = some (.int .i64 t569) ∧ w'.cell? ⟨gb573, 5, none⟩ = some (.slice Ao24 t570.length co24) ∧ w'.cell? ⟨gb551, 0, none⟩ = some (.int .i64 a0_0) ∧ w'.cell? ⟨gb551, 1, none⟩ = some (.string a0_1) ∧ w'.cell? ⟨gb551, 2, none⟩ = some (.string a0_2) ∧ w'.cell? ⟨gb551, 3, none⟩ = some (.int .i64 a0_3) ∧ w'.cell? ⟨gb551, 4, none⟩ = some (.int .i64 a0_4) ∧ w'.cell? ⟨gb551, 5, none⟩ = some (.slice A0_5 l0_5.length c0_5)) (ds := []) #[false, false, false, false, false] (by kernel_rfl) rfl rfl ⟨(blk_cell BK573.out 0).trans rfl, (blk_cell BK573.out 1).trans rfl, (blk_cell BK573.out 2).trans rfl, (blk_cell BK573.out 3).trans rfl, (blk_cell BK573.out 4).trans rfl, (blk_cell BK573.out 5).trans rfl, (blk_cell BK551.out 0).trans rfl, (blk_cell BK551.out 1).trans rfl, (blk_cell BK551.out 2).trans rfl, (blk_cell BK551.out 3).trans rfl, (blk_cell BK551.out 4).trans rfl, (blk_cell BK551.out 5).trans rfl⟩ (fun hHeld => ?_)
            generalize wc.drew = w38 at HO_4 HO_7 HO_574005 BK551 BK573 HB hHeld ⊢
            refine take_ (i := 0) (N := some 41) (v := ?_) (a' := ?_) #[true, false, false, false, false] rfl rfl (by kernel_rfl) (fun _ _ _ h => h) (Or.inl ⟨by rfl, ?_⟩) hHeld ?_ ?_
            rotate_left
            · rintro w' ⟨s0, s1, s2, s3, s4, s5, s6, s7, s8, s9, s10, s11⟩
              go_simp
              with_reducible rfl
            rotate_left
            · simp only [Act.put, List.setIfInBounds_toArray, List.set_cons_zero, List.set_cons_succ, i64_w, i32_w]
              rfl
            refine take_ (i := 1) (N := some 42) (v := ?_) (a' := ?_) #[true, true, false, false, false] rfl rfl (by kernel_rfl) (fun _ _ _ h => h) (Or.inl ⟨by rfl, ?_⟩) hHeld ?_ ?_
            rotate_left
            · rintro w' ⟨s0, s1, s2, s3, s4, s5, s6, s7, s8, s9, s10, s11⟩
              go_simp
              with_reducible rfl
            rotate_left
            · simp only [Act.put, List.setIfInBounds_toArray, List.set_cons_zero, List.set_cons_succ, i64_w, i32_w]
              rfl
            refine one_ (i := 2) (N := some 43) #[true, true, true, false, false] rfl rfl (by kernel_rfl) (by decide) (fun K hK => ?_)
            refine goes_ Tryd.func19 (by kernel_rfl) rfl #[.agg #[.int .i64 a0_0, .string a0_1, .string a0_2, .int .i64 a0_3, .int .i64 a0_4, .slice A0_5 l0_5.length c0_5]] (by rfl) rfl rfl (by (try simp only [List.map_toArray, List.map_cons, List.map_nil]); first | done | rfl | (simp only [List.length_drop, List.length_take]; rfl)) ?_
            with_reducible refine (laws_toJob.calls kj10 a0_0 a0_1 a0_2 a0_3 a0_4 _ _ l0_5 t579 t580 t581 t582 t583 t584 _ ?side1 ?side2 A33.out).mono ?_
            (case side1 => repeat (first | exact (Kd.C_below HR0_5.out HB.out) | (with_reducible refine Kd.C_alloc ?_ _) | (with_reducible refine Kd.C_drewN ?_ _) | (with_reducible refine Kd.C_drew ?_)))
            (case side2 => exact HC0_5.out)
            rintro e w39 ⟨v585, rfl, ho0, hb⟩
            refine ⟨_, rfl, ?_⟩
            have n0_ := Aside0.mk (Kd.R_elder' (by (with_reducible repeat (first | apply Kd.R_alloc | apply Kd.R_drewN | apply Kd.R_drew)); exact HO_4.out) (Kd.R_base ho0) hb)
            have n1_ := Aside0.mk (Kd.R_elder' (by (with_reducible repeat (first | apply Kd.R_alloc | apply Kd.R_drewN | apply Kd.R_drew)); exact HO_7.out) (Kd.R_base ho0) hb)
            have n2_ := Aside0.mk (Kd.R_elder' (by (with_reducible repeat (first | apply Kd.R_alloc | apply Kd.R_drewN | apply Kd.R_drew)); exact HO_574005.out) (Kd.R_base ho0) hb)
            have n3_ := Aside0.mk (Kd.R_lower (Kd.R_new' (Kd.R_new' (Kd.R_new' ho0 (Kd.R_lt (by (with_reducible repeat (first | apply Kd.R_alloc | apply Kd.R_drewN | apply Kd.R_drew)); exact HO_4.out))) (Kd.R_lt (by (with_reducible repeat (first | apply Kd.R_alloc | apply Kd.R_drewN | apply Kd.R_drew)); exact HO_7.out))) (Kd.R_lt (by (with_reducible repeat (first | apply Kd.R_alloc | apply Kd.R_drewN | apply Kd.R_drew)); exact HO_574005.out))) (below_size (by repeat (first | (with_reducible first | exact HB.out | apply below_alloc | apply pw_below_drewN | apply below_drew1 | refine below_set ?_ GE551.out | refine below_set ?_ GE573.out) | exact HB.out))))
            have n4_ := Aside0.mk (blk_below (g := gb551) (o := .cells #[.int .i64 a0_0, .string a0_1, .string a0_2, .int .i64 a0_3, .int .i64 a0_4, .slice A0_5 l0_5.length c0_5] 35 (0, 0)) (by (with_reducible repeat (first | refine blk_drewN ?_ _ | refine blk_drew ?_ | refine blk_alloc ?_ _)); exact BK551.out) hb)
            have n5_ := Aside0.mk (blk_below (g := gb573) (o := .cells #[.int .i64 t565, .string t566, .string t567, .int .i64 t568, .int .i64 t569, .slice Ao24 t570.length co24] 38 (0, 0)) (by (with_reducible repeat (first | refine blk_drewN ?_ _ | refine blk_drew ?_ | refine blk_alloc ?_ _)); exact BK573.out) hb)
            have n6_ := Aside0.mk (below_step (by repeat (first | (with_reducible first | exact HB.out | apply below_alloc | apply pw_below_drewN | apply below_drew1 | refine below_set ?_ GE551.out | refine below_set ?_ GE573.out) | exact HB.out)) hb)
            clear HO_4
            clear HO_7
            clear HO_574005
            clear BK551
            clear BK573
            clear HB
            have HO_4 := n0_
            have HO_7 := n1_
            have HO_574005 := n2_
            have HO586 := n3_
            have BK551 := n4_
            have BK573 := n5_
            have HB := n6_
            clear n0_ n1_ n2_ n3_ n4_ n5_ n6_
            (try clear hb)
            (try clear hb2)
            (try clear hk)
            (try clear hi)
            (try clear ho0)
            obtain ⟨Ao40, co40, eo40⟩ := Kd.R_slice HO586.out
            (first | subst eo40 | (injection eo40 with f1_ f2_ f3_; have f4_ := f1_.symm; have f5_ := f3_.symm; clear f1_ f2_ f3_; subst f4_; subst f5_))
            refine hK.out _ _ ⟨(blk_cell BK573.out 0).trans rfl, (blk_cell BK573.out 1).trans rfl, (blk_cell BK573.out 2).trans rfl, (blk_cell BK573.out 3).trans rfl, (blk_cell BK573.out 4).trans rfl, (blk_cell BK573.out 5).trans rfl, (blk_cell BK551.out 0).trans rfl, (blk_cell BK551.out 1).trans rfl, (blk_cell BK551.out 2).trans rfl, (blk_cell BK551.out 3).trans rfl, (blk_cell BK551.out 4).trans rfl, (blk_cell BK551.out 5).trans rfl⟩ (fun hHeld => ?_)
            clear hK K
            refine norm_ (a' := ?_) ?_ ?_
            rotate_left
            · show Act.put _ (some 43) _ = _
              simp only [Act.put, List.setIfInBounds_toArray, List.set_cons_zero, List.set_cons_succ, i64_w, i32_w]
              rfl
            refine one_ (i := 3) (N := some 44) #[true, true, true, true, false] rfl rfl (by kernel_rfl) (by decide) (fun K hK => ?_)
            refine goes_ Tryd.func21 (by kernel_rfl) rfl #[.agg #[.int .i64 t565, .string t566, .string t567, .int .i64 t568, .int .i64 t569, .slice Ao24 t570.length co24], .agg #[.int .i64 t579, .string t580, .string t581, .int .i64 t582, .int .i64 t583, .slice Ao40 t584.length co40]] (by rfl) rfl rfl (by (try simp only [List.map_toArray, List.map_cons, List.map_nil]); first | done | rfl | (simp only [List.length_drop, List.length_take]; rfl)) ?_
            with_reducible refine (laws_eqJob.calls kj10 t565 t566 t567 t568 t569 _ _ t570 t579 t580 t581 t582 t583 _ _ t584 true _ ?side1 ?side2 ?side3 ?side4 A34.out).mono ?_
            (case side1 => repeat (first | exact (Kd.R_reads' HO_574005.out).2.2 | (with_reducible refine Kd.C_alloc ?_ _) | (with_reducible refine Kd.C_drewN ?_ _) | (with_reducible refine Kd.C_drew ?_)))
            (case side2 => exact (Kd.R_reads' HO_574005.out).2.1)
            (case side3 => repeat (first | exact (Kd.R_reads' HO586.out).2.2 | (with_reducible refine Kd.C_alloc ?_ _) | (with_reducible refine Kd.C_drewN ?_ _) | (with_reducible refine Kd.C_drew ?_)))
            (case side4 => exact (Kd.R_reads' HO586.out).2.1)
            rintro e w41 ⟨rfl, hb⟩
            refine ⟨_, rfl, ?_⟩
            have n0_ := Aside0.mk (Kd.R_below (by (with_reducible repeat (first | apply Kd.R_alloc | apply Kd.R_drewN | apply Kd.R_drew)); exact HO_4.out) hb)
            have n1_ := Aside0.mk (Kd.R_below (by (with_reducible repeat (first | apply Kd.R_alloc | apply Kd.R_drewN | apply Kd.R_drew)); exact HO_7.out) hb)
            have n2_ := Aside0.mk (Kd.R_below (by (with_reducible repeat (first | apply Kd.R_alloc | apply Kd.R_drewN | apply Kd.R_drew)); exact HO_574005.out) hb)
            have n3_ := Aside0.mk (Kd.R_below (by (with_reducible repeat (first | apply Kd.R_alloc | apply Kd.R_drewN | apply Kd.R_drew)); exact HO586.out) hb)
            have n4_ := Aside0.mk (blk_below (g := gb551) (o := .cells #[.int .i64 a0_0, .string a0_1, .string a0_2, .int .i64 a0_3, .int .i64 a0_4, .slice A0_5 l0_5.length c0_5] 35 (0, 0)) (by (with_reducible repeat (first | refine blk_drewN ?_ _ | refine blk_drew ?_ | refine blk_alloc ?_ _)); exact BK551.out) hb)
            have n5_ := Aside0.mk (blk_below (g := gb573) (o := .cells #[.int .i64 t565, .string t566, .string t567, .int .i64 t568, .int .i64 t569, .slice Ao24 t570.length co24] 38 (0, 0)) (by (with_reducible repeat (first | refine blk_drewN ?_ _ | refine blk_drew ?_ | refine blk_alloc ?_ _)); exact BK573.out) hb)
            have n6_ := Aside0.mk (below_step (by repeat (first | (with_reducible first | exact HB.out | apply below_alloc | apply pw_below_drewN | apply below_drew1 | refine below_set ?_ GE551.out | refine below_set ?_ GE573.out) | exact HB.out)) hb)
            clear HO_4
            clear HO_7
            clear HO_574005
            clear HO586
            clear BK551
            clear BK573
            clear HB
            have HO_4 := n0_
            have HO_7 := n1_
            have HO_574005 := n2_
            have HO586 := n3_
            have BK551 := n4_
            have BK573 := n5_
            have HB := n6_
            clear n0_ n1_ n2_ n3_ n4_ n5_ n6_
            (try clear hb)
            (try clear hb2)
            (try clear hk)
            (try clear hi)
            refine hK.out _ _ ⟨(blk_cell BK573.out 0).trans rfl, (blk_cell BK573.out 1).trans rfl, (blk_cell BK573.out 2).trans rfl, (blk_cell BK573.out 3).trans rfl, (blk_cell BK573.out 4).trans rfl, (blk_cell BK573.out 5).trans rfl, (blk_cell BK551.out 0).trans rfl, (blk_cell BK551.out 1).trans rfl, (blk_cell BK551.out 2).trans rfl, (blk_cell BK551.out 3).trans rfl, (blk_cell BK551.out 4).trans rfl, (blk_cell BK551.out 5).trans rfl⟩ (fun hHeld => ?_)
            clear hK K
            refine norm_ (a' := ?_) ?_ ?_
            rotate_left
            · show Act.put _ (some 44) _ = _
              simp only [Act.put, List.setIfInBounds_toArray, List.set_cons_zero, List.set_cons_succ, i64_w, i32_w]
              rfl
            refine pure_ (i := 4) (N := some 45) (v := ?_) (a' := ?_) #[true, true, true, true, true] rfl rfl (by kernel_rfl) (fun _ _ _ h => h) (Or.inl ⟨by rfl, ?_⟩) ?_ ?_
            rotate_left
            · intro w'
              go_simp
              with_reducible rfl
            rotate_left
            · simp only [Act.put, List.setIfInBounds_toArray, List.set_cons_zero, List.set_cons_succ, i64_w, i32_w]
              rfl
            refine done_ (by kernel_rfl) ?_
            have hnb42 := NB573_551.out
            have hnc42 := NB551_573.out
            have hcz43_0 : w41.cell? ⟨gb573, 0, none⟩ = some (.int .i64 t565) := (blk_cell BK573.out 0).trans rfl
            have hcz43_1 : w41.cell? ⟨gb573, 1, none⟩ = some (.string t566) := (blk_cell BK573.out 1).trans rfl
            have hcz43_2 : w41.cell? ⟨gb573, 2, none⟩ = some (.string t567) := (blk_cell BK573.out 2).trans rfl
            have hcz43_3 : w41.cell? ⟨gb573, 3, none⟩ = some (.int .i64 t568) := (blk_cell BK573.out 3).trans rfl
            have hcz43_4 : w41.cell? ⟨gb573, 4, none⟩ = some (.int .i64 t569) := (blk_cell BK573.out 4).trans rfl
            have hcz43_5 : w41.cell? ⟨gb573, 5, none⟩ = some (.slice Ao24 t570.length co24) := (blk_cell BK573.out 5).trans rfl
            have hfz43_0 := blk_frozen BK573.out 0
            have hfz43_1 := blk_frozen BK573.out 1
            have hfz43_2 := blk_frozen BK573.out 2
            have hfz43_3 := blk_frozen BK573.out 3
            have hfz43_4 := blk_frozen BK573.out 4
            have hfz43_5 := blk_frozen BK573.out 5
            go_upto_region 14 with (first | ((with_reducible refine gate_callee (f := 25) rfl ?_); refine goesL_ (some 48) rfl rfl Tryd.func25 (by kernel_rfl) rfl #[.agg #[.int .i64 t565, .string t566, .string t567, .int .i64 t568, .int .i64 t569, .slice Ao24 t570.length co24], .int .i64 1] rfl (by (try simp only [List.map_toArray, List.map_cons, List.map_nil]); first | done | rfl | (simp only [List.length_drop, List.length_take]; rfl)) ?_; (with_reducible refine (laws_markJob.calls kj10 t565 t566 t567 t568 t569 (fun k_ => some k_ = (.slice Ao24 t570.length co24 : Value).ownBlock) (.slice Ao24 t570.length co24) t570 1 t588 t589 w _ ?side1 ?side2 A36.out).mono ?_); (case side1 => repeat (first | (with_reducible first | exact HB.out | apply below_alloc | apply pw_below_drewN | apply below_drew1 | refine below_set ?_ GE551.out | refine below_set ?_ GE573.out) | exact HB.out)); (case side2 => exact Kd.R_tight rfl HO_574005.out); rintro e w44 ⟨rfl, hy0, hb, hkp⟩; refine ⟨_, rfl, ?_⟩; have n0_ := Aside0.mk (Kd.R_mono (ok' := fun k_ => some k_ ≠ (v575 : Value).ownBlock ∧ some k_ ≠ (.slice Ao24 t570.length co24 : Value).ownBlock ∧ some k_ ≠ (.slice Ao40 t584.length co40 : Value).ownBlock) (Kd.R_keptB (HO_4.out) hkp (fun k_ hk_ hs_ => (hk_.1.2) hs_)) (fun k_ hk_ => ⟨hk_.1.1.1, hk_.1.1.2, hk_.1.2⟩)); have n1_ := Aside0.mk (Kd.R_mono (ok' := fun k_ => some k_ ≠ (v562 : Value).ownBlock ∧ some k_ ≠ (.slice Ao24 t570.length co24 : Value).ownBlock ∧ some k_ ≠ (.slice Ao40 t584.length co40 : Value).ownBlock) (Kd.R_keptB (HO_7.out) hkp (fun k_ hk_ hs_ => (hk_.1.2) hs_)) (fun k_ hk_ => ⟨hk_.1.1.1, hk_.1.1.2, hk_.1.2⟩)); have n2_ := Aside0.mk (Kd.R_reok rfl hy0 (fun k_ e_ => HO_574005.out.1 k_ e_)); have n3_ := Aside0.mk (blk_kept (by (with_reducible repeat (first | refine blk_drewN ?_ _ | refine blk_drew ?_ | refine blk_alloc ?_ _)); exact BK551.out) hkp (fun hs_ => (fun e_ => (Kd.R_ne HO_574005.out BK551.out (by decide)) e_) hs_)); have n4_ := Aside0.mk (blk_kept (by (with_reducible repeat (first | refine blk_drewN ?_ _ | refine blk_drew ?_ | refine blk_alloc ?_ _)); exact BK573.out) hkp (fun hs_ => (fun e_ => (Kd.R_ne HO_574005.out BK573.out (by decide)) e_) hs_)); have n5_ := Aside0.mk (Kd.R_mono (ok' := fun k_ => some k_ ≠ (v562 : Value).ownBlock ∧ some k_ ≠ (v575 : Value).ownBlock ∧ some k_ ≠ (.slice Ao24 t570.length co24 : Value).ownBlock) (Kd.R_keptB (HO586.out) hkp (fun k_ hk_ hs_ => (hk_.2) hs_)) (fun k_ hk_ => ⟨hk_.1.1.1.2, hk_.1.1.2, hk_.1.2⟩)); have n6_ := Aside0.mk (hb); clear HO_4; clear HO_7; clear HO_574005; clear BK551; clear BK573; clear HO586; clear HB; have HO_4 := n0_; have HO_7 := n1_; have HO_574005 := n2_; have BK551 := n3_; have BK573 := n4_; have HO586 := n5_; have HB := n6_; clear n0_ n1_ n2_ n3_ n4_ n5_ n6_; (try clear hb); (try clear hkp); (try clear hy0)))
            (try simp only [Act.put, List.setIfInBounds_toArray, List.set_cons_zero, List.set_cons_succ])
            go_cut [61] (fun v61 wc => ∃ (kq : Nat) (x61_36 : Bool), v61 = .bool x61_36 ∧ Aside0 (laws_FnExactJobWords.j1 kq t561 t564 t574 x61_36 a0_0 a0_1 a0_2 a0_3 a0_4 l0_5 = some r) ∧ Aside0 (kq ≤ kj10) ∧ Aside0 (Kd.R Kd.string 9 wc w.heap.size (fun k_ => some k_ ≠ (v575 : Value).ownBlock ∧ some k_ ≠ ((.slice Ao24 t570.length co24) : Value).ownBlock) v562 t561) ∧ Aside0 (Kd.R Kd.string 9 wc w.heap.size (fun k_ => some k_ ≠ (v562 : Value).ownBlock ∧ some k_ ≠ ((.slice Ao24 t570.length co24) : Value).ownBlock) v575 t574) ∧ Aside0 (Kd.R Kd.string 9 wc w.heap.size (fun k_ => some k_ ≠ (v562 : Value).ownBlock ∧ some k_ ≠ (v575 : Value).ownBlock) (.slice Ao24 t570.length co24) t589) ∧ Aside0 (wc.heap[gb551]? = some (.cells #[.int .i64 a0_0, .string a0_1, .string a0_2, .int .i64 a0_3, .int .i64 a0_4, (.slice A0_5 l0_5.length c0_5)] 35 (0, 0))) ∧ Aside0 (wc.heap[gb573]? = some (.cells #[.int .i64 t565, .string t566, .string t567, .int .i64 t568, .int .i64 t569, (.slice Ao24 t570.length co24)] 38 (0, 0))) ∧ Aside0 (Below w.heap.size w wc))
            case first =>
              have H := HC37.out
              clear HC37
              by_cases c45 : t588 < 0
              · rw [if_pos c45] at H
                have c45b0 : decide (t588 < 0) = true := decide_eq_true c45
                clear c45
                (first | rw [c45b0] | (simp only [i64_w, i32_w]; rw [c45b0]) | skip)
                have H' := Aside0.mk H
                clear H
                go_wp2
                go_meet
                case rel => exact ⟨_, (true), (by first | rfl | (simp; done) | (simp [*]; done)), H', ⟨by have := HJ10.out; first | omega | exact Nat.le_refl _⟩, ⟨by (with_reducible repeat (first | apply Kd.R_alloc | apply Kd.R_drewN | apply Kd.R_drew)); exact Kd.R_mono HO_4.out (fun _ hk => ⟨hk.1, hk.2.1⟩)⟩, ⟨by (with_reducible repeat (first | apply Kd.R_alloc | apply Kd.R_drewN | apply Kd.R_drew)); exact Kd.R_mono HO_7.out (fun _ hk => ⟨hk.1, hk.2.1⟩)⟩, ⟨by (with_reducible repeat (first | apply Kd.R_alloc | apply Kd.R_drewN | apply Kd.R_drew)); exact Kd.R_mono HO_574005.out (fun _ hk => ⟨hk.1.1, hk.1.2⟩)⟩, ⟨by (with_reducible repeat (first | refine blk_drewN ?_ _ | refine blk_drew ?_ | refine blk_alloc ?_ _)); exact BK551.out⟩, ⟨by (with_reducible repeat (first | refine blk_drewN ?_ _ | refine blk_drew ?_ | refine blk_alloc ?_ _)); exact BK573.out⟩, ⟨by repeat (first | (with_reducible first | exact HB.out | apply below_alloc | apply pw_below_drewN | apply below_drew1 | refine below_set ?_ GE551.out | refine below_set ?_ GE573.out) | exact HB.out)⟩⟩
              · rw [if_neg c45] at H
                have c45b0 : decide (t588 < 0) = false := decide_eq_false c45
                clear c45
                (first | rw [c45b0] | (simp only [i64_w, i32_w]; rw [c45b0]) | skip)
                replace H := Option.bind_eq_some_iff.mp H
                obtain ⟨t590, A460, H⟩ := H
                replace H : (if t590 = true then (laws_FnExactJobWords.j1 kj10 t561 t564 t574 (t577 != t564) a0_0 a0_1 a0_2 a0_3 a0_4 l0_5) else (laws_FnExactJobWords.j1 kj10 t561 t564 t574 true a0_0 a0_1 a0_2 a0_3 a0_4 l0_5)) = some r := H
                have A46 := Aside0.mk A460
                clear A460
                by_cases c47 : t590 = true
                · subst c47
                  have H1 : (laws_FnExactJobWords.j1 kj10 t561 t564 t574 (t577 != t564) a0_0 a0_1 a0_2 a0_3 a0_4 l0_5) = some r := by rw [if_pos rfl] at H; exact H
                  clear H
                  have H := H1
                  clear H1
                  have H' := Aside0.mk H
                  clear H
                  obtain ⟨Ao48, co48, eo48⟩ := Kd.R_slice HO_7.out
                  subst eo48
                  obtain ⟨Ao49, co49, eo49⟩ := Kd.R_slice HO_4.out
                  subst eo49
                  go_wp2_with (first | (go_at_call 24; (with_reducible refine (laws_eqStringS.calls kj10 _ _ t574 _ _ t561 true _ ?side1 ?side2 ?side3 ?side4 A46.out).mono ?_); (case side1 => repeat (first | exact (Kd.R_reads' HO_7.out).2.2 | (with_reducible refine Kd.C_alloc ?_ _) | (with_reducible refine Kd.C_drewN ?_ _) | (with_reducible refine Kd.C_drew ?_))); (case side2 => exact (Kd.R_reads' HO_7.out).2.1); (case side3 => repeat (first | exact (Kd.R_reads' HO_4.out).2.2 | (with_reducible refine Kd.C_alloc ?_ _) | (with_reducible refine Kd.C_drewN ?_ _) | (with_reducible refine Kd.C_drew ?_))); (case side4 => exact (Kd.R_reads' HO_4.out).2.1); rintro e w' ⟨rfl, ⟨nd, rfl⟩⟩))
                  go_meet
                  case rel => exact ⟨_, ((t577 != t564)), (by first | rfl | (simp; done) | (simp [*]; done)), H', ⟨by have := HJ10.out; first | omega | exact Nat.le_refl _⟩, ⟨by (with_reducible repeat (first | apply Kd.R_alloc | apply Kd.R_drewN | apply Kd.R_drew)); exact Kd.R_mono HO_4.out (fun _ hk => ⟨hk.1, hk.2.1⟩)⟩, ⟨by (with_reducible repeat (first | apply Kd.R_alloc | apply Kd.R_drewN | apply Kd.R_drew)); exact Kd.R_mono HO_7.out (fun _ hk => ⟨hk.1, hk.2.1⟩)⟩, ⟨by (with_reducible repeat (first | apply Kd.R_alloc | apply Kd.R_drewN | apply Kd.R_drew)); exact Kd.R_mono HO_574005.out (fun _ hk => ⟨hk.1.1, hk.1.2⟩)⟩, ⟨by (with_reducible repeat (first | refine blk_drewN ?_ _ | refine blk_drew ?_ | refine blk_alloc ?_ _)); exact BK551.out⟩, ⟨by (with_reducible repeat (first | refine blk_drewN ?_ _ | refine blk_drew ?_ | refine blk_alloc ?_ _)); exact BK573.out⟩, ⟨by repeat (first | (with_reducible first | exact HB.out | apply below_alloc | apply pw_below_drewN | apply below_drew1 | refine below_set ?_ GE551.out | refine below_set ?_ GE573.out) | exact HB.out)⟩⟩
                · replace c47 := Bool.eq_false_iff.mpr c47
                  subst c47
                  have H1 : (laws_FnExactJobWords.j1 kj10 t561 t564 t574 true a0_0 a0_1 a0_2 a0_3 a0_4 l0_5) = some r := by rw [if_neg (show ¬ (false = true) by decide)] at H; exact H
                  clear H
                  have H := H1
                  clear H1
                  have H' := Aside0.mk H
                  clear H
                  obtain ⟨Ao50, co50, eo50⟩ := Kd.R_slice HO_7.out
                  subst eo50
                  obtain ⟨Ao51, co51, eo51⟩ := Kd.R_slice HO_4.out
                  subst eo51
                  go_wp2_with (first | (go_at_call 24; (with_reducible refine (laws_eqStringS.calls kj10 _ _ t574 _ _ t561 false _ ?side1 ?side2 ?side3 ?side4 A46.out).mono ?_); (case side1 => repeat (first | exact (Kd.R_reads' HO_7.out).2.2 | (with_reducible refine Kd.C_alloc ?_ _) | (with_reducible refine Kd.C_drewN ?_ _) | (with_reducible refine Kd.C_drew ?_))); (case side2 => exact (Kd.R_reads' HO_7.out).2.1); (case side3 => repeat (first | exact (Kd.R_reads' HO_4.out).2.2 | (with_reducible refine Kd.C_alloc ?_ _) | (with_reducible refine Kd.C_drewN ?_ _) | (with_reducible refine Kd.C_drew ?_))); (case side4 => exact (Kd.R_reads' HO_4.out).2.1); rintro e w' ⟨rfl, ⟨nd, rfl⟩⟩))
                  go_meet
                  case rel => exact ⟨_, (true), (by first | rfl | (simp; done) | (simp [*]; done)), H', ⟨by have := HJ10.out; first | omega | exact Nat.le_refl _⟩, ⟨by (with_reducible repeat (first | apply Kd.R_alloc | apply Kd.R_drewN | apply Kd.R_drew)); exact Kd.R_mono HO_4.out (fun _ hk => ⟨hk.1, hk.2.1⟩)⟩, ⟨by (with_reducible repeat (first | apply Kd.R_alloc | apply Kd.R_drewN | apply Kd.R_drew)); exact Kd.R_mono HO_7.out (fun _ hk => ⟨hk.1, hk.2.1⟩)⟩, ⟨by (with_reducible repeat (first | apply Kd.R_alloc | apply Kd.R_drewN | apply Kd.R_drew)); exact Kd.R_mono HO_574005.out (fun _ hk => ⟨hk.1.1, hk.1.2⟩)⟩, ⟨by (with_reducible repeat (first | refine blk_drewN ?_ _ | refine blk_drew ?_ | refine blk_alloc ?_ _)); exact BK551.out⟩, ⟨by (with_reducible repeat (first | refine blk_drewN ?_ _ | refine blk_drew ?_ | refine blk_alloc ?_ _)); exact BK573.out⟩, ⟨by repeat (first | (with_reducible first | exact HB.out | apply below_alloc | apply pw_below_drewN | apply below_drew1 | refine below_set ?_ GE551.out | refine below_set ?_ GE573.out) | exact HB.out)⟩⟩
            case rest =>
              clear HC37
              try clear c1
              try clear c2
              try clear p2
              try clear c3
              try clear c3b0
              try clear c4
              try clear c7
              try clear c17
              try clear c19
              try clear c21
              try clear c22
              try clear c23
              try clear c24
              try clear c25
              try clear c27
              try clear c32
              try clear c35
              try clear c42
              try clear c45
              try clear c45b0
              try clear c47
              try clear hcz13_0
              try clear hcz13_1
              try clear hcz13_2
              try clear hcz13_3
              try clear hcz13_4
              try clear hcz13_5
              try clear hcz15_0
              try clear hcz15_1
              try clear hcz15_2
              try clear hcz15_3
              try clear hcz15_4
              try clear hcz15_5
              try clear hcz19_0
              try clear hcz19_1
              try clear hcz19_2
              try clear hcz19_3
              try clear hcz19_4
              try clear hcz19_5
              try clear hcz23_0
              try clear hcz23_1
              try clear hcz23_2
              try clear hcz23_3
              try clear hcz23_4
              try clear hcz23_5
              try clear hcz43_0
              try clear hcz43_1
              try clear hcz43_2
              try clear hcz43_3
              try clear hcz43_4
              try clear hcz43_5
              try clear hcz5_0
              try clear hcz5_1
              try clear hcz5_2
              try clear hcz5_3
              try clear hcz5_4
              try clear hcz5_5
              try clear hfz13_0
              try clear hfz13_1
              try clear hfz13_2
              try clear hfz13_3
              try clear hfz13_4
              try clear hfz13_5
              try clear hfz15_0
              try clear hfz15_1
              try clear hfz15_2
              try clear hfz15_3
              try clear hfz15_4
              try clear hfz15_5
              try clear hfz19_0
              try clear hfz19_1
              try clear hfz19_2
              try clear hfz19_3
              try clear hfz19_4
              try clear hfz19_5
              try clear hfz23_0
              try clear hfz23_1
              try clear hfz23_2
              try clear hfz23_3
              try clear hfz23_4
              try clear hfz23_5
              try clear hfz43_0
              try clear hfz43_1
              try clear hfz43_2
              try clear hfz43_3
              try clear hfz43_4
              try clear hfz43_5
              try clear hfz5_0
              try clear hfz5_1
              try clear hfz5_2
              try clear hfz5_3
              try clear hfz5_4
              try clear hfz5_5
              try clear p2
              obtain ⟨kq, x61_36, rfl, HA, HJ36, HO_4, HO_7, HO_574005, BK551, BK573, HB⟩ := hcut
              have hl574005_36 := (Kd.R_reads' HO_574005.out).1
              rw [hl574005_36] at HO_574005
              (try simp only [hl574005_36])
              (try simp only [hl574005_36] at BK551)
              (try simp only [hl574005_36] at BK573)
              (try simp only [hl574005_36] at HO_4)
              (try simp only [hl574005_36] at HO_7)
              cases kq with
              | zero => exact absurd HA.out (by simp [laws_FnExactJobWords.j1])
              | succ kj36 =>
                have H := HA.out
                clear HA
                simp only [laws_FnExactJobWords.j1] at H
                by_cases c52 : x61_36 = true
                · subst c52
                  have H1 : (some false) = some r := by rw [if_pos rfl] at H; exact H
                  clear H
                  have H := H1
                  clear H1
                  obtain rfl := Option.some.inj H
                  go_wp2
                  go_ret
                  exact ⟨by first | rfl | (simp [errW_none, errW_some] <;> rfl) | (simp [*, errW_none, errW_some] <;> rfl), by repeat (first | (with_reducible first | exact HB.out | apply below_alloc | apply pw_below_drewN | apply below_drew1 | refine below_set ?_ GE551.out | refine below_set ?_ GE573.out) | exact HB.out)⟩
                · replace c52 := Bool.eq_false_iff.mpr c52
                  subst c52
                  have H1 : ((laws_markStringS.f kj36 t574 1).bind fun bt591 => ((laws_heldStringS.f kj36 bt591.2 1).bind fun t593 => (if t593 < 0 then (some false) else (if t593 = bt591.1 then ((laws_toJob.f kj36 a0_0 a0_1 a0_2 a0_3 a0_4 l0_5).bind fun bt594 => ((impl_JobWords.f kj36 bt594.1 bt594.2.1 bt594.2.2.1 bt594.2.2.2.1 bt594.2.2.2.2.1 bt594.2.2.2.2.2).bind fun bt602 => ((laws_eqStringS.f kj36 bt602.1 t561).bind fun t606 => (if t606 = true then (laws_FnExactJobWords.j2 kj36 bt591.2 bt591.1 (bt602.2 != t564)) else (laws_FnExactJobWords.j2 kj36 bt591.2 bt591.1 true))))) else (some false))))) = some r := by rw [if_neg (show ¬ (false = true) by decide)] at H; exact H
                  clear H
                  have H := H1
                  clear H1
                  replace H := Option.bind_eq_some_iff.mp H
                  obtain ⟨⟨t591, t592⟩, A530, H⟩ := H
                  replace H : ((laws_heldStringS.f kj36 t592 1).bind fun t593 => (if t593 < 0 then (some false) else (if t593 = t591 then ((laws_toJob.f kj36 a0_0 a0_1 a0_2 a0_3 a0_4 l0_5).bind fun bt594 => ((impl_JobWords.f kj36 bt594.1 bt594.2.1 bt594.2.2.1 bt594.2.2.2.1 bt594.2.2.2.2.1 bt594.2.2.2.2.2).bind fun bt602 => ((laws_eqStringS.f kj36 bt602.1 t561).bind fun t606 => (if t606 = true then (laws_FnExactJobWords.j2 kj36 t592 t591 (bt602.2 != t564)) else (laws_FnExactJobWords.j2 kj36 t592 t591 true))))) else (some false)))) = some r := H
                  have A53 := Aside0.mk A530
                  clear A530
                  replace H := Option.bind_eq_some_iff.mp H
                  obtain ⟨t593, A540, H⟩ := H
                  replace H : (if t593 < 0 then (some false) else (if t593 = t591 then ((laws_toJob.f kj36 a0_0 a0_1 a0_2 a0_3 a0_4 l0_5).bind fun bt594 => ((impl_JobWords.f kj36 bt594.1 bt594.2.1 bt594.2.2.1 bt594.2.2.2.1 bt594.2.2.2.2.1 bt594.2.2.2.2.2).bind fun bt602 => ((laws_eqStringS.f kj36 bt602.1 t561).bind fun t606 => (if t606 = true then (laws_FnExactJobWords.j2 kj36 t592 t591 (bt602.2 != t564)) else (laws_FnExactJobWords.j2 kj36 t592 t591 true))))) else (some false))) = some r := H
                  have A54 := Aside0.mk A540
                  clear A540
                  by_cases c55 : t593 < 0
                  · rw [if_pos c55] at H
                    have c55b0 : decide (t593 < 0) = true := decide_eq_true c55
                    clear c55
                    obtain rfl := Option.some.inj H
                    obtain ⟨Ao56, co56, eo56⟩ := Kd.R_slice HO_7.out
                    subst eo56
                    go_wp2_with (first | ((with_reducible refine gate_callee (f := 26) rfl ?_); refine goesL_ (some 64) rfl rfl Tryd.func26 (by kernel_rfl) rfl #[.slice Ao56 t574.length co56, .int .i64 1] rfl (by (try simp only [List.map_toArray, List.map_cons, List.map_nil]); first | done | rfl | (simp only [List.length_drop, List.length_take]; rfl)) ?_; (with_reducible refine (laws_markStringS.calls kj36 (fun k_ => some k_ = (.slice Ao56 t574.length co56 : Value).ownBlock) (.slice Ao56 t574.length co56) t574 1 t591 t592 w _ ?side1 ?side2 A53.out).mono ?_); (case side1 => repeat (first | (with_reducible first | exact HB.out | apply below_alloc | apply pw_below_drewN | apply below_drew1 | refine below_set ?_ GE551.out | refine below_set ?_ GE573.out) | exact HB.out)); (case side2 => exact Kd.R_tight rfl HO_7.out); rintro e w57 ⟨rfl, hy0, hb, hkp⟩; refine ⟨_, rfl, ?_⟩; have n0_ := Aside0.mk (Kd.R_mono (ok' := fun k_ => some k_ ≠ (.slice Ao56 t574.length co56 : Value).ownBlock ∧ some k_ ≠ (.slice Ao24 t589.length co24 : Value).ownBlock) (Kd.R_keptB (HO_4.out) hkp (fun k_ hk_ hs_ => (hk_.1) hs_)) (fun k_ hk_ => ⟨hk_.1.1, hk_.1.2⟩)); have n1_ := Aside0.mk (Kd.R_reok rfl hy0 (fun k_ e_ => HO_7.out.1 k_ e_)); have n2_ := Aside0.mk (Kd.R_mono (ok' := fun k_ => some k_ ≠ (v562 : Value).ownBlock ∧ some k_ ≠ (.slice Ao56 t574.length co56 : Value).ownBlock) (Kd.R_keptB (HO_574005.out) hkp (fun k_ hk_ hs_ => (hk_.2) hs_)) (fun k_ hk_ => ⟨hk_.1.1, hk_.1.2⟩)); have n3_ := Aside0.mk (blk_kept (by (with_reducible repeat (first | refine blk_drewN ?_ _ | refine blk_drew ?_ | refine blk_alloc ?_ _)); exact BK551.out) hkp (fun hs_ => (fun e_ => (Kd.R_ne HO_7.out BK551.out (by decide)) e_) hs_)); have n4_ := Aside0.mk (blk_kept (by (with_reducible repeat (first | refine blk_drewN ?_ _ | refine blk_drew ?_ | refine blk_alloc ?_ _)); exact BK573.out) hkp (fun hs_ => (fun e_ => (Kd.R_ne HO_7.out BK573.out (by decide)) e_) hs_)); have n5_ := Aside0.mk (hb); clear HO_4; clear HO_7; clear HO_574005; clear BK551; clear BK573; clear HB; have HO_4 := n0_; have HO_7 := n1_; have HO_574005 := n2_; have BK551 := n3_; have BK573 := n4_; have HB := n5_; clear n0_ n1_ n2_ n3_ n4_ n5_; (try clear hb); (try clear hkp); (try clear hy0)) | ((with_reducible refine gate_callee (f := 27) rfl ?_); refine goesL_ (some 67) rfl rfl Tryd.func27 (by kernel_rfl) rfl #[.slice Ao56 t592.length co56, .int .i64 1] rfl (by (try simp only [List.map_toArray, List.map_cons, List.map_nil]); first | done | (rw [show t592.length = t574.length from (Kd.R_reads' HO_7.out).1.symm] <;> rfl) | rfl | (simp only [List.length_drop, List.length_take]; rfl)) ?_; (with_reducible refine (laws_heldStringS.calls kj36 _ _ t592 1 t593 _ ?side1 ?side2 A54.out).mono ?_); (case side1 => repeat (first | exact (Kd.R_reads' HO_7.out).2.2 | (with_reducible refine Kd.C_alloc ?_ _) | (with_reducible refine Kd.C_drewN ?_ _) | (with_reducible refine Kd.C_drew ?_))); (case side2 => rw [show t592.length = t574.length from (Kd.R_reads' HO_7.out).1.symm]; exact (Kd.R_reads' HO_7.out).2.1); rintro e w58 ⟨rfl, hb⟩; refine ⟨_, rfl, ?_⟩; have n0_ := Aside0.mk (Kd.R_below (by (with_reducible repeat (first | apply Kd.R_alloc | apply Kd.R_drewN | apply Kd.R_drew)); exact HO_4.out) hb); have n1_ := Aside0.mk (Kd.R_below (by (with_reducible repeat (first | apply Kd.R_alloc | apply Kd.R_drewN | apply Kd.R_drew)); exact HO_7.out) hb); have n2_ := Aside0.mk (Kd.R_below (by (with_reducible repeat (first | apply Kd.R_alloc | apply Kd.R_drewN | apply Kd.R_drew)); exact HO_574005.out) hb); have n3_ := Aside0.mk (blk_below (g := gb551) (o := .cells #[.int .i64 a0_0, .string a0_1, .string a0_2, .int .i64 a0_3, .int .i64 a0_4, .slice A0_5 l0_5.length c0_5] 35 (0, 0)) (by (with_reducible repeat (first | refine blk_drewN ?_ _ | refine blk_drew ?_ | refine blk_alloc ?_ _)); exact BK551.out) hb); have n4_ := Aside0.mk (blk_below (g := gb573) (o := .cells #[.int .i64 t565, .string t566, .string t567, .int .i64 t568, .int .i64 t569, .slice Ao24 t589.length co24] 38 (0, 0)) (by (with_reducible repeat (first | refine blk_drewN ?_ _ | refine blk_drew ?_ | refine blk_alloc ?_ _)); exact BK573.out) hb); have n5_ := Aside0.mk (below_step (by repeat (first | (with_reducible first | exact HB.out | apply below_alloc | apply pw_below_drewN | apply below_drew1 | refine below_set ?_ GE551.out | refine below_set ?_ GE573.out) | exact HB.out)) hb); clear HO_4; clear HO_7; clear HO_574005; clear BK551; clear BK573; clear HB; have HO_4 := n0_; have HO_7 := n1_; have HO_574005 := n2_; have BK551 := n3_; have BK573 := n4_; have HB := n5_; clear n0_ n1_ n2_ n3_ n4_ n5_; (try clear hb); (try clear hb2); (try clear hk); (try clear hi)))
                    go_ret
                    exact ⟨by first | rfl | (simp [errW_none, errW_some] <;> rfl) | (simp [*, errW_none, errW_some] <;> rfl), by repeat (first | (with_reducible first | exact HB.out | apply below_alloc | apply pw_below_drewN | apply below_drew1 | refine below_set ?_ GE551.out | refine below_set ?_ GE573.out) | exact HB.out)⟩
                  · rw [if_neg c55] at H
                    have c55b0 : decide (t593 < 0) = false := decide_eq_false c55
                    clear c55
                    by_cases c59 : t593 = t591
                    · rw [if_pos c59] at H
                      have c59b0 : (t593 == t591) = true := beq_iff_eq.mpr c59
                      have c59b1 : (t593 != t591) = false := bne_eq_false_iff_eq.mpr c59
                      clear c59
                      replace H := Option.bind_eq_some_iff.mp H
                      obtain ⟨⟨t594, t595, t596, t597, t598, t599⟩, A600, H⟩ := H
                      replace H : ((impl_JobWords.f kj36 t594 t595 t596 t597 t598 t599).bind fun bt602 => ((laws_eqStringS.f kj36 bt602.1 t561).bind fun t606 => (if t606 = true then (laws_FnExactJobWords.j2 kj36 t592 t591 (bt602.2 != t564)) else (laws_FnExactJobWords.j2 kj36 t592 t591 true)))) = some r := H
                      have A60 := Aside0.mk A600
                      clear A600
                      replace H := Option.bind_eq_some_iff.mp H
                      obtain ⟨⟨t602, t605⟩, A610, H⟩ := H
                      replace H : ((laws_eqStringS.f kj36 t602 t561).bind fun t606 => (if t606 = true then (laws_FnExactJobWords.j2 kj36 t592 t591 (t605 != t564)) else (laws_FnExactJobWords.j2 kj36 t592 t591 true))) = some r := H
                      have A61 := Aside0.mk A610
                      clear A610
                      have HC62 := Aside0.mk H
                      clear H
                      obtain ⟨Ao63, co63, eo63⟩ := Kd.R_slice HO_7.out
                      subst eo63
                      go_upto_region 25 with (first | ((with_reducible refine gate_callee (f := 26) rfl ?_); refine goesL_ (some 64) rfl rfl Tryd.func26 (by kernel_rfl) rfl #[.slice Ao63 t574.length co63, .int .i64 1] rfl (by (try simp only [List.map_toArray, List.map_cons, List.map_nil]); first | done | rfl | (simp only [List.length_drop, List.length_take]; rfl)) ?_; (with_reducible refine (laws_markStringS.calls kj36 (fun k_ => some k_ = (.slice Ao63 t574.length co63 : Value).ownBlock) (.slice Ao63 t574.length co63) t574 1 t591 t592 w _ ?side1 ?side2 A53.out).mono ?_); (case side1 => repeat (first | (with_reducible first | exact HB.out | apply below_alloc | apply pw_below_drewN | apply below_drew1 | refine below_set ?_ GE551.out | refine below_set ?_ GE573.out) | exact HB.out)); (case side2 => exact Kd.R_tight rfl HO_7.out); rintro e w64 ⟨rfl, hy0, hb, hkp⟩; refine ⟨_, rfl, ?_⟩; have n0_ := Aside0.mk (Kd.R_mono (ok' := fun k_ => some k_ ≠ (.slice Ao63 t574.length co63 : Value).ownBlock ∧ some k_ ≠ (.slice Ao24 t589.length co24 : Value).ownBlock) (Kd.R_keptB (HO_4.out) hkp (fun k_ hk_ hs_ => (hk_.1) hs_)) (fun k_ hk_ => ⟨hk_.1.1, hk_.1.2⟩)); have n1_ := Aside0.mk (Kd.R_reok rfl hy0 (fun k_ e_ => HO_7.out.1 k_ e_)); have n2_ := Aside0.mk (Kd.R_mono (ok' := fun k_ => some k_ ≠ (v562 : Value).ownBlock ∧ some k_ ≠ (.slice Ao63 t574.length co63 : Value).ownBlock) (Kd.R_keptB (HO_574005.out) hkp (fun k_ hk_ hs_ => (hk_.2) hs_)) (fun k_ hk_ => ⟨hk_.1.1, hk_.1.2⟩)); have n3_ := Aside0.mk (blk_kept (by (with_reducible repeat (first | refine blk_drewN ?_ _ | refine blk_drew ?_ | refine blk_alloc ?_ _)); exact BK551.out) hkp (fun hs_ => (fun e_ => (Kd.R_ne HO_7.out BK551.out (by decide)) e_) hs_)); have n4_ := Aside0.mk (blk_kept (by (with_reducible repeat (first | refine blk_drewN ?_ _ | refine blk_drew ?_ | refine blk_alloc ?_ _)); exact BK573.out) hkp (fun hs_ => (fun e_ => (Kd.R_ne HO_7.out BK573.out (by decide)) e_) hs_)); have n5_ := Aside0.mk (hb); clear HO_4; clear HO_7; clear HO_574005; clear BK551; clear BK573; clear HB; have HO_4 := n0_; have HO_7 := n1_; have HO_574005 := n2_; have BK551 := n3_; have BK573 := n4_; have HB := n5_; clear n0_ n1_ n2_ n3_ n4_ n5_; (try clear hb); (try clear hkp); (try clear hy0)) | ((with_reducible refine gate_callee (f := 27) rfl ?_); refine goesL_ (some 67) rfl rfl Tryd.func27 (by kernel_rfl) rfl #[.slice Ao63 t592.length co63, .int .i64 1] rfl (by (try simp only [List.map_toArray, List.map_cons, List.map_nil]); first | done | (rw [show t592.length = t574.length from (Kd.R_reads' HO_7.out).1.symm] <;> rfl) | rfl | (simp only [List.length_drop, List.length_take]; rfl)) ?_; (with_reducible refine (laws_heldStringS.calls kj36 _ _ t592 1 t593 _ ?side1 ?side2 A54.out).mono ?_); (case side1 => repeat (first | exact (Kd.R_reads' HO_7.out).2.2 | (with_reducible refine Kd.C_alloc ?_ _) | (with_reducible refine Kd.C_drewN ?_ _) | (with_reducible refine Kd.C_drew ?_))); (case side2 => rw [show t592.length = t574.length from (Kd.R_reads' HO_7.out).1.symm]; exact (Kd.R_reads' HO_7.out).2.1); rintro e w65 ⟨rfl, hb⟩; refine ⟨_, rfl, ?_⟩; have n0_ := Aside0.mk (Kd.R_below (by (with_reducible repeat (first | apply Kd.R_alloc | apply Kd.R_drewN | apply Kd.R_drew)); exact HO_4.out) hb); have n1_ := Aside0.mk (Kd.R_below (by (with_reducible repeat (first | apply Kd.R_alloc | apply Kd.R_drewN | apply Kd.R_drew)); exact HO_7.out) hb); have n2_ := Aside0.mk (Kd.R_below (by (with_reducible repeat (first | apply Kd.R_alloc | apply Kd.R_drewN | apply Kd.R_drew)); exact HO_574005.out) hb); have n3_ := Aside0.mk (blk_below (g := gb551) (o := .cells #[.int .i64 a0_0, .string a0_1, .string a0_2, .int .i64 a0_3, .int .i64 a0_4, .slice A0_5 l0_5.length c0_5] 35 (0, 0)) (by (with_reducible repeat (first | refine blk_drewN ?_ _ | refine blk_drew ?_ | refine blk_alloc ?_ _)); exact BK551.out) hb); have n4_ := Aside0.mk (blk_below (g := gb573) (o := .cells #[.int .i64 t565, .string t566, .string t567, .int .i64 t568, .int .i64 t569, .slice Ao24 t589.length co24] 38 (0, 0)) (by (with_reducible repeat (first | refine blk_drewN ?_ _ | refine blk_drew ?_ | refine blk_alloc ?_ _)); exact BK573.out) hb); have n5_ := Aside0.mk (below_step (by repeat (first | (with_reducible first | exact HB.out | apply below_alloc | apply pw_below_drewN | apply below_drew1 | refine below_set ?_ GE551.out | refine below_set ?_ GE573.out) | exact HB.out)) hb); clear HO_4; clear HO_7; clear HO_574005; clear BK551; clear BK573; clear HB; have HO_4 := n0_; have HO_7 := n1_; have HO_574005 := n2_; have BK551 := n3_; have BK573 := n4_; have HB := n5_; clear n0_ n1_ n2_ n3_ n4_ n5_; (try clear hb); (try clear hb2); (try clear hk); (try clear hi); have hnb66 := NB551_573.out; have hnc66 := NB573_551.out; have hcz67_0 : w65.cell? ⟨gb551, 0, none⟩ = some (.int .i64 a0_0) := (blk_cell BK551.out 0).trans rfl; have hcz67_1 : w65.cell? ⟨gb551, 1, none⟩ = some (.string a0_1) := (blk_cell BK551.out 1).trans rfl; have hcz67_2 : w65.cell? ⟨gb551, 2, none⟩ = some (.string a0_2) := (blk_cell BK551.out 2).trans rfl; have hcz67_3 : w65.cell? ⟨gb551, 3, none⟩ = some (.int .i64 a0_3) := (blk_cell BK551.out 3).trans rfl; have hcz67_4 : w65.cell? ⟨gb551, 4, none⟩ = some (.int .i64 a0_4) := (blk_cell BK551.out 4).trans rfl; have hcz67_5 : w65.cell? ⟨gb551, 5, none⟩ = some (.slice A0_5 l0_5.length c0_5) := (blk_cell BK551.out 5).trans rfl; have hfz67_0 := blk_frozen BK551.out 0; have hfz67_1 := blk_frozen BK551.out 1; have hfz67_2 := blk_frozen BK551.out 2; have hfz67_3 := blk_frozen BK551.out 3; have hfz67_4 := blk_frozen BK551.out 4; have hfz67_5 := blk_frozen BK551.out 5) | ((with_reducible refine gate_callee (f := 19) rfl ?_); refine goesL_ (some 75) rfl rfl Tryd.func19 (by kernel_rfl) rfl #[.agg #[.int .i64 a0_0, .string a0_1, .string a0_2, .int .i64 a0_3, .int .i64 a0_4, .slice A0_5 l0_5.length c0_5]] rfl (by (try simp only [List.map_toArray, List.map_cons, List.map_nil]); first | done | rfl | (simp only [List.length_drop, List.length_take]; rfl)) ?_; (with_reducible refine (laws_toJob.calls kj36 a0_0 a0_1 a0_2 a0_3 a0_4 _ _ l0_5 t594 t595 t596 t597 t598 t599 _ ?side1 ?side2 A60.out).mono ?_); (case side1 => repeat (first | exact (Kd.C_below HR0_5.out HB.out) | (with_reducible refine Kd.C_alloc ?_ _) | (with_reducible refine Kd.C_drewN ?_ _) | (with_reducible refine Kd.C_drew ?_))); (case side2 => exact HC0_5.out); rintro e w68 ⟨v600, rfl, ho0, hb⟩; refine ⟨_, rfl, ?_⟩; have n0_ := Aside0.mk (Kd.R_elder' (by (with_reducible repeat (first | apply Kd.R_alloc | apply Kd.R_drewN | apply Kd.R_drew)); exact HO_4.out) (Kd.R_base ho0) hb); have n1_ := Aside0.mk (Kd.R_elder' (by (with_reducible repeat (first | apply Kd.R_alloc | apply Kd.R_drewN | apply Kd.R_drew)); exact HO_7.out) (Kd.R_base ho0) hb); have n2_ := Aside0.mk (Kd.R_elder' (by (with_reducible repeat (first | apply Kd.R_alloc | apply Kd.R_drewN | apply Kd.R_drew)); exact HO_574005.out) (Kd.R_base ho0) hb); have n3_ := Aside0.mk (Kd.R_lower (Kd.R_new' (Kd.R_new' (Kd.R_new' ho0 (Kd.R_lt (by (with_reducible repeat (first | apply Kd.R_alloc | apply Kd.R_drewN | apply Kd.R_drew)); exact HO_4.out))) (Kd.R_lt (by (with_reducible repeat (first | apply Kd.R_alloc | apply Kd.R_drewN | apply Kd.R_drew)); exact HO_7.out))) (Kd.R_lt (by (with_reducible repeat (first | apply Kd.R_alloc | apply Kd.R_drewN | apply Kd.R_drew)); exact HO_574005.out))) (below_size (by repeat (first | (with_reducible first | exact HB.out | apply below_alloc | apply pw_below_drewN | apply below_drew1 | refine below_set ?_ GE551.out | refine below_set ?_ GE573.out) | exact HB.out)))); have n4_ := Aside0.mk (blk_below (g := gb551) (o := .cells #[.int .i64 a0_0, .string a0_1, .string a0_2, .int .i64 a0_3, .int .i64 a0_4, .slice A0_5 l0_5.length c0_5] 35 (0, 0)) (by (with_reducible repeat (first | refine blk_drewN ?_ _ | refine blk_drew ?_ | refine blk_alloc ?_ _)); exact BK551.out) hb); have n5_ := Aside0.mk (blk_below (g := gb573) (o := .cells #[.int .i64 t565, .string t566, .string t567, .int .i64 t568, .int .i64 t569, .slice Ao24 t589.length co24] 38 (0, 0)) (by (with_reducible repeat (first | refine blk_drewN ?_ _ | refine blk_drew ?_ | refine blk_alloc ?_ _)); exact BK573.out) hb); have n6_ := Aside0.mk (below_step (by repeat (first | (with_reducible first | exact HB.out | apply below_alloc | apply pw_below_drewN | apply below_drew1 | refine below_set ?_ GE551.out | refine below_set ?_ GE573.out) | exact HB.out)) hb); clear HO_4; clear HO_7; clear HO_574005; clear BK551; clear BK573; clear HB; have HO_4 := n0_; have HO_7 := n1_; have HO_574005 := n2_; have HO601 := n3_; have BK551 := n4_; have BK573 := n5_; have HB := n6_; clear n0_ n1_ n2_ n3_ n4_ n5_ n6_; (try clear hb); (try clear hb2); (try clear hk); (try clear hi); (try clear ho0); obtain ⟨Ao69, co69, eo69⟩ := Kd.R_slice HO601.out; subst eo69) | ((with_reducible refine gate_callee (f := 23) rfl ?_); refine goesL_ (some 76) rfl rfl Tryd.func23 (by kernel_rfl) rfl #[.agg #[.int .i64 t594, .string t595, .string t596, .int .i64 t597, .int .i64 t598, .slice Ao69 t599.length co69]] rfl (by (try simp only [List.map_toArray, List.map_cons, List.map_nil]); first | done | rfl | (simp only [List.length_drop, List.length_take]; rfl)) ?_; (with_reducible refine (impl_JobWords.calls kj36 t594 t595 t596 t597 t598 _ _ t599 t602 t605 _ ?side1 ?side2 A61.out).mono ?_); (case side1 => repeat (first | exact (Kd.R_reads' HO601.out).2.2 | (with_reducible refine Kd.C_alloc ?_ _) | (with_reducible refine Kd.C_drewN ?_ _) | (with_reducible refine Kd.C_drew ?_))); (case side2 => exact (Kd.R_reads' HO601.out).2.1); rintro e w70 ⟨v603, rfl, ho0, hb⟩; refine ⟨_, rfl, ?_⟩; have n0_ := Aside0.mk (Kd.R_elder' (by (with_reducible repeat (first | apply Kd.R_alloc | apply Kd.R_drewN | apply Kd.R_drew)); exact HO_4.out) (Kd.R_base ho0) hb); have n1_ := Aside0.mk (Kd.R_elder' (by (with_reducible repeat (first | apply Kd.R_alloc | apply Kd.R_drewN | apply Kd.R_drew)); exact HO_7.out) (Kd.R_base ho0) hb); have n2_ := Aside0.mk (Kd.R_elder' (by (with_reducible repeat (first | apply Kd.R_alloc | apply Kd.R_drewN | apply Kd.R_drew)); exact HO_574005.out) (Kd.R_base ho0) hb); have n3_ := Aside0.mk (Kd.R_elder' (by (with_reducible repeat (first | apply Kd.R_alloc | apply Kd.R_drewN | apply Kd.R_drew)); exact HO601.out) (Kd.R_base ho0) hb); have n4_ := Aside0.mk (Kd.R_lower (Kd.R_new' (Kd.R_new' (Kd.R_new' (Kd.R_new' ho0 (Kd.R_lt (by (with_reducible repeat (first | apply Kd.R_alloc | apply Kd.R_drewN | apply Kd.R_drew)); exact HO_4.out))) (Kd.R_lt (by (with_reducible repeat (first | apply Kd.R_alloc | apply Kd.R_drewN | apply Kd.R_drew)); exact HO_7.out))) (Kd.R_lt (by (with_reducible repeat (first | apply Kd.R_alloc | apply Kd.R_drewN | apply Kd.R_drew)); exact HO_574005.out))) (Kd.R_lt (by (with_reducible repeat (first | apply Kd.R_alloc | apply Kd.R_drewN | apply Kd.R_drew)); exact HO601.out))) (below_size (by repeat (first | (with_reducible first | exact HB.out | apply below_alloc | apply pw_below_drewN | apply below_drew1 | refine below_set ?_ GE551.out | refine below_set ?_ GE573.out) | exact HB.out)))); have n5_ := Aside0.mk (blk_below (g := gb551) (o := .cells #[.int .i64 a0_0, .string a0_1, .string a0_2, .int .i64 a0_3, .int .i64 a0_4, .slice A0_5 l0_5.length c0_5] 35 (0, 0)) (by (with_reducible repeat (first | refine blk_drewN ?_ _ | refine blk_drew ?_ | refine blk_alloc ?_ _)); exact BK551.out) hb); have n6_ := Aside0.mk (blk_below (g := gb573) (o := .cells #[.int .i64 t565, .string t566, .string t567, .int .i64 t568, .int .i64 t569, .slice Ao24 t589.length co24] 38 (0, 0)) (by (with_reducible repeat (first | refine blk_drewN ?_ _ | refine blk_drew ?_ | refine blk_alloc ?_ _)); exact BK573.out) hb); have n7_ := Aside0.mk (below_step (by repeat (first | (with_reducible first | exact HB.out | apply below_alloc | apply pw_below_drewN | apply below_drew1 | refine below_set ?_ GE551.out | refine below_set ?_ GE573.out) | exact HB.out)) hb); clear HO_4; clear HO_7; clear HO_574005; clear HO601; clear BK551; clear BK573; clear HB; have HO_4 := n0_; have HO_7 := n1_; have HO_574005 := n2_; have HO601 := n3_; have HO604 := n4_; have BK551 := n5_; have BK573 := n6_; have HB := n7_; clear n0_ n1_ n2_ n3_ n4_ n5_ n6_ n7_; (try clear hb); (try clear hb2); (try clear hk); (try clear hi); (try clear ho0)))
                      (try simp only [Act.put, List.setIfInBounds_toArray, List.set_cons_zero, List.set_cons_succ])
                      go_cut [87] (fun v87 wc => ∃ (kq : Nat) (x87_61 : Bool), v87 = .bool x87_61 ∧ Aside0 (laws_FnExactJobWords.j2 kq t592 t591 x87_61 = some r) ∧ Aside0 (kq ≤ kj36) ∧ Aside0 (Kd.R Kd.string 9 wc w.heap.size (fun k_ => some k_ ≠ ((.slice Ao24 t589.length co24) : Value).ownBlock) (.slice Ao63 t574.length co63) t592) ∧ Aside0 (Kd.R Kd.string 9 wc w.heap.size (fun k_ => some k_ ≠ ((.slice Ao63 t574.length co63) : Value).ownBlock) (.slice Ao24 t589.length co24) t589) ∧ Aside0 (wc.heap[gb551]? = some (.cells #[.int .i64 a0_0, .string a0_1, .string a0_2, .int .i64 a0_3, .int .i64 a0_4, (.slice A0_5 l0_5.length c0_5)] 35 (0, 0))) ∧ Aside0 (wc.heap[gb573]? = some (.cells #[.int .i64 t565, .string t566, .string t567, .int .i64 t568, .int .i64 t569, (.slice Ao24 t589.length co24)] 38 (0, 0))) ∧ Aside0 (Below w.heap.size w wc))
                      case first =>
                        have H := HC62.out
                        clear HC62
                        replace H := Option.bind_eq_some_iff.mp H
                        obtain ⟨t606, A710, H⟩ := H
                        replace H : (if t606 = true then (laws_FnExactJobWords.j2 kj36 t592 t591 (t605 != t564)) else (laws_FnExactJobWords.j2 kj36 t592 t591 true)) = some r := H
                        have A71 := Aside0.mk A710
                        clear A710
                        by_cases c72 : t606 = true
                        · subst c72
                          have H1 : (laws_FnExactJobWords.j2 kj36 t592 t591 (t605 != t564)) = some r := by rw [if_pos rfl] at H; exact H
                          clear H
                          have H := H1
                          clear H1
                          have H' := Aside0.mk H
                          clear H
                          obtain ⟨Ao73, co73, eo73⟩ := Kd.R_slice HO604.out
                          subst eo73
                          obtain ⟨Ao74, co74, eo74⟩ := Kd.R_slice HO_4.out
                          subst eo74
                          go_wp2_with (first | ((with_reducible refine gate_callee (f := 24) rfl ?_); refine goesL_ (some 81) rfl rfl Tryd.func24 (by kernel_rfl) rfl #[.slice Ao73 t602.length co73, .slice Ao74 t561.length co74] rfl (by (try simp only [List.map_toArray, List.map_cons, List.map_nil]); first | done | rfl | (simp only [List.length_drop, List.length_take]; rfl)) ?_; (with_reducible refine (laws_eqStringS.calls kj36 _ _ t602 _ _ t561 true _ ?side1 ?side2 ?side3 ?side4 A71.out).mono ?_); (case side1 => repeat (first | exact (Kd.R_reads' HO604.out).2.2 | (with_reducible refine Kd.C_alloc ?_ _) | (with_reducible refine Kd.C_drewN ?_ _) | (with_reducible refine Kd.C_drew ?_))); (case side2 => exact (Kd.R_reads' HO604.out).2.1); (case side3 => repeat (first | exact (Kd.R_reads' HO_4.out).2.2 | (with_reducible refine Kd.C_alloc ?_ _) | (with_reducible refine Kd.C_drewN ?_ _) | (with_reducible refine Kd.C_drew ?_))); (case side4 => exact (Kd.R_reads' HO_4.out).2.1); rintro e w' ⟨rfl, ⟨nd, rfl⟩⟩; refine ⟨_, rfl, ?_⟩))
                          go_meet
                          case rel => exact ⟨_, ((t605 != t564)), (by first | rfl | (simp; done) | (simp [*]; done)), H', ⟨by have := HJ10.out; have := HJ36.out; first | omega | exact Nat.le_refl _⟩, ⟨by (try simp only [hl574005_36]); (with_reducible repeat (first | apply Kd.R_alloc | apply Kd.R_drewN | apply Kd.R_drew)); exact Kd.R_mono HO_7.out (fun _ hk => hk.1.1.2)⟩, ⟨by (try simp only [hl574005_36]); (with_reducible repeat (first | apply Kd.R_alloc | apply Kd.R_drewN | apply Kd.R_drew)); exact Kd.R_mono HO_574005.out (fun _ hk => hk.1.1.2)⟩, ⟨by (try simp only [hl574005_36]); (with_reducible repeat (first | refine blk_drewN ?_ _ | refine blk_drew ?_ | refine blk_alloc ?_ _)); exact BK551.out⟩, ⟨by (try simp only [hl574005_36]); (with_reducible repeat (first | refine blk_drewN ?_ _ | refine blk_drew ?_ | refine blk_alloc ?_ _)); exact BK573.out⟩, ⟨by repeat (first | (with_reducible first | exact HB.out | apply below_alloc | apply pw_below_drewN | apply below_drew1 | refine below_set ?_ GE551.out | refine below_set ?_ GE573.out) | exact HB.out)⟩⟩
                        · replace c72 := Bool.eq_false_iff.mpr c72
                          subst c72
                          have H1 : (laws_FnExactJobWords.j2 kj36 t592 t591 true) = some r := by rw [if_neg (show ¬ (false = true) by decide)] at H; exact H
                          clear H
                          have H := H1
                          clear H1
                          have H' := Aside0.mk H
                          clear H
                          obtain ⟨Ao75, co75, eo75⟩ := Kd.R_slice HO604.out
                          subst eo75
                          obtain ⟨Ao76, co76, eo76⟩ := Kd.R_slice HO_4.out
                          subst eo76
                          go_wp2_with (first | ((with_reducible refine gate_callee (f := 24) rfl ?_); refine goesL_ (some 81) rfl rfl Tryd.func24 (by kernel_rfl) rfl #[.slice Ao75 t602.length co75, .slice Ao76 t561.length co76] rfl (by (try simp only [List.map_toArray, List.map_cons, List.map_nil]); first | done | rfl | (simp only [List.length_drop, List.length_take]; rfl)) ?_; (with_reducible refine (laws_eqStringS.calls kj36 _ _ t602 _ _ t561 false _ ?side1 ?side2 ?side3 ?side4 A71.out).mono ?_); (case side1 => repeat (first | exact (Kd.R_reads' HO604.out).2.2 | (with_reducible refine Kd.C_alloc ?_ _) | (with_reducible refine Kd.C_drewN ?_ _) | (with_reducible refine Kd.C_drew ?_))); (case side2 => exact (Kd.R_reads' HO604.out).2.1); (case side3 => repeat (first | exact (Kd.R_reads' HO_4.out).2.2 | (with_reducible refine Kd.C_alloc ?_ _) | (with_reducible refine Kd.C_drewN ?_ _) | (with_reducible refine Kd.C_drew ?_))); (case side4 => exact (Kd.R_reads' HO_4.out).2.1); rintro e w' ⟨rfl, ⟨nd, rfl⟩⟩; refine ⟨_, rfl, ?_⟩))
                          go_meet
                          case rel => exact ⟨_, (true), (by first | rfl | (simp; done) | (simp [*]; done)), H', ⟨by have := HJ10.out; have := HJ36.out; first | omega | exact Nat.le_refl _⟩, ⟨by (try simp only [hl574005_36]); (with_reducible repeat (first | apply Kd.R_alloc | apply Kd.R_drewN | apply Kd.R_drew)); exact Kd.R_mono HO_7.out (fun _ hk => hk.1.1.2)⟩, ⟨by (try simp only [hl574005_36]); (with_reducible repeat (first | apply Kd.R_alloc | apply Kd.R_drewN | apply Kd.R_drew)); exact Kd.R_mono HO_574005.out (fun _ hk => hk.1.1.2)⟩, ⟨by (try simp only [hl574005_36]); (with_reducible repeat (first | refine blk_drewN ?_ _ | refine blk_drew ?_ | refine blk_alloc ?_ _)); exact BK551.out⟩, ⟨by (try simp only [hl574005_36]); (with_reducible repeat (first | refine blk_drewN ?_ _ | refine blk_drew ?_ | refine blk_alloc ?_ _)); exact BK573.out⟩, ⟨by repeat (first | (with_reducible first | exact HB.out | apply below_alloc | apply pw_below_drewN | apply below_drew1 | refine below_set ?_ GE551.out | refine below_set ?_ GE573.out) | exact HB.out)⟩⟩
                      case rest =>
                        clear HC62
                        try clear c1
                        try clear c2
                        try clear p2
                        try clear c3
                        try clear c3b0
                        try clear c4
                        try clear c5
                        try clear c6
                        try clear c7
                        try clear c17
                        try clear c19
                        try clear c21
                        try clear c22
                        try clear c23
                        try clear c24
                        try clear c25
                        try clear c26
                        try clear c27
                        try clear c32
                        try clear c35
                        try clear c42
                        try clear c45
                        try clear c45b0
                        try clear c47
                        try clear c52
                        try clear c55
                        try clear c55b0
                        try clear c59
                        try clear c59b0
                        try clear c59b1
                        try clear c66
                        try clear c72
                        try clear hcz13_0
                        try clear hcz13_1
                        try clear hcz13_2
                        try clear hcz13_3
                        try clear hcz13_4
                        try clear hcz13_5
                        try clear hcz15_0
                        try clear hcz15_1
                        try clear hcz15_2
                        try clear hcz15_3
                        try clear hcz15_4
                        try clear hcz15_5
                        try clear hcz19_0
                        try clear hcz19_1
                        try clear hcz19_2
                        try clear hcz19_3
                        try clear hcz19_4
                        try clear hcz19_5
                        try clear hcz23_0
                        try clear hcz23_1
                        try clear hcz23_2
                        try clear hcz23_3
                        try clear hcz23_4
                        try clear hcz23_5
                        try clear hcz43_0
                        try clear hcz43_1
                        try clear hcz43_2
                        try clear hcz43_3
                        try clear hcz43_4
                        try clear hcz43_5
                        try clear hcz5_0
                        try clear hcz5_1
                        try clear hcz5_2
                        try clear hcz5_3
                        try clear hcz5_4
                        try clear hcz5_5
                        try clear hcz67_0
                        try clear hcz67_1
                        try clear hcz67_2
                        try clear hcz67_3
                        try clear hcz67_4
                        try clear hcz67_5
                        try clear hfz13_0
                        try clear hfz13_1
                        try clear hfz13_2
                        try clear hfz13_3
                        try clear hfz13_4
                        try clear hfz13_5
                        try clear hfz15_0
                        try clear hfz15_1
                        try clear hfz15_2
                        try clear hfz15_3
                        try clear hfz15_4
                        try clear hfz15_5
                        try clear hfz19_0
                        try clear hfz19_1
                        try clear hfz19_2
                        try clear hfz19_3
                        try clear hfz19_4
                        try clear hfz19_5
                        try clear hfz23_0
                        try clear hfz23_1
                        try clear hfz23_2
                        try clear hfz23_3
                        try clear hfz23_4
                        try clear hfz23_5
                        try clear hfz43_0
                        try clear hfz43_1
                        try clear hfz43_2
                        try clear hfz43_3
                        try clear hfz43_4
                        try clear hfz43_5
                        try clear hfz5_0
                        try clear hfz5_1
                        try clear hfz5_2
                        try clear hfz5_3
                        try clear hfz5_4
                        try clear hfz5_5
                        try clear hfz67_0
                        try clear hfz67_1
                        try clear hfz67_2
                        try clear hfz67_3
                        try clear hfz67_4
                        try clear hfz67_5
                        try clear p2
                        obtain ⟨kq, x87_61, rfl, HA, HJ61, HO_7, HO_574005, BK551, BK573, HB⟩ := hcut
                        have hl7_61 := (Kd.R_reads' HO_7.out).1
                        rw [hl7_61] at HO_7
                        (try simp only [hl7_61])
                        (try simp only [hl7_61] at BK551)
                        (try simp only [hl7_61] at BK573)
                        (try simp only [hl7_61] at HO_574005)
                        cases kq with
                        | zero => exact absurd HA.out (by simp [laws_FnExactJobWords.j2])
                        | succ kj61 =>
                          have H := HA.out
                          clear HA
                          simp only [laws_FnExactJobWords.j2] at H
                          by_cases c77 : x87_61 = true
                          · subst c77
                            have H1 : (some false) = some r := by rw [if_pos rfl] at H; exact H
                            clear H
                            have H := H1
                            clear H1
                            obtain rfl := Option.some.inj H
                            go_wp2
                            go_ret
                            exact ⟨by first | rfl | (simp [errW_none, errW_some] <;> rfl) | (simp [*, errW_none, errW_some] <;> rfl), by repeat (first | (with_reducible first | exact HB.out | apply below_alloc | apply pw_below_drewN | apply below_drew1 | refine below_set ?_ GE551.out | refine below_set ?_ GE573.out) | exact HB.out)⟩
                          · replace c77 := Bool.eq_false_iff.mpr c77
                            subst c77
                            have H1 : ((laws_heldStringS.f kj61 t592 1).bind fun t607 => (if t607 < 0 then (some false) else (if t607 = t591 then (some true) else (some false)))) = some r := by rw [if_neg (show ¬ (false = true) by decide)] at H; exact H
                            clear H
                            have H := H1
                            clear H1
                            replace H := Option.bind_eq_some_iff.mp H
                            obtain ⟨t607, A780, H⟩ := H
                            replace H : (if t607 < 0 then (some false) else (if t607 = t591 then (some true) else (some false))) = some r := H
                            have A78 := Aside0.mk A780
                            clear A780
                            by_cases c79 : t607 < 0
                            · rw [if_pos c79] at H
                              have c79b0 : decide (t607 < 0) = true := decide_eq_true c79
                              clear c79
                              obtain rfl := Option.some.inj H
                              go_wp2_with (first | ((with_reducible refine gate_callee (f := 27) rfl ?_); refine goesL_ (some 90) rfl rfl Tryd.func27 (by kernel_rfl) rfl #[.slice Ao63 t592.length co63, .int .i64 1] rfl (by (try simp only [List.map_toArray, List.map_cons, List.map_nil]); first | done | rfl | (simp only [List.length_drop, List.length_take]; rfl)) ?_; (with_reducible refine (laws_heldStringS.calls kj61 _ _ t592 1 t607 _ ?side1 ?side2 A78.out).mono ?_); (case side1 => repeat (first | exact (Kd.R_reads' HO_7.out).2.2 | (with_reducible refine Kd.C_alloc ?_ _) | (with_reducible refine Kd.C_drewN ?_ _) | (with_reducible refine Kd.C_drew ?_))); (case side2 => exact (Kd.R_reads' HO_7.out).2.1); rintro e w80 ⟨rfl, hb⟩; refine ⟨_, rfl, ?_⟩; have n0_ := Aside0.mk (Kd.R_below (by (with_reducible repeat (first | apply Kd.R_alloc | apply Kd.R_drewN | apply Kd.R_drew)); exact HO_7.out) hb); have n1_ := Aside0.mk (Kd.R_below (by (with_reducible repeat (first | apply Kd.R_alloc | apply Kd.R_drewN | apply Kd.R_drew)); exact HO_574005.out) hb); have n2_ := Aside0.mk (blk_below (g := gb551) (o := .cells #[.int .i64 a0_0, .string a0_1, .string a0_2, .int .i64 a0_3, .int .i64 a0_4, .slice A0_5 l0_5.length c0_5] 35 (0, 0)) (by (with_reducible repeat (first | refine blk_drewN ?_ _ | refine blk_drew ?_ | refine blk_alloc ?_ _)); exact BK551.out) hb); have n3_ := Aside0.mk (blk_below (g := gb573) (o := .cells #[.int .i64 t565, .string t566, .string t567, .int .i64 t568, .int .i64 t569, .slice Ao24 t589.length co24] 38 (0, 0)) (by (with_reducible repeat (first | refine blk_drewN ?_ _ | refine blk_drew ?_ | refine blk_alloc ?_ _)); exact BK573.out) hb); have n4_ := Aside0.mk (below_step (by repeat (first | (with_reducible first | exact HB.out | apply below_alloc | apply pw_below_drewN | apply below_drew1 | refine below_set ?_ GE551.out | refine below_set ?_ GE573.out) | exact HB.out)) hb); clear HO_7; clear HO_574005; clear BK551; clear BK573; clear HB; have HO_7 := n0_; have HO_574005 := n1_; have BK551 := n2_; have BK573 := n3_; have HB := n4_; clear n0_ n1_ n2_ n3_ n4_; (try clear hb); (try clear hb2); (try clear hk); (try clear hi)))
                              go_ret
                              exact ⟨by first | rfl | (simp [errW_none, errW_some] <;> rfl) | (simp [*, errW_none, errW_some] <;> rfl), by repeat (first | (with_reducible first | exact HB.out | apply below_alloc | apply pw_below_drewN | apply below_drew1 | refine below_set ?_ GE551.out | refine below_set ?_ GE573.out) | exact HB.out)⟩
                            · rw [if_neg c79] at H
                              have c79b0 : decide (t607 < 0) = false := decide_eq_false c79
                              clear c79
                              by_cases c81 : t607 = t591
                              · rw [if_pos c81] at H
                                have c81b0 : (t607 == t591) = true := beq_iff_eq.mpr c81
                                have c81b1 : (t607 != t591) = false := bne_eq_false_iff_eq.mpr c81
                                clear c81
                                obtain rfl := Option.some.inj H
                                go_wp2_with (first | ((with_reducible refine gate_callee (f := 27) rfl ?_); refine goesL_ (some 90) rfl rfl Tryd.func27 (by kernel_rfl) rfl #[.slice Ao63 t592.length co63, .int .i64 1] rfl (by (try simp only [List.map_toArray, List.map_cons, List.map_nil]); first | done | rfl | (simp only [List.length_drop, List.length_take]; rfl)) ?_; (with_reducible refine (laws_heldStringS.calls kj61 _ _ t592 1 t607 _ ?side1 ?side2 A78.out).mono ?_); (case side1 => repeat (first | exact (Kd.R_reads' HO_7.out).2.2 | (with_reducible refine Kd.C_alloc ?_ _) | (with_reducible refine Kd.C_drewN ?_ _) | (with_reducible refine Kd.C_drew ?_))); (case side2 => exact (Kd.R_reads' HO_7.out).2.1); rintro e w82 ⟨rfl, hb⟩; refine ⟨_, rfl, ?_⟩; have n0_ := Aside0.mk (Kd.R_below (by (with_reducible repeat (first | apply Kd.R_alloc | apply Kd.R_drewN | apply Kd.R_drew)); exact HO_7.out) hb); have n1_ := Aside0.mk (Kd.R_below (by (with_reducible repeat (first | apply Kd.R_alloc | apply Kd.R_drewN | apply Kd.R_drew)); exact HO_574005.out) hb); have n2_ := Aside0.mk (blk_below (g := gb551) (o := .cells #[.int .i64 a0_0, .string a0_1, .string a0_2, .int .i64 a0_3, .int .i64 a0_4, .slice A0_5 l0_5.length c0_5] 35 (0, 0)) (by (with_reducible repeat (first | refine blk_drewN ?_ _ | refine blk_drew ?_ | refine blk_alloc ?_ _)); exact BK551.out) hb); have n3_ := Aside0.mk (blk_below (g := gb573) (o := .cells #[.int .i64 t565, .string t566, .string t567, .int .i64 t568, .int .i64 t569, .slice Ao24 t589.length co24] 38 (0, 0)) (by (with_reducible repeat (first | refine blk_drewN ?_ _ | refine blk_drew ?_ | refine blk_alloc ?_ _)); exact BK573.out) hb); have n4_ := Aside0.mk (below_step (by repeat (first | (with_reducible first | exact HB.out | apply below_alloc | apply pw_below_drewN | apply below_drew1 | refine below_set ?_ GE551.out | refine below_set ?_ GE573.out) | exact HB.out)) hb); clear HO_7; clear HO_574005; clear BK551; clear BK573; clear HB; have HO_7 := n0_; have HO_574005 := n1_; have BK551 := n2_; have BK573 := n3_; have HB := n4_; clear n0_ n1_ n2_ n3_ n4_; (try clear hb); (try clear hb2); (try clear hk); (try clear hi)))
                                go_ret
                                exact ⟨by first | rfl | (simp [errW_none, errW_some] <;> rfl) | (simp [*, errW_none, errW_some] <;> rfl), by repeat (first | (with_reducible first | exact HB.out | apply below_alloc | apply pw_below_drewN | apply below_drew1 | refine below_set ?_ GE551.out | refine below_set ?_ GE573.out) | exact HB.out)⟩
                              · rw [if_neg c81] at H
                                have c81b0 : (t607 == t591) = false := beq_eq_false_iff_ne.mpr c81
                                have c81b1 : (t607 != t591) = true := bne_iff_ne.mpr c81
                                obtain rfl := Option.some.inj H
                                go_wp2_with (first | ((with_reducible refine gate_callee (f := 27) rfl ?_); refine goesL_ (some 90) rfl rfl Tryd.func27 (by kernel_rfl) rfl #[.slice Ao63 t592.length co63, .int .i64 1] rfl (by (try simp only [List.map_toArray, List.map_cons, List.map_nil]); first | done | rfl | (simp only [List.length_drop, List.length_take]; rfl)) ?_; (with_reducible refine (laws_heldStringS.calls kj61 _ _ t592 1 t607 _ ?side1 ?side2 A78.out).mono ?_); (case side1 => repeat (first | exact (Kd.R_reads' HO_7.out).2.2 | (with_reducible refine Kd.C_alloc ?_ _) | (with_reducible refine Kd.C_drewN ?_ _) | (with_reducible refine Kd.C_drew ?_))); (case side2 => exact (Kd.R_reads' HO_7.out).2.1); rintro e w83 ⟨rfl, hb⟩; refine ⟨_, rfl, ?_⟩; have n0_ := Aside0.mk (Kd.R_below (by (with_reducible repeat (first | apply Kd.R_alloc | apply Kd.R_drewN | apply Kd.R_drew)); exact HO_7.out) hb); have n1_ := Aside0.mk (Kd.R_below (by (with_reducible repeat (first | apply Kd.R_alloc | apply Kd.R_drewN | apply Kd.R_drew)); exact HO_574005.out) hb); have n2_ := Aside0.mk (blk_below (g := gb551) (o := .cells #[.int .i64 a0_0, .string a0_1, .string a0_2, .int .i64 a0_3, .int .i64 a0_4, .slice A0_5 l0_5.length c0_5] 35 (0, 0)) (by (with_reducible repeat (first | refine blk_drewN ?_ _ | refine blk_drew ?_ | refine blk_alloc ?_ _)); exact BK551.out) hb); have n3_ := Aside0.mk (blk_below (g := gb573) (o := .cells #[.int .i64 t565, .string t566, .string t567, .int .i64 t568, .int .i64 t569, .slice Ao24 t589.length co24] 38 (0, 0)) (by (with_reducible repeat (first | refine blk_drewN ?_ _ | refine blk_drew ?_ | refine blk_alloc ?_ _)); exact BK573.out) hb); have n4_ := Aside0.mk (below_step (by repeat (first | (with_reducible first | exact HB.out | apply below_alloc | apply pw_below_drewN | apply below_drew1 | refine below_set ?_ GE551.out | refine below_set ?_ GE573.out) | exact HB.out)) hb); clear HO_7; clear HO_574005; clear BK551; clear BK573; clear HB; have HO_7 := n0_; have HO_574005 := n1_; have BK551 := n2_; have BK573 := n3_; have HB := n4_; clear n0_ n1_ n2_ n3_ n4_; (try clear hb); (try clear hb2); (try clear hk); (try clear hi)))
                                go_ret
                                exact ⟨by first | rfl | (simp [errW_none, errW_some] <;> rfl) | (simp [*, errW_none, errW_some] <;> rfl), by repeat (first | (with_reducible first | exact HB.out | apply below_alloc | apply pw_below_drewN | apply below_drew1 | refine below_set ?_ GE551.out | refine below_set ?_ GE573.out) | exact HB.out)⟩
                    · rw [if_neg c59] at H
                      have c59b0 : (t593 == t591) = false := beq_eq_false_iff_ne.mpr c59
                      have c59b1 : (t593 != t591) = true := bne_iff_ne.mpr c59
                      obtain rfl := Option.some.inj H
                      obtain ⟨Ao84, co84, eo84⟩ := Kd.R_slice HO_7.out
                      subst eo84
                      go_wp2_with (first | ((with_reducible refine gate_callee (f := 26) rfl ?_); refine goesL_ (some 64) rfl rfl Tryd.func26 (by kernel_rfl) rfl #[.slice Ao84 t574.length co84, .int .i64 1] rfl (by (try simp only [List.map_toArray, List.map_cons, List.map_nil]); first | done | rfl | (simp only [List.length_drop, List.length_take]; rfl)) ?_; (with_reducible refine (laws_markStringS.calls kj36 (fun k_ => some k_ = (.slice Ao84 t574.length co84 : Value).ownBlock) (.slice Ao84 t574.length co84) t574 1 t591 t592 w _ ?side1 ?side2 A53.out).mono ?_); (case side1 => repeat (first | (with_reducible first | exact HB.out | apply below_alloc | apply pw_below_drewN | apply below_drew1 | refine below_set ?_ GE551.out | refine below_set ?_ GE573.out) | exact HB.out)); (case side2 => exact Kd.R_tight rfl HO_7.out); rintro e w85 ⟨rfl, hy0, hb, hkp⟩; refine ⟨_, rfl, ?_⟩; have n0_ := Aside0.mk (Kd.R_mono (ok' := fun k_ => some k_ ≠ (.slice Ao84 t574.length co84 : Value).ownBlock ∧ some k_ ≠ (.slice Ao24 t589.length co24 : Value).ownBlock) (Kd.R_keptB (HO_4.out) hkp (fun k_ hk_ hs_ => (hk_.1) hs_)) (fun k_ hk_ => ⟨hk_.1.1, hk_.1.2⟩)); have n1_ := Aside0.mk (Kd.R_reok rfl hy0 (fun k_ e_ => HO_7.out.1 k_ e_)); have n2_ := Aside0.mk (Kd.R_mono (ok' := fun k_ => some k_ ≠ (v562 : Value).ownBlock ∧ some k_ ≠ (.slice Ao84 t574.length co84 : Value).ownBlock) (Kd.R_keptB (HO_574005.out) hkp (fun k_ hk_ hs_ => (hk_.2) hs_)) (fun k_ hk_ => ⟨hk_.1.1, hk_.1.2⟩)); have n3_ := Aside0.mk (blk_kept (by (with_reducible repeat (first | refine blk_drewN ?_ _ | refine blk_drew ?_ | refine blk_alloc ?_ _)); exact BK551.out) hkp (fun hs_ => (fun e_ => (Kd.R_ne HO_7.out BK551.out (by decide)) e_) hs_)); have n4_ := Aside0.mk (blk_kept (by (with_reducible repeat (first | refine blk_drewN ?_ _ | refine blk_drew ?_ | refine blk_alloc ?_ _)); exact BK573.out) hkp (fun hs_ => (fun e_ => (Kd.R_ne HO_7.out BK573.out (by decide)) e_) hs_)); have n5_ := Aside0.mk (hb); clear HO_4; clear HO_7; clear HO_574005; clear BK551; clear BK573; clear HB; have HO_4 := n0_; have HO_7 := n1_; have HO_574005 := n2_; have BK551 := n3_; have BK573 := n4_; have HB := n5_; clear n0_ n1_ n2_ n3_ n4_ n5_; (try clear hb); (try clear hkp); (try clear hy0)) | ((with_reducible refine gate_callee (f := 27) rfl ?_); refine goesL_ (some 67) rfl rfl Tryd.func27 (by kernel_rfl) rfl #[.slice Ao84 t592.length co84, .int .i64 1] rfl (by (try simp only [List.map_toArray, List.map_cons, List.map_nil]); first | done | (rw [show t592.length = t574.length from (Kd.R_reads' HO_7.out).1.symm] <;> rfl) | rfl | (simp only [List.length_drop, List.length_take]; rfl)) ?_; (with_reducible refine (laws_heldStringS.calls kj36 _ _ t592 1 t593 _ ?side1 ?side2 A54.out).mono ?_); (case side1 => repeat (first | exact (Kd.R_reads' HO_7.out).2.2 | (with_reducible refine Kd.C_alloc ?_ _) | (with_reducible refine Kd.C_drewN ?_ _) | (with_reducible refine Kd.C_drew ?_))); (case side2 => rw [show t592.length = t574.length from (Kd.R_reads' HO_7.out).1.symm]; exact (Kd.R_reads' HO_7.out).2.1); rintro e w86 ⟨rfl, hb⟩; refine ⟨_, rfl, ?_⟩; have n0_ := Aside0.mk (Kd.R_below (by (with_reducible repeat (first | apply Kd.R_alloc | apply Kd.R_drewN | apply Kd.R_drew)); exact HO_4.out) hb); have n1_ := Aside0.mk (Kd.R_below (by (with_reducible repeat (first | apply Kd.R_alloc | apply Kd.R_drewN | apply Kd.R_drew)); exact HO_7.out) hb); have n2_ := Aside0.mk (Kd.R_below (by (with_reducible repeat (first | apply Kd.R_alloc | apply Kd.R_drewN | apply Kd.R_drew)); exact HO_574005.out) hb); have n3_ := Aside0.mk (blk_below (g := gb551) (o := .cells #[.int .i64 a0_0, .string a0_1, .string a0_2, .int .i64 a0_3, .int .i64 a0_4, .slice A0_5 l0_5.length c0_5] 35 (0, 0)) (by (with_reducible repeat (first | refine blk_drewN ?_ _ | refine blk_drew ?_ | refine blk_alloc ?_ _)); exact BK551.out) hb); have n4_ := Aside0.mk (blk_below (g := gb573) (o := .cells #[.int .i64 t565, .string t566, .string t567, .int .i64 t568, .int .i64 t569, .slice Ao24 t589.length co24] 38 (0, 0)) (by (with_reducible repeat (first | refine blk_drewN ?_ _ | refine blk_drew ?_ | refine blk_alloc ?_ _)); exact BK573.out) hb); have n5_ := Aside0.mk (below_step (by repeat (first | (with_reducible first | exact HB.out | apply below_alloc | apply pw_below_drewN | apply below_drew1 | refine below_set ?_ GE551.out | refine below_set ?_ GE573.out) | exact HB.out)) hb); clear HO_4; clear HO_7; clear HO_574005; clear BK551; clear BK573; clear HB; have HO_4 := n0_; have HO_7 := n1_; have HO_574005 := n2_; have BK551 := n3_; have BK573 := n4_; have HB := n5_; clear n0_ n1_ n2_ n3_ n4_ n5_; (try clear hb); (try clear hb2); (try clear hk); (try clear hi)))
                      go_ret
                      exact ⟨by first | rfl | (simp [errW_none, errW_some] <;> rfl) | (simp [*, errW_none, errW_some] <;> rfl), by repeat (first | (with_reducible first | exact HB.out | apply below_alloc | apply pw_below_drewN | apply below_drew1 | refine below_set ?_ GE551.out | refine below_set ?_ GE573.out) | exact HB.out)⟩
          · replace c35 := Bool.eq_false_iff.mpr c35
            subst c35
            have H1 : (some false) = some r := by rw [if_neg (show ¬ (false = true) by decide)] at H; exact H
            clear H
            have H := H1
            clear H1
            obtain rfl := Option.some.inj H
            try go_wp2
            have n0_ := Aside0.mk (Kd.R_drew HO_4.out)
            have n1_ := Aside0.mk (Kd.R_drew HO_7.out)
            have n2_ := Aside0.mk (Kd.R_drew HO_574005.out)
            have n3_ := Aside0.mk (blk_drew BK551.out)
            have n4_ := Aside0.mk (blk_drew BK573.out)
            have n5_ := Aside0.mk (below_drew1 HB.out)
            clear HO_4
            clear HO_7
            clear HO_574005
            clear BK551
            clear BK573
            clear HB
            have HO_4 := n0_
            have HO_7 := n1_
            have HO_574005 := n2_
            have BK551 := n3_
            have BK573 := n4_
            have HB := n5_
            clear n0_ n1_ n2_ n3_ n4_ n5_
            refine start_ (n := 5) (S := fun w' => w'.cell? ⟨gb573, 0, none⟩ = some (.int .i64 t565) ∧ w'.cell? ⟨gb573, 1, none⟩ = some (.string t566) ∧ w'.cell? ⟨gb573, 2, none⟩ = some (.string t567) ∧ w'.cell? ⟨gb573, 3, none⟩ = some (.int .i64 t568) ∧ w'.cell? ⟨gb573, 4, none⟩ = some (.int .i64 t569) ∧ w'.cell? ⟨gb573, 5, none⟩ = some (.slice Ao24 t570.length co24) ∧ w'.cell? ⟨gb551, 0, none⟩ = some (.int .i64 a0_0) ∧ w'.cell? ⟨gb551, 1, none⟩ = some (.string a0_1) ∧ w'.cell? ⟨gb551, 2, none⟩ = some (.string a0_2) ∧ w'.cell? ⟨gb551, 3, none⟩ = some (.int .i64 a0_3) ∧ w'.cell? ⟨gb551, 4, none⟩ = some (.int .i64 a0_4) ∧ w'.cell? ⟨gb551, 5, none⟩ = some (.slice A0_5 l0_5.length c0_5)) (ds := []) #[false, false, false, false, false] (by kernel_rfl) rfl rfl ⟨(blk_cell BK573.out 0).trans rfl, (blk_cell BK573.out 1).trans rfl, (blk_cell BK573.out 2).trans rfl, (blk_cell BK573.out 3).trans rfl, (blk_cell BK573.out 4).trans rfl, (blk_cell BK573.out 5).trans rfl, (blk_cell BK551.out 0).trans rfl, (blk_cell BK551.out 1).trans rfl, (blk_cell BK551.out 2).trans rfl, (blk_cell BK551.out 3).trans rfl, (blk_cell BK551.out 4).trans rfl, (blk_cell BK551.out 5).trans rfl⟩ (fun hHeld => ?_)
            generalize wc.drew = w87 at HO_4 HO_7 HO_574005 BK551 BK573 HB hHeld ⊢
            refine take_ (i := 0) (N := some 41) (v := ?_) (a' := ?_) #[true, false, false, false, false] rfl rfl (by kernel_rfl) (fun _ _ _ h => h) (Or.inl ⟨by rfl, ?_⟩) hHeld ?_ ?_
            rotate_left
            · rintro w' ⟨s0, s1, s2, s3, s4, s5, s6, s7, s8, s9, s10, s11⟩
              go_simp
              with_reducible rfl
            rotate_left
            · simp only [Act.put, List.setIfInBounds_toArray, List.set_cons_zero, List.set_cons_succ, i64_w, i32_w]
              rfl
            refine take_ (i := 1) (N := some 42) (v := ?_) (a' := ?_) #[true, true, false, false, false] rfl rfl (by kernel_rfl) (fun _ _ _ h => h) (Or.inl ⟨by rfl, ?_⟩) hHeld ?_ ?_
            rotate_left
            · rintro w' ⟨s0, s1, s2, s3, s4, s5, s6, s7, s8, s9, s10, s11⟩
              go_simp
              with_reducible rfl
            rotate_left
            · simp only [Act.put, List.setIfInBounds_toArray, List.set_cons_zero, List.set_cons_succ, i64_w, i32_w]
              rfl
            refine one_ (i := 2) (N := some 43) #[true, true, true, false, false] rfl rfl (by kernel_rfl) (by decide) (fun K hK => ?_)
            refine goes_ Tryd.func19 (by kernel_rfl) rfl #[.agg #[.int .i64 a0_0, .string a0_1, .string a0_2, .int .i64 a0_3, .int .i64 a0_4, .slice A0_5 l0_5.length c0_5]] (by rfl) rfl rfl (by (try simp only [List.map_toArray, List.map_cons, List.map_nil]); first | done | rfl | (simp only [List.length_drop, List.length_take]; rfl)) ?_
            with_reducible refine (laws_toJob.calls kj10 a0_0 a0_1 a0_2 a0_3 a0_4 _ _ l0_5 t579 t580 t581 t582 t583 t584 _ ?side1 ?side2 A33.out).mono ?_
            (case side1 => repeat (first | exact (Kd.C_below HR0_5.out HB.out) | (with_reducible refine Kd.C_alloc ?_ _) | (with_reducible refine Kd.C_drewN ?_ _) | (with_reducible refine Kd.C_drew ?_)))
            (case side2 => exact HC0_5.out)
            rintro e w88 ⟨v585, rfl, ho0, hb⟩
            refine ⟨_, rfl, ?_⟩
            have n0_ := Aside0.mk (Kd.R_elder' (by (with_reducible repeat (first | apply Kd.R_alloc | apply Kd.R_drewN | apply Kd.R_drew)); exact HO_4.out) (Kd.R_base ho0) hb)
            have n1_ := Aside0.mk (Kd.R_elder' (by (with_reducible repeat (first | apply Kd.R_alloc | apply Kd.R_drewN | apply Kd.R_drew)); exact HO_7.out) (Kd.R_base ho0) hb)
            have n2_ := Aside0.mk (Kd.R_elder' (by (with_reducible repeat (first | apply Kd.R_alloc | apply Kd.R_drewN | apply Kd.R_drew)); exact HO_574005.out) (Kd.R_base ho0) hb)
            have n3_ := Aside0.mk (Kd.R_lower (Kd.R_new' (Kd.R_new' (Kd.R_new' ho0 (Kd.R_lt (by (with_reducible repeat (first | apply Kd.R_alloc | apply Kd.R_drewN | apply Kd.R_drew)); exact HO_4.out))) (Kd.R_lt (by (with_reducible repeat (first | apply Kd.R_alloc | apply Kd.R_drewN | apply Kd.R_drew)); exact HO_7.out))) (Kd.R_lt (by (with_reducible repeat (first | apply Kd.R_alloc | apply Kd.R_drewN | apply Kd.R_drew)); exact HO_574005.out))) (below_size (by repeat (first | (with_reducible first | exact HB.out | apply below_alloc | apply pw_below_drewN | apply below_drew1 | refine below_set ?_ GE551.out | refine below_set ?_ GE573.out) | exact HB.out))))
            have n4_ := Aside0.mk (blk_below (g := gb551) (o := .cells #[.int .i64 a0_0, .string a0_1, .string a0_2, .int .i64 a0_3, .int .i64 a0_4, .slice A0_5 l0_5.length c0_5] 35 (0, 0)) (by (with_reducible repeat (first | refine blk_drewN ?_ _ | refine blk_drew ?_ | refine blk_alloc ?_ _)); exact BK551.out) hb)
            have n5_ := Aside0.mk (blk_below (g := gb573) (o := .cells #[.int .i64 t565, .string t566, .string t567, .int .i64 t568, .int .i64 t569, .slice Ao24 t570.length co24] 38 (0, 0)) (by (with_reducible repeat (first | refine blk_drewN ?_ _ | refine blk_drew ?_ | refine blk_alloc ?_ _)); exact BK573.out) hb)
            have n6_ := Aside0.mk (below_step (by repeat (first | (with_reducible first | exact HB.out | apply below_alloc | apply pw_below_drewN | apply below_drew1 | refine below_set ?_ GE551.out | refine below_set ?_ GE573.out) | exact HB.out)) hb)
            clear HO_4
            clear HO_7
            clear HO_574005
            clear BK551
            clear BK573
            clear HB
            have HO_4 := n0_
            have HO_7 := n1_
            have HO_574005 := n2_
            have HO586 := n3_
            have BK551 := n4_
            have BK573 := n5_
            have HB := n6_
            clear n0_ n1_ n2_ n3_ n4_ n5_ n6_
            (try clear hb)
            (try clear hb2)
            (try clear hk)
            (try clear hi)
            (try clear ho0)
            obtain ⟨Ao89, co89, eo89⟩ := Kd.R_slice HO586.out
            (first | subst eo89 | (injection eo89 with f1_ f2_ f3_; have f4_ := f1_.symm; have f5_ := f3_.symm; clear f1_ f2_ f3_; subst f4_; subst f5_))
            refine hK.out _ _ ⟨(blk_cell BK573.out 0).trans rfl, (blk_cell BK573.out 1).trans rfl, (blk_cell BK573.out 2).trans rfl, (blk_cell BK573.out 3).trans rfl, (blk_cell BK573.out 4).trans rfl, (blk_cell BK573.out 5).trans rfl, (blk_cell BK551.out 0).trans rfl, (blk_cell BK551.out 1).trans rfl, (blk_cell BK551.out 2).trans rfl, (blk_cell BK551.out 3).trans rfl, (blk_cell BK551.out 4).trans rfl, (blk_cell BK551.out 5).trans rfl⟩ (fun hHeld => ?_)
            clear hK K
            refine norm_ (a' := ?_) ?_ ?_
            rotate_left
            · show Act.put _ (some 43) _ = _
              simp only [Act.put, List.setIfInBounds_toArray, List.set_cons_zero, List.set_cons_succ, i64_w, i32_w]
              rfl
            refine one_ (i := 3) (N := some 44) #[true, true, true, true, false] rfl rfl (by kernel_rfl) (by decide) (fun K hK => ?_)
            refine goes_ Tryd.func21 (by kernel_rfl) rfl #[.agg #[.int .i64 t565, .string t566, .string t567, .int .i64 t568, .int .i64 t569, .slice Ao24 t570.length co24], .agg #[.int .i64 t579, .string t580, .string t581, .int .i64 t582, .int .i64 t583, .slice Ao89 t584.length co89]] (by rfl) rfl rfl (by (try simp only [List.map_toArray, List.map_cons, List.map_nil]); first | done | rfl | (simp only [List.length_drop, List.length_take]; rfl)) ?_
            with_reducible refine (laws_eqJob.calls kj10 t565 t566 t567 t568 t569 _ _ t570 t579 t580 t581 t582 t583 _ _ t584 false _ ?side1 ?side2 ?side3 ?side4 A34.out).mono ?_
            (case side1 => repeat (first | exact (Kd.R_reads' HO_574005.out).2.2 | (with_reducible refine Kd.C_alloc ?_ _) | (with_reducible refine Kd.C_drewN ?_ _) | (with_reducible refine Kd.C_drew ?_)))
            (case side2 => exact (Kd.R_reads' HO_574005.out).2.1)
            (case side3 => repeat (first | exact (Kd.R_reads' HO586.out).2.2 | (with_reducible refine Kd.C_alloc ?_ _) | (with_reducible refine Kd.C_drewN ?_ _) | (with_reducible refine Kd.C_drew ?_)))
            (case side4 => exact (Kd.R_reads' HO586.out).2.1)
            rintro e w90 ⟨rfl, hb⟩
            refine ⟨_, rfl, ?_⟩
            have n0_ := Aside0.mk (Kd.R_below (by (with_reducible repeat (first | apply Kd.R_alloc | apply Kd.R_drewN | apply Kd.R_drew)); exact HO_4.out) hb)
            have n1_ := Aside0.mk (Kd.R_below (by (with_reducible repeat (first | apply Kd.R_alloc | apply Kd.R_drewN | apply Kd.R_drew)); exact HO_7.out) hb)
            have n2_ := Aside0.mk (Kd.R_below (by (with_reducible repeat (first | apply Kd.R_alloc | apply Kd.R_drewN | apply Kd.R_drew)); exact HO_574005.out) hb)
            have n3_ := Aside0.mk (Kd.R_below (by (with_reducible repeat (first | apply Kd.R_alloc | apply Kd.R_drewN | apply Kd.R_drew)); exact HO586.out) hb)
            have n4_ := Aside0.mk (blk_below (g := gb551) (o := .cells #[.int .i64 a0_0, .string a0_1, .string a0_2, .int .i64 a0_3, .int .i64 a0_4, .slice A0_5 l0_5.length c0_5] 35 (0, 0)) (by (with_reducible repeat (first | refine blk_drewN ?_ _ | refine blk_drew ?_ | refine blk_alloc ?_ _)); exact BK551.out) hb)
            have n5_ := Aside0.mk (blk_below (g := gb573) (o := .cells #[.int .i64 t565, .string t566, .string t567, .int .i64 t568, .int .i64 t569, .slice Ao24 t570.length co24] 38 (0, 0)) (by (with_reducible repeat (first | refine blk_drewN ?_ _ | refine blk_drew ?_ | refine blk_alloc ?_ _)); exact BK573.out) hb)
            have n6_ := Aside0.mk (below_step (by repeat (first | (with_reducible first | exact HB.out | apply below_alloc | apply pw_below_drewN | apply below_drew1 | refine below_set ?_ GE551.out | refine below_set ?_ GE573.out) | exact HB.out)) hb)
            clear HO_4
            clear HO_7
            clear HO_574005
            clear HO586
            clear BK551
            clear BK573
            clear HB
            have HO_4 := n0_
            have HO_7 := n1_
            have HO_574005 := n2_
            have HO586 := n3_
            have BK551 := n4_
            have BK573 := n5_
            have HB := n6_
            clear n0_ n1_ n2_ n3_ n4_ n5_ n6_
            (try clear hb)
            (try clear hb2)
            (try clear hk)
            (try clear hi)
            refine hK.out _ _ ⟨(blk_cell BK573.out 0).trans rfl, (blk_cell BK573.out 1).trans rfl, (blk_cell BK573.out 2).trans rfl, (blk_cell BK573.out 3).trans rfl, (blk_cell BK573.out 4).trans rfl, (blk_cell BK573.out 5).trans rfl, (blk_cell BK551.out 0).trans rfl, (blk_cell BK551.out 1).trans rfl, (blk_cell BK551.out 2).trans rfl, (blk_cell BK551.out 3).trans rfl, (blk_cell BK551.out 4).trans rfl, (blk_cell BK551.out 5).trans rfl⟩ (fun hHeld => ?_)
            clear hK K
            refine norm_ (a' := ?_) ?_ ?_
            rotate_left
            · show Act.put _ (some 44) _ = _
              simp only [Act.put, List.setIfInBounds_toArray, List.set_cons_zero, List.set_cons_succ, i64_w, i32_w]
              rfl
            refine pure_ (i := 4) (N := some 45) (v := ?_) (a' := ?_) #[true, true, true, true, true] rfl rfl (by kernel_rfl) (fun _ _ _ h => h) (Or.inl ⟨by rfl, ?_⟩) ?_ ?_
            rotate_left
            · intro w'
              go_simp
              with_reducible rfl
            rotate_left
            · simp only [Act.put, List.setIfInBounds_toArray, List.set_cons_zero, List.set_cons_succ, i64_w, i32_w]
              rfl
            refine done_ (by kernel_rfl) ?_
            try go_wp2
            go_ret
            exact ⟨by first | rfl | (simp [errW_none, errW_some] <;> rfl) | (simp [*, errW_none, errW_some] <;> rfl), by repeat (first | (with_reducible first | exact HB.out | apply below_alloc | apply pw_below_drewN | apply below_drew1 | refine below_set ?_ GE551.out | refine below_set ?_ GE573.out) | exact HB.out)⟩
end Go.Proofs.YtibfocaldcjiiaaDoor.Q
