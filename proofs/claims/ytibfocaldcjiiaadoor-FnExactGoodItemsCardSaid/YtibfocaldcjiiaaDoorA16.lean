/- Texts of this claim, merged by a program (wip/tools/merge.py): Q59, HNextEv, HGoodEv, HPureGood. -/
import Derived.Test.YtibfocaldcjiiaaDoorA1
import Derived.Test.YtibfocaldcjiiaaDoorA12
import Derived.Test.YtibfocaldcjiiaaDoorA2
import Derived.Test.YtibfocaldcjiiaaDoorA15
import Derived.Test.YtibfocaldcjiiaaDoorA3
import Derived.Test.YtibfocaldcjiiaaDoorA14
import Derived.Test.YtibfocaldcjiiaaDoorA11
-- Printed by a program of this session (wip/tools/myprint.py) that runs the kit's print, hand-proved functions among the others.
namespace Go.Proofs.YtibfocaldcjiiaaDoor.Q
open Go.RowKit Go.Proofs.YtibfocaldcjiiaaDoorW.PrintWords Go.Proofs.YtibfocaldcjiiaaDoorW.PrintLast Go.Proofs.YtibfocaldcjiiaaDoorW.PrintMore
attribute [local go_sem] max2_int min2_int max_two min_two max_three min_three max_four min_four   -- for this text's walks alone
set_option linter.unusedVariables false
set_option linter.unusedSimpArgs false

/-! ### laws_FnExactGoodItems: function 3 -/
def laws_FnExactGoodItems.f (k : Nat) (l0 : List (S49)) : Option (Bool) := (laws_szItemS.f k l0 1048576).bind fun t262 => (if t262 < 0 then (some true) else ((laws_toItemS.f k l0).bind fun t263 => ((spec_GoodItems.f k t263).bind fun t266 => ((laws_toItemS.f k l0).bind fun t267 => ((impl_GoodItems.f t267).bind fun t270 => (if (t270 != t266) = true then (some false) else ((laws_toItemS.f k l0).bind fun t271 => ((laws_eqItemS.f k t267 t271).bind fun t274 => (if t274 = true then (some true) else (some false))))))))))
theorem laws_FnExactGoodItems.mono : ∀ a0 k, LeO (laws_FnExactGoodItems.f k a0) (laws_FnExactGoodItems.f (k + 1) a0) := by
  intro a0 k
  unfold laws_FnExactGoodItems.f
  repeat' first
      | (with_reducible exact laws_eqItemS.mono _ _ _)
      | (with_reducible exact laws_szItemS.mono _ _ _)
      | (with_reducible exact laws_toItemS.mono _ _)
      | (with_reducible exact spec_GoodItems.mono _ _)
      | (with_reducible exact LeO.refl _)
      | (with_reducible exact LeO.none _)
      | (with_reducible refine LeO.ite ?_ ?_)
      | (with_reducible refine LeO.bind ?_ (fun _ => ?_))
      | exact laws_eqItemS.mono _ _ _
      | exact laws_szItemS.mono _ _ _
      | exact laws_toItemS.mono _ _
      | exact spec_GoodItems.mono _ _
      | exact LeO.none _
      | refine LeO.ite ?_ ?_
      | refine LeO.bind ?_ (fun _ => ?_)
set_option maxHeartbeats 8000000 in
set_option maxRecDepth 100000 in
theorem laws_FnExactGoodItems.calls (k : Nat) (A0 : Option Addr) (c0 : Nat) (l0 : List (S49)) (r : Bool) (w : World) (hr0 : Kd.C k49 w A0 l0.length l0) (hc0 : l0.length ≤ c0) (h : laws_FnExactGoodItems.f k l0 = some r) :
    Calls Tryd.prog 3 #[.slice A0 l0.length c0] w fun e w' => e = .returned (.bool r) ∧ Below w.heap.size w w' := by
  have HR0 := Aside0.mk hr0
  have HC0 := Aside0.mk hc0
  clear hr0 hc0
  have HB := Aside0.mk (Below.refl w.heap.size w)
  have H : ((laws_szItemS.f k l0 1048576).bind fun t262 => (if t262 < 0 then (some true) else ((laws_toItemS.f k l0).bind fun t263 => ((spec_GoodItems.f k t263).bind fun t266 => ((laws_toItemS.f k l0).bind fun t267 => ((impl_GoodItems.f t267).bind fun t270 => (if (t270 != t266) = true then (some false) else ((laws_toItemS.f k l0).bind fun t271 => ((laws_eqItemS.f k t267 t271).bind fun t274 => (if t274 = true then (some true) else (some false))))))))))) = some r := h
  clear h
  replace H := Option.bind_eq_some_iff.mp H
  obtain ⟨t262, A20, H⟩ := H
  replace H : (if t262 < 0 then (some true) else ((laws_toItemS.f k l0).bind fun t263 => ((spec_GoodItems.f k t263).bind fun t266 => ((laws_toItemS.f k l0).bind fun t267 => ((impl_GoodItems.f t267).bind fun t270 => (if (t270 != t266) = true then (some false) else ((laws_toItemS.f k l0).bind fun t271 => ((laws_eqItemS.f k t267 t271).bind fun t274 => (if t274 = true then (some true) else (some false)))))))))) = some r := H
  have A2 := Aside0.mk A20
  clear A20
  by_cases c3 : t262 < 0
  · rw [if_pos c3] at H
    have c3b0 : decide (t262 < 0) = true := decide_eq_true c3
    clear c3
    obtain rfl := Option.some.inj H
    go_enter Tryd.func3, Tryd.ntmps3
    go_wp2_with (first | ((with_reducible refine gate_callee (f := 8) rfl ?_); refine goesL_ (some 9) rfl rfl Tryd.func8 (by kernel_rfl) rfl #[.slice A0 l0.length c0, .int .i64 1048576] rfl (by (try simp only [List.map_toArray, List.map_cons, List.map_nil]); first | done | rfl | (simp only [List.length_drop, List.length_take]; rfl)) ?_; (with_reducible refine (laws_szItemS.calls k _ _ l0 1048576 t262 _ ?side1 ?side2 A2.out).mono ?_); (case side1 => repeat (first | exact HR0.out | (with_reducible refine Kd.C_alloc ?_ _) | (with_reducible refine Kd.C_drewN ?_ _) | (with_reducible refine Kd.C_drew ?_))); (case side2 => exact HC0.out); rintro e w4 ⟨rfl, hb⟩; refine ⟨_, rfl, ?_⟩; have n0_ := Aside0.mk (below_step (by repeat (first | (with_reducible first | exact HB.out | apply below_alloc | apply pw_below_drewN | apply below_drew1) | exact HB.out)) hb); clear HB; have HB := n0_; clear n0_; (try clear hb); (try clear hb2); (try clear hk); (try clear hi)))
    go_ret
    exact ⟨by first | rfl | (simp [errW_none, errW_some] <;> rfl) | (simp [*, errW_none, errW_some] <;> rfl), by repeat (first | (with_reducible first | exact HB.out | apply below_alloc | apply pw_below_drewN | apply below_drew1) | exact HB.out)⟩
  · rw [if_neg c3] at H
    have c3b0 : decide (t262 < 0) = false := decide_eq_false c3
    clear c3
    replace H := Option.bind_eq_some_iff.mp H
    obtain ⟨t263, A50, H⟩ := H
    replace H : ((spec_GoodItems.f k t263).bind fun t266 => ((laws_toItemS.f k l0).bind fun t267 => ((impl_GoodItems.f t267).bind fun t270 => (if (t270 != t266) = true then (some false) else ((laws_toItemS.f k l0).bind fun t271 => ((laws_eqItemS.f k t267 t271).bind fun t274 => (if t274 = true then (some true) else (some false)))))))) = some r := H
    have A5 := Aside0.mk A50
    clear A50
    replace H := Option.bind_eq_some_iff.mp H
    obtain ⟨t266, A60, H⟩ := H
    replace H : ((laws_toItemS.f k l0).bind fun t267 => ((impl_GoodItems.f t267).bind fun t270 => (if (t270 != t266) = true then (some false) else ((laws_toItemS.f k l0).bind fun t271 => ((laws_eqItemS.f k t267 t271).bind fun t274 => (if t274 = true then (some true) else (some false))))))) = some r := H
    have A6 := Aside0.mk A60
    clear A60
    replace H := Option.bind_eq_some_iff.mp H
    obtain ⟨t267, A70, H⟩ := H
    replace H : ((impl_GoodItems.f t267).bind fun t270 => (if (t270 != t266) = true then (some false) else ((laws_toItemS.f k l0).bind fun t271 => ((laws_eqItemS.f k t267 t271).bind fun t274 => (if t274 = true then (some true) else (some false)))))) = some r := H
    have A7 := Aside0.mk A70
    clear A70
    replace H := Option.bind_eq_some_iff.mp H
    obtain ⟨t270, A80, H⟩ := H
    replace H : (if (t270 != t266) = true then (some false) else ((laws_toItemS.f k l0).bind fun t271 => ((laws_eqItemS.f k t267 t271).bind fun t274 => (if t274 = true then (some true) else (some false))))) = some r := H
    have A8 := Aside0.mk A80
    clear A80
    by_cases c9 : (t270 != t266) = true
    · rw [if_pos c9] at H
      have c9b0 : (t270 != t266) = true := c9
      (try (have c9b1 : decide (t270 = t266) = false := by simpa using c9))
      (try (have c9b2 : (t270 == t266) = false := by simpa using c9))
      (try (have c9b3 : ¬ (t270 = t266) := by simpa using c9))
      clear c9
      obtain rfl := Option.some.inj H
      go_enter Tryd.func3, Tryd.ntmps3
      go_wp2_with (first | ((with_reducible refine gate_callee (f := 8) rfl ?_); refine goesL_ (some 9) rfl rfl Tryd.func8 (by kernel_rfl) rfl #[.slice A0 l0.length c0, .int .i64 1048576] rfl (by (try simp only [List.map_toArray, List.map_cons, List.map_nil]); first | done | rfl | (simp only [List.length_drop, List.length_take]; rfl)) ?_; (with_reducible refine (laws_szItemS.calls k _ _ l0 1048576 t262 _ ?side1 ?side2 A2.out).mono ?_); (case side1 => repeat (first | exact HR0.out | (with_reducible refine Kd.C_alloc ?_ _) | (with_reducible refine Kd.C_drewN ?_ _) | (with_reducible refine Kd.C_drew ?_))); (case side2 => exact HC0.out); rintro e w10 ⟨rfl, hb⟩; refine ⟨_, rfl, ?_⟩; have n0_ := Aside0.mk (below_step (by repeat (first | (with_reducible first | exact HB.out | apply below_alloc | apply pw_below_drewN | apply below_drew1) | exact HB.out)) hb); clear HB; have HB := n0_; clear n0_; (try clear hb); (try clear hb2); (try clear hk); (try clear hi)) | ((with_reducible refine gate_callee (f := 10) rfl ?_); refine goesL_ (some 13) rfl rfl Tryd.func10 (by kernel_rfl) rfl #[.slice A0 l0.length c0] rfl (by (try simp only [List.map_toArray, List.map_cons, List.map_nil]); first | done | rfl | (simp only [List.length_drop, List.length_take]; rfl)) ?_; (with_reducible refine (laws_toItemS.calls k _ _ l0 t263 _ ?side1 ?side2 A5.out).mono ?_); (case side1 => repeat (first | exact (Kd.C_below HR0.out HB.out) | (with_reducible refine Kd.C_alloc ?_ _) | (with_reducible refine Kd.C_drewN ?_ _) | (with_reducible refine Kd.C_drew ?_))); (case side2 => exact HC0.out); rintro e w11 ⟨v264, rfl, ho0, hb⟩; refine ⟨_, rfl, ?_⟩; have n0_ := Aside0.mk (Kd.R_lower ho0 (below_size (by repeat (first | (with_reducible first | exact HB.out | apply below_alloc | apply pw_below_drewN | apply below_drew1) | exact HB.out)))); have n1_ := Aside0.mk (below_step (by repeat (first | (with_reducible first | exact HB.out | apply below_alloc | apply pw_below_drewN | apply below_drew1) | exact HB.out)) hb); clear HB; have HO265 := n0_; have HB := n1_; clear n0_ n1_; (try clear hb); (try clear hb2); (try clear hk); (try clear hi); (try clear ho0); obtain ⟨Ao12, co12, eo12⟩ := Kd.R_slice HO265.out; subst eo12) | ((with_reducible refine gate_callee (f := 9) rfl ?_); refine goesL_ (some 14) rfl rfl Tryd.func9 (by kernel_rfl) rfl #[.slice Ao12 t263.length co12] rfl (by (try simp only [List.map_toArray, List.map_cons, List.map_nil]); first | done | rfl | (simp only [List.length_drop, List.length_take]; rfl)) ?_; (with_reducible refine (spec_GoodItems.calls k _ _ t263 t266 _ ?side1 ?side2 A6.out).mono ?_); (case side1 => repeat (first | exact (Kd.R_reads' HO265.out).2.2 | (with_reducible refine Kd.C_alloc ?_ _) | (with_reducible refine Kd.C_drewN ?_ _) | (with_reducible refine Kd.C_drew ?_))); (case side2 => exact (Kd.R_reads' HO265.out).2.1); rintro e w13 ⟨rfl, hb⟩; refine ⟨_, rfl, ?_⟩; have n0_ := Aside0.mk (Kd.R_below (by (with_reducible repeat (first | apply Kd.R_alloc | apply Kd.R_drewN | apply Kd.R_drew)); exact HO265.out) hb); have n1_ := Aside0.mk (below_step (by repeat (first | (with_reducible first | exact HB.out | apply below_alloc | apply pw_below_drewN | apply below_drew1) | exact HB.out)) hb); clear HO265; clear HB; have HO265 := n0_; have HB := n1_; clear n0_ n1_; (try clear hb); (try clear hb2); (try clear hk); (try clear hi)) | ((with_reducible refine gate_callee (f := 10) rfl ?_); refine goesL_ (some 16) rfl rfl Tryd.func10 (by kernel_rfl) rfl #[.slice A0 l0.length c0] rfl (by (try simp only [List.map_toArray, List.map_cons, List.map_nil]); first | done | rfl | (simp only [List.length_drop, List.length_take]; rfl)) ?_; (with_reducible refine (laws_toItemS.calls k _ _ l0 t267 _ ?side1 ?side2 A7.out).mono ?_); (case side1 => repeat (first | exact (Kd.C_below HR0.out HB.out) | (with_reducible refine Kd.C_alloc ?_ _) | (with_reducible refine Kd.C_drewN ?_ _) | (with_reducible refine Kd.C_drew ?_))); (case side2 => exact HC0.out); rintro e w14 ⟨v268, rfl, ho0, hb⟩; refine ⟨_, rfl, ?_⟩; have n0_ := Aside0.mk (Kd.R_elder' (by (with_reducible repeat (first | apply Kd.R_alloc | apply Kd.R_drewN | apply Kd.R_drew)); exact HO265.out) (Kd.R_base ho0) hb); have n1_ := Aside0.mk (Kd.R_lower (Kd.R_new' ho0 (Kd.R_lt (by (with_reducible repeat (first | apply Kd.R_alloc | apply Kd.R_drewN | apply Kd.R_drew)); exact HO265.out))) (below_size (by repeat (first | (with_reducible first | exact HB.out | apply below_alloc | apply pw_below_drewN | apply below_drew1) | exact HB.out)))); have n2_ := Aside0.mk (below_step (by repeat (first | (with_reducible first | exact HB.out | apply below_alloc | apply pw_below_drewN | apply below_drew1) | exact HB.out)) hb); clear HO265; clear HB; have HO265 := n0_; have HO269 := n1_; have HB := n2_; clear n0_ n1_ n2_; (try clear hb); (try clear hb2); (try clear hk); (try clear hi); (try clear ho0); obtain ⟨Ao15, co15, eo15⟩ := Kd.R_slice HO269.out; subst eo15) | ((with_reducible refine gate_callee (f := 11) rfl ?_); refine goesL_ (some 18) rfl rfl Tryd.func11 (by kernel_rfl) rfl #[.slice Ao15 t267.length co15] rfl (by (try simp only [List.map_toArray, List.map_cons, List.map_nil]); first | done | rfl | (simp only [List.length_drop, List.length_take]; rfl)) ?_; (with_reducible refine (impl_GoodItems.calls _ _ t267 t270 _ ?side1 ?side2 A8.out).mono ?_); (case side1 => repeat (first | exact (Kd.R_reads' HO269.out).2.2 | (with_reducible refine Kd.C_alloc ?_ _) | (with_reducible refine Kd.C_drewN ?_ _) | (with_reducible refine Kd.C_drew ?_))); (case side2 => exact (Kd.R_reads' HO269.out).2.1); rintro e w16 ⟨rfl, hb⟩; refine ⟨_, rfl, ?_⟩; have n0_ := Aside0.mk (Kd.R_below (by (with_reducible repeat (first | apply Kd.R_alloc | apply Kd.R_drewN | apply Kd.R_drew)); exact HO265.out) hb); have n1_ := Aside0.mk (Kd.R_below (by (with_reducible repeat (first | apply Kd.R_alloc | apply Kd.R_drewN | apply Kd.R_drew)); exact HO269.out) hb); have n2_ := Aside0.mk (below_step (by repeat (first | (with_reducible first | exact HB.out | apply below_alloc | apply pw_below_drewN | apply below_drew1) | exact HB.out)) hb); clear HO265; clear HO269; clear HB; have HO265 := n0_; have HO269 := n1_; have HB := n2_; clear n0_ n1_ n2_; (try clear hb); (try clear hb2); (try clear hk); (try clear hi)))
      go_ret
      exact ⟨by first | rfl | (simp [errW_none, errW_some] <;> rfl) | (simp [*, errW_none, errW_some] <;> rfl), by repeat (first | (with_reducible first | exact HB.out | apply below_alloc | apply pw_below_drewN | apply below_drew1) | exact HB.out)⟩
    · rw [if_neg c9] at H
      have c9b0 : (t270 != t266) = false := by simpa using c9
      (try (have c9b1 : decide (t270 = t266) = true := by simpa using c9))
      (try (have c9b2 : (t270 == t266) = true := by simpa using c9))
      clear c9
      replace H := Option.bind_eq_some_iff.mp H
      obtain ⟨t271, A170, H⟩ := H
      replace H : ((laws_eqItemS.f k t267 t271).bind fun t274 => (if t274 = true then (some true) else (some false))) = some r := H
      have A17 := Aside0.mk A170
      clear A170
      replace H := Option.bind_eq_some_iff.mp H
      obtain ⟨t274, A180, H⟩ := H
      replace H : (if t274 = true then (some true) else (some false)) = some r := H
      have A18 := Aside0.mk A180
      clear A180
      by_cases c19 : t274 = true
      · subst c19
        have H1 : (some true) = some r := by rw [if_pos rfl] at H; exact H
        clear H
        have H := H1
        clear H1
        obtain rfl := Option.some.inj H
        go_enter Tryd.func3, Tryd.ntmps3
        go_wp2_with (first | ((with_reducible refine gate_callee (f := 8) rfl ?_); refine goesL_ (some 9) rfl rfl Tryd.func8 (by kernel_rfl) rfl #[.slice A0 l0.length c0, .int .i64 1048576] rfl (by (try simp only [List.map_toArray, List.map_cons, List.map_nil]); first | done | rfl | (simp only [List.length_drop, List.length_take]; rfl)) ?_; (with_reducible refine (laws_szItemS.calls k _ _ l0 1048576 t262 _ ?side1 ?side2 A2.out).mono ?_); (case side1 => repeat (first | exact HR0.out | (with_reducible refine Kd.C_alloc ?_ _) | (with_reducible refine Kd.C_drewN ?_ _) | (with_reducible refine Kd.C_drew ?_))); (case side2 => exact HC0.out); rintro e w20 ⟨rfl, hb⟩; refine ⟨_, rfl, ?_⟩; have n0_ := Aside0.mk (below_step (by repeat (first | (with_reducible first | exact HB.out | apply below_alloc | apply pw_below_drewN | apply below_drew1) | exact HB.out)) hb); clear HB; have HB := n0_; clear n0_; (try clear hb); (try clear hb2); (try clear hk); (try clear hi)) | ((with_reducible refine gate_callee (f := 10) rfl ?_); refine goesL_ (some 13) rfl rfl Tryd.func10 (by kernel_rfl) rfl #[.slice A0 l0.length c0] rfl (by (try simp only [List.map_toArray, List.map_cons, List.map_nil]); first | done | rfl | (simp only [List.length_drop, List.length_take]; rfl)) ?_; (with_reducible refine (laws_toItemS.calls k _ _ l0 t263 _ ?side1 ?side2 A5.out).mono ?_); (case side1 => repeat (first | exact (Kd.C_below HR0.out HB.out) | (with_reducible refine Kd.C_alloc ?_ _) | (with_reducible refine Kd.C_drewN ?_ _) | (with_reducible refine Kd.C_drew ?_))); (case side2 => exact HC0.out); rintro e w21 ⟨v264, rfl, ho0, hb⟩; refine ⟨_, rfl, ?_⟩; have n0_ := Aside0.mk (Kd.R_lower ho0 (below_size (by repeat (first | (with_reducible first | exact HB.out | apply below_alloc | apply pw_below_drewN | apply below_drew1) | exact HB.out)))); have n1_ := Aside0.mk (below_step (by repeat (first | (with_reducible first | exact HB.out | apply below_alloc | apply pw_below_drewN | apply below_drew1) | exact HB.out)) hb); clear HB; have HO265 := n0_; have HB := n1_; clear n0_ n1_; (try clear hb); (try clear hb2); (try clear hk); (try clear hi); (try clear ho0); obtain ⟨Ao22, co22, eo22⟩ := Kd.R_slice HO265.out; subst eo22) | ((with_reducible refine gate_callee (f := 9) rfl ?_); refine goesL_ (some 14) rfl rfl Tryd.func9 (by kernel_rfl) rfl #[.slice Ao22 t263.length co22] rfl (by (try simp only [List.map_toArray, List.map_cons, List.map_nil]); first | done | rfl | (simp only [List.length_drop, List.length_take]; rfl)) ?_; (with_reducible refine (spec_GoodItems.calls k _ _ t263 t266 _ ?side1 ?side2 A6.out).mono ?_); (case side1 => repeat (first | exact (Kd.R_reads' HO265.out).2.2 | (with_reducible refine Kd.C_alloc ?_ _) | (with_reducible refine Kd.C_drewN ?_ _) | (with_reducible refine Kd.C_drew ?_))); (case side2 => exact (Kd.R_reads' HO265.out).2.1); rintro e w23 ⟨rfl, hb⟩; refine ⟨_, rfl, ?_⟩; have n0_ := Aside0.mk (Kd.R_below (by (with_reducible repeat (first | apply Kd.R_alloc | apply Kd.R_drewN | apply Kd.R_drew)); exact HO265.out) hb); have n1_ := Aside0.mk (below_step (by repeat (first | (with_reducible first | exact HB.out | apply below_alloc | apply pw_below_drewN | apply below_drew1) | exact HB.out)) hb); clear HO265; clear HB; have HO265 := n0_; have HB := n1_; clear n0_ n1_; (try clear hb); (try clear hb2); (try clear hk); (try clear hi)) | ((with_reducible refine gate_callee (f := 10) rfl ?_); refine goesL_ (some 16) rfl rfl Tryd.func10 (by kernel_rfl) rfl #[.slice A0 l0.length c0] rfl (by (try simp only [List.map_toArray, List.map_cons, List.map_nil]); first | done | rfl | (simp only [List.length_drop, List.length_take]; rfl)) ?_; (with_reducible refine (laws_toItemS.calls k _ _ l0 t267 _ ?side1 ?side2 A7.out).mono ?_); (case side1 => repeat (first | exact (Kd.C_below HR0.out HB.out) | (with_reducible refine Kd.C_alloc ?_ _) | (with_reducible refine Kd.C_drewN ?_ _) | (with_reducible refine Kd.C_drew ?_))); (case side2 => exact HC0.out); rintro e w24 ⟨v268, rfl, ho0, hb⟩; refine ⟨_, rfl, ?_⟩; have n0_ := Aside0.mk (Kd.R_elder' (by (with_reducible repeat (first | apply Kd.R_alloc | apply Kd.R_drewN | apply Kd.R_drew)); exact HO265.out) (Kd.R_base ho0) hb); have n1_ := Aside0.mk (Kd.R_lower (Kd.R_new' ho0 (Kd.R_lt (by (with_reducible repeat (first | apply Kd.R_alloc | apply Kd.R_drewN | apply Kd.R_drew)); exact HO265.out))) (below_size (by repeat (first | (with_reducible first | exact HB.out | apply below_alloc | apply pw_below_drewN | apply below_drew1) | exact HB.out)))); have n2_ := Aside0.mk (below_step (by repeat (first | (with_reducible first | exact HB.out | apply below_alloc | apply pw_below_drewN | apply below_drew1) | exact HB.out)) hb); clear HO265; clear HB; have HO265 := n0_; have HO269 := n1_; have HB := n2_; clear n0_ n1_ n2_; (try clear hb); (try clear hb2); (try clear hk); (try clear hi); (try clear ho0); obtain ⟨Ao25, co25, eo25⟩ := Kd.R_slice HO269.out; subst eo25) | ((with_reducible refine gate_callee (f := 11) rfl ?_); refine goesL_ (some 18) rfl rfl Tryd.func11 (by kernel_rfl) rfl #[.slice Ao25 t267.length co25] rfl (by (try simp only [List.map_toArray, List.map_cons, List.map_nil]); first | done | rfl | (simp only [List.length_drop, List.length_take]; rfl)) ?_; (with_reducible refine (impl_GoodItems.calls _ _ t267 t270 _ ?side1 ?side2 A8.out).mono ?_); (case side1 => repeat (first | exact (Kd.R_reads' HO269.out).2.2 | (with_reducible refine Kd.C_alloc ?_ _) | (with_reducible refine Kd.C_drewN ?_ _) | (with_reducible refine Kd.C_drew ?_))); (case side2 => exact (Kd.R_reads' HO269.out).2.1); rintro e w26 ⟨rfl, hb⟩; refine ⟨_, rfl, ?_⟩; have n0_ := Aside0.mk (Kd.R_below (by (with_reducible repeat (first | apply Kd.R_alloc | apply Kd.R_drewN | apply Kd.R_drew)); exact HO265.out) hb); have n1_ := Aside0.mk (Kd.R_below (by (with_reducible repeat (first | apply Kd.R_alloc | apply Kd.R_drewN | apply Kd.R_drew)); exact HO269.out) hb); have n2_ := Aside0.mk (below_step (by repeat (first | (with_reducible first | exact HB.out | apply below_alloc | apply pw_below_drewN | apply below_drew1) | exact HB.out)) hb); clear HO265; clear HO269; clear HB; have HO265 := n0_; have HO269 := n1_; have HB := n2_; clear n0_ n1_ n2_; (try clear hb); (try clear hb2); (try clear hk); (try clear hi)) | ((with_reducible refine gate_callee (f := 10) rfl ?_); refine goesL_ (some 24) rfl rfl Tryd.func10 (by kernel_rfl) rfl #[.slice A0 l0.length c0] rfl (by (try simp only [List.map_toArray, List.map_cons, List.map_nil]); first | done | rfl | (simp only [List.length_drop, List.length_take]; rfl)) ?_; (with_reducible refine (laws_toItemS.calls k _ _ l0 t271 _ ?side1 ?side2 A17.out).mono ?_); (case side1 => repeat (first | exact (Kd.C_below HR0.out HB.out) | (with_reducible refine Kd.C_alloc ?_ _) | (with_reducible refine Kd.C_drewN ?_ _) | (with_reducible refine Kd.C_drew ?_))); (case side2 => exact HC0.out); rintro e w27 ⟨v272, rfl, ho0, hb⟩; refine ⟨_, rfl, ?_⟩; have n0_ := Aside0.mk (Kd.R_elder' (by (with_reducible repeat (first | apply Kd.R_alloc | apply Kd.R_drewN | apply Kd.R_drew)); exact HO265.out) (Kd.R_base ho0) hb); have n1_ := Aside0.mk (Kd.R_elder' (by (with_reducible repeat (first | apply Kd.R_alloc | apply Kd.R_drewN | apply Kd.R_drew)); exact HO269.out) (Kd.R_base ho0) hb); have n2_ := Aside0.mk (Kd.R_lower (Kd.R_new' (Kd.R_new' ho0 (Kd.R_lt (by (with_reducible repeat (first | apply Kd.R_alloc | apply Kd.R_drewN | apply Kd.R_drew)); exact HO265.out))) (Kd.R_lt (by (with_reducible repeat (first | apply Kd.R_alloc | apply Kd.R_drewN | apply Kd.R_drew)); exact HO269.out))) (below_size (by repeat (first | (with_reducible first | exact HB.out | apply below_alloc | apply pw_below_drewN | apply below_drew1) | exact HB.out)))); have n3_ := Aside0.mk (below_step (by repeat (first | (with_reducible first | exact HB.out | apply below_alloc | apply pw_below_drewN | apply below_drew1) | exact HB.out)) hb); clear HO265; clear HO269; clear HB; have HO265 := n0_; have HO269 := n1_; have HO273 := n2_; have HB := n3_; clear n0_ n1_ n2_ n3_; (try clear hb); (try clear hb2); (try clear hk); (try clear hi); (try clear ho0); obtain ⟨Ao28, co28, eo28⟩ := Kd.R_slice HO273.out; subst eo28) | ((with_reducible refine gate_callee (f := 12) rfl ?_); refine goesL_ (some 25) rfl rfl Tryd.func12 (by kernel_rfl) rfl #[.slice Ao25 t267.length co25, .slice Ao28 t271.length co28] rfl (by (try simp only [List.map_toArray, List.map_cons, List.map_nil]); first | done | rfl | (simp only [List.length_drop, List.length_take]; rfl)) ?_; (with_reducible refine (laws_eqItemS.calls k _ _ t267 _ _ t271 true _ ?side1 ?side2 ?side3 ?side4 A18.out).mono ?_); (case side1 => repeat (first | exact (Kd.R_reads' HO269.out).2.2 | (with_reducible refine Kd.C_alloc ?_ _) | (with_reducible refine Kd.C_drewN ?_ _) | (with_reducible refine Kd.C_drew ?_))); (case side2 => exact (Kd.R_reads' HO269.out).2.1); (case side3 => repeat (first | exact (Kd.R_reads' HO273.out).2.2 | (with_reducible refine Kd.C_alloc ?_ _) | (with_reducible refine Kd.C_drewN ?_ _) | (with_reducible refine Kd.C_drew ?_))); (case side4 => exact (Kd.R_reads' HO273.out).2.1); rintro e w29 ⟨rfl, hb⟩; refine ⟨_, rfl, ?_⟩; have n0_ := Aside0.mk (Kd.R_below (by (with_reducible repeat (first | apply Kd.R_alloc | apply Kd.R_drewN | apply Kd.R_drew)); exact HO265.out) hb); have n1_ := Aside0.mk (Kd.R_below (by (with_reducible repeat (first | apply Kd.R_alloc | apply Kd.R_drewN | apply Kd.R_drew)); exact HO269.out) hb); have n2_ := Aside0.mk (Kd.R_below (by (with_reducible repeat (first | apply Kd.R_alloc | apply Kd.R_drewN | apply Kd.R_drew)); exact HO273.out) hb); have n3_ := Aside0.mk (below_step (by repeat (first | (with_reducible first | exact HB.out | apply below_alloc | apply pw_below_drewN | apply below_drew1) | exact HB.out)) hb); clear HO265; clear HO269; clear HO273; clear HB; have HO265 := n0_; have HO269 := n1_; have HO273 := n2_; have HB := n3_; clear n0_ n1_ n2_ n3_; (try clear hb); (try clear hb2); (try clear hk); (try clear hi)))
        go_ret
        exact ⟨by first | rfl | (simp [errW_none, errW_some] <;> rfl) | (simp [*, errW_none, errW_some] <;> rfl), by repeat (first | (with_reducible first | exact HB.out | apply below_alloc | apply pw_below_drewN | apply below_drew1) | exact HB.out)⟩
      · replace c19 := Bool.eq_false_iff.mpr c19
        subst c19
        have H1 : (some false) = some r := by rw [if_neg (show ¬ (false = true) by decide)] at H; exact H
        clear H
        have H := H1
        clear H1
        obtain rfl := Option.some.inj H
        go_enter Tryd.func3, Tryd.ntmps3
        go_wp2_with (first | ((with_reducible refine gate_callee (f := 8) rfl ?_); refine goesL_ (some 9) rfl rfl Tryd.func8 (by kernel_rfl) rfl #[.slice A0 l0.length c0, .int .i64 1048576] rfl (by (try simp only [List.map_toArray, List.map_cons, List.map_nil]); first | done | rfl | (simp only [List.length_drop, List.length_take]; rfl)) ?_; (with_reducible refine (laws_szItemS.calls k _ _ l0 1048576 t262 _ ?side1 ?side2 A2.out).mono ?_); (case side1 => repeat (first | exact HR0.out | (with_reducible refine Kd.C_alloc ?_ _) | (with_reducible refine Kd.C_drewN ?_ _) | (with_reducible refine Kd.C_drew ?_))); (case side2 => exact HC0.out); rintro e w30 ⟨rfl, hb⟩; refine ⟨_, rfl, ?_⟩; have n0_ := Aside0.mk (below_step (by repeat (first | (with_reducible first | exact HB.out | apply below_alloc | apply pw_below_drewN | apply below_drew1) | exact HB.out)) hb); clear HB; have HB := n0_; clear n0_; (try clear hb); (try clear hb2); (try clear hk); (try clear hi)) | ((with_reducible refine gate_callee (f := 10) rfl ?_); refine goesL_ (some 13) rfl rfl Tryd.func10 (by kernel_rfl) rfl #[.slice A0 l0.length c0] rfl (by (try simp only [List.map_toArray, List.map_cons, List.map_nil]); first | done | rfl | (simp only [List.length_drop, List.length_take]; rfl)) ?_; (with_reducible refine (laws_toItemS.calls k _ _ l0 t263 _ ?side1 ?side2 A5.out).mono ?_); (case side1 => repeat (first | exact (Kd.C_below HR0.out HB.out) | (with_reducible refine Kd.C_alloc ?_ _) | (with_reducible refine Kd.C_drewN ?_ _) | (with_reducible refine Kd.C_drew ?_))); (case side2 => exact HC0.out); rintro e w31 ⟨v264, rfl, ho0, hb⟩; refine ⟨_, rfl, ?_⟩; have n0_ := Aside0.mk (Kd.R_lower ho0 (below_size (by repeat (first | (with_reducible first | exact HB.out | apply below_alloc | apply pw_below_drewN | apply below_drew1) | exact HB.out)))); have n1_ := Aside0.mk (below_step (by repeat (first | (with_reducible first | exact HB.out | apply below_alloc | apply pw_below_drewN | apply below_drew1) | exact HB.out)) hb); clear HB; have HO265 := n0_; have HB := n1_; clear n0_ n1_; (try clear hb); (try clear hb2); (try clear hk); (try clear hi); (try clear ho0); obtain ⟨Ao32, co32, eo32⟩ := Kd.R_slice HO265.out; subst eo32) | ((with_reducible refine gate_callee (f := 9) rfl ?_); refine goesL_ (some 14) rfl rfl Tryd.func9 (by kernel_rfl) rfl #[.slice Ao32 t263.length co32] rfl (by (try simp only [List.map_toArray, List.map_cons, List.map_nil]); first | done | rfl | (simp only [List.length_drop, List.length_take]; rfl)) ?_; (with_reducible refine (spec_GoodItems.calls k _ _ t263 t266 _ ?side1 ?side2 A6.out).mono ?_); (case side1 => repeat (first | exact (Kd.R_reads' HO265.out).2.2 | (with_reducible refine Kd.C_alloc ?_ _) | (with_reducible refine Kd.C_drewN ?_ _) | (with_reducible refine Kd.C_drew ?_))); (case side2 => exact (Kd.R_reads' HO265.out).2.1); rintro e w33 ⟨rfl, hb⟩; refine ⟨_, rfl, ?_⟩; have n0_ := Aside0.mk (Kd.R_below (by (with_reducible repeat (first | apply Kd.R_alloc | apply Kd.R_drewN | apply Kd.R_drew)); exact HO265.out) hb); have n1_ := Aside0.mk (below_step (by repeat (first | (with_reducible first | exact HB.out | apply below_alloc | apply pw_below_drewN | apply below_drew1) | exact HB.out)) hb); clear HO265; clear HB; have HO265 := n0_; have HB := n1_; clear n0_ n1_; (try clear hb); (try clear hb2); (try clear hk); (try clear hi)) | ((with_reducible refine gate_callee (f := 10) rfl ?_); refine goesL_ (some 16) rfl rfl Tryd.func10 (by kernel_rfl) rfl #[.slice A0 l0.length c0] rfl (by (try simp only [List.map_toArray, List.map_cons, List.map_nil]); first | done | rfl | (simp only [List.length_drop, List.length_take]; rfl)) ?_; (with_reducible refine (laws_toItemS.calls k _ _ l0 t267 _ ?side1 ?side2 A7.out).mono ?_); (case side1 => repeat (first | exact (Kd.C_below HR0.out HB.out) | (with_reducible refine Kd.C_alloc ?_ _) | (with_reducible refine Kd.C_drewN ?_ _) | (with_reducible refine Kd.C_drew ?_))); (case side2 => exact HC0.out); rintro e w34 ⟨v268, rfl, ho0, hb⟩; refine ⟨_, rfl, ?_⟩; have n0_ := Aside0.mk (Kd.R_elder' (by (with_reducible repeat (first | apply Kd.R_alloc | apply Kd.R_drewN | apply Kd.R_drew)); exact HO265.out) (Kd.R_base ho0) hb); have n1_ := Aside0.mk (Kd.R_lower (Kd.R_new' ho0 (Kd.R_lt (by (with_reducible repeat (first | apply Kd.R_alloc | apply Kd.R_drewN | apply Kd.R_drew)); exact HO265.out))) (below_size (by repeat (first | (with_reducible first | exact HB.out | apply below_alloc | apply pw_below_drewN | apply below_drew1) | exact HB.out)))); have n2_ := Aside0.mk (below_step (by repeat (first | (with_reducible first | exact HB.out | apply below_alloc | apply pw_below_drewN | apply below_drew1) | exact HB.out)) hb); clear HO265; clear HB; have HO265 := n0_; have HO269 := n1_; have HB := n2_; clear n0_ n1_ n2_; (try clear hb); (try clear hb2); (try clear hk); (try clear hi); (try clear ho0); obtain ⟨Ao35, co35, eo35⟩ := Kd.R_slice HO269.out; subst eo35) | ((with_reducible refine gate_callee (f := 11) rfl ?_); refine goesL_ (some 18) rfl rfl Tryd.func11 (by kernel_rfl) rfl #[.slice Ao35 t267.length co35] rfl (by (try simp only [List.map_toArray, List.map_cons, List.map_nil]); first | done | rfl | (simp only [List.length_drop, List.length_take]; rfl)) ?_; (with_reducible refine (impl_GoodItems.calls _ _ t267 t270 _ ?side1 ?side2 A8.out).mono ?_); (case side1 => repeat (first | exact (Kd.R_reads' HO269.out).2.2 | (with_reducible refine Kd.C_alloc ?_ _) | (with_reducible refine Kd.C_drewN ?_ _) | (with_reducible refine Kd.C_drew ?_))); (case side2 => exact (Kd.R_reads' HO269.out).2.1); rintro e w36 ⟨rfl, hb⟩; refine ⟨_, rfl, ?_⟩; have n0_ := Aside0.mk (Kd.R_below (by (with_reducible repeat (first | apply Kd.R_alloc | apply Kd.R_drewN | apply Kd.R_drew)); exact HO265.out) hb); have n1_ := Aside0.mk (Kd.R_below (by (with_reducible repeat (first | apply Kd.R_alloc | apply Kd.R_drewN | apply Kd.R_drew)); exact HO269.out) hb); have n2_ := Aside0.mk (below_step (by repeat (first | (with_reducible first | exact HB.out | apply below_alloc | apply pw_below_drewN | apply below_drew1) | exact HB.out)) hb); clear HO265; clear HO269; clear HB; have HO265 := n0_; have HO269 := n1_; have HB := n2_; clear n0_ n1_ n2_; (try clear hb); (try clear hb2); (try clear hk); (try clear hi)) | ((with_reducible refine gate_callee (f := 10) rfl ?_); refine goesL_ (some 24) rfl rfl Tryd.func10 (by kernel_rfl) rfl #[.slice A0 l0.length c0] rfl (by (try simp only [List.map_toArray, List.map_cons, List.map_nil]); first | done | rfl | (simp only [List.length_drop, List.length_take]; rfl)) ?_; (with_reducible refine (laws_toItemS.calls k _ _ l0 t271 _ ?side1 ?side2 A17.out).mono ?_); (case side1 => repeat (first | exact (Kd.C_below HR0.out HB.out) | (with_reducible refine Kd.C_alloc ?_ _) | (with_reducible refine Kd.C_drewN ?_ _) | (with_reducible refine Kd.C_drew ?_))); (case side2 => exact HC0.out); rintro e w37 ⟨v272, rfl, ho0, hb⟩; refine ⟨_, rfl, ?_⟩; have n0_ := Aside0.mk (Kd.R_elder' (by (with_reducible repeat (first | apply Kd.R_alloc | apply Kd.R_drewN | apply Kd.R_drew)); exact HO265.out) (Kd.R_base ho0) hb); have n1_ := Aside0.mk (Kd.R_elder' (by (with_reducible repeat (first | apply Kd.R_alloc | apply Kd.R_drewN | apply Kd.R_drew)); exact HO269.out) (Kd.R_base ho0) hb); have n2_ := Aside0.mk (Kd.R_lower (Kd.R_new' (Kd.R_new' ho0 (Kd.R_lt (by (with_reducible repeat (first | apply Kd.R_alloc | apply Kd.R_drewN | apply Kd.R_drew)); exact HO265.out))) (Kd.R_lt (by (with_reducible repeat (first | apply Kd.R_alloc | apply Kd.R_drewN | apply Kd.R_drew)); exact HO269.out))) (below_size (by repeat (first | (with_reducible first | exact HB.out | apply below_alloc | apply pw_below_drewN | apply below_drew1) | exact HB.out)))); have n3_ := Aside0.mk (below_step (by repeat (first | (with_reducible first | exact HB.out | apply below_alloc | apply pw_below_drewN | apply below_drew1) | exact HB.out)) hb); clear HO265; clear HO269; clear HB; have HO265 := n0_; have HO269 := n1_; have HO273 := n2_; have HB := n3_; clear n0_ n1_ n2_ n3_; (try clear hb); (try clear hb2); (try clear hk); (try clear hi); (try clear ho0); obtain ⟨Ao38, co38, eo38⟩ := Kd.R_slice HO273.out; subst eo38) | ((with_reducible refine gate_callee (f := 12) rfl ?_); refine goesL_ (some 25) rfl rfl Tryd.func12 (by kernel_rfl) rfl #[.slice Ao35 t267.length co35, .slice Ao38 t271.length co38] rfl (by (try simp only [List.map_toArray, List.map_cons, List.map_nil]); first | done | rfl | (simp only [List.length_drop, List.length_take]; rfl)) ?_; (with_reducible refine (laws_eqItemS.calls k _ _ t267 _ _ t271 false _ ?side1 ?side2 ?side3 ?side4 A18.out).mono ?_); (case side1 => repeat (first | exact (Kd.R_reads' HO269.out).2.2 | (with_reducible refine Kd.C_alloc ?_ _) | (with_reducible refine Kd.C_drewN ?_ _) | (with_reducible refine Kd.C_drew ?_))); (case side2 => exact (Kd.R_reads' HO269.out).2.1); (case side3 => repeat (first | exact (Kd.R_reads' HO273.out).2.2 | (with_reducible refine Kd.C_alloc ?_ _) | (with_reducible refine Kd.C_drewN ?_ _) | (with_reducible refine Kd.C_drew ?_))); (case side4 => exact (Kd.R_reads' HO273.out).2.1); rintro e w39 ⟨rfl, hb⟩; refine ⟨_, rfl, ?_⟩; have n0_ := Aside0.mk (Kd.R_below (by (with_reducible repeat (first | apply Kd.R_alloc | apply Kd.R_drewN | apply Kd.R_drew)); exact HO265.out) hb); have n1_ := Aside0.mk (Kd.R_below (by (with_reducible repeat (first | apply Kd.R_alloc | apply Kd.R_drewN | apply Kd.R_drew)); exact HO269.out) hb); have n2_ := Aside0.mk (Kd.R_below (by (with_reducible repeat (first | apply Kd.R_alloc | apply Kd.R_drewN | apply Kd.R_drew)); exact HO273.out) hb); have n3_ := Aside0.mk (below_step (by repeat (first | (with_reducible first | exact HB.out | apply below_alloc | apply pw_below_drewN | apply below_drew1) | exact HB.out)) hb); clear HO265; clear HO269; clear HO273; clear HB; have HO265 := n0_; have HO269 := n1_; have HO273 := n2_; have HB := n3_; clear n0_ n1_ n2_ n3_; (try clear hb); (try clear hb2); (try clear hk); (try clear hi)))
        go_ret
        exact ⟨by first | rfl | (simp [errW_none, errW_some] <;> rfl) | (simp [*, errW_none, errW_some] <;> rfl), by repeat (first | (with_reducible first | exact HB.out | apply below_alloc | apply pw_below_drewN | apply below_drew1) | exact HB.out)⟩

end Go.Proofs.YtibfocaldcjiiaaDoor.Q

/- The reference's stack of open ways comes to what the program asks. -/
namespace Go.Proofs.YtibfocaldcjiiaaDoor.Q
open Go.RowKit Go.Proofs.YtibfocaldcjiiaaDoorW.PrintWords Go.Proofs.YtibfocaldcjiiaaDoorW.PrintLast Go.Proofs.YtibfocaldcjiiaaDoorW.PrintMore
attribute [local go_sem] max2_int min2_int max_two min_two max_three min_three max_four min_four   -- for this text's walks alone
set_option linter.unusedVariables false
set_option linter.unusedSimpArgs false

theorem namesW_len2 (s : ByteArray) (hs : s.size < 4294967281) : (namesW s).length ≤ 4294967282 := namesW_len s hs
def wayB (N : List ByteArray) : ByteArray := ⟨(wayT N).toArray⟩
theorem wayB_toList (N : List ByteArray) : (wayB N).toList = wayT N := by rw [ByteArray.toList_eq]; simp [wayB]
theorem wayB_names (s : ByteArray) : wayB (namesW s) = s := Go.WideShapes.bytes_inj (by rw [← way_names s]; simp [wayB])
theorem wayB_above {s : ByteArray} {P : List ByteArray} {n : ByteArray} (h : namesW s = P ++ [n]) (hn : nameOkB n = true) : aboveB s = wayB P :=
  Go.WideShapes.bytes_inj (by rw [(above_way h hn).1]; simp [wayB])
def ini (M : List ByteArray) : List ByteArray := (List.range (M.length + 1)).map fun j => wayB (M.take j)
theorem ini_len (M : List ByteArray) : (ini M).length = M.length + 1 := by simp [ini]
theorem ini_get (M : List ByteArray) (j : Nat) (h : j < (ini M).length) : (ini M)[j] = wayB (M.take j) := by simp [ini]
theorem ini_take (M : List ByteArray) (p : Nat) (hp : p ≤ M.length) : (ini M).take (p + 1) = ini (M.take p) := by
  refine List.ext_getElem (by rw [List.length_take, ini_len, ini_len, List.length_take]; omega) (fun j h1 h2 => ?_)
  rw [List.getElem_take, ini_get, ini_get, List.take_take]
  rw [ini_len, List.length_take] at h2
  rw [Nat.min_eq_left (by omega)]
theorem ini_snoc (P : List ByteArray) (n : ByteArray) : ini (P ++ [n]) = ini P ++ [wayB (P ++ [n])] := by
  have h1 := ini_take (P ++ [n]) P.length (by simp)
  rw [List.take_left] at h1
  have h2 : ini (P ++ [n]) = (ini (P ++ [n])).take (P.length + 1) ++ (ini (P ++ [n])).drop (P.length + 1) := (List.take_append_drop _ _).symm
  rw [h1] at h2
  rw [h2]
  congr 1
  have hl : P.length + 1 < (ini (P ++ [n])).length := by rw [ini_len]; simp
  rw [List.drop_eq_getElem_cons hl, ini_get, List.drop_of_length_le (by rw [ini_len]; simp)]
  rw [List.take_of_length_le (by simp)]
def opn (M : List ByteArray) (c : Nat) : List ByteArray := (ini M).take c
def lst (M : List ByteArray) (c : Nat) : List ByteArray := (M ++ [(⟨#[]⟩ : ByteArray)]).take c
theorem opn_len (M : List ByteArray) (c : Nat) (h : c ≤ M.length + 1) : (opn M c).length = c := by simp [opn, ini_len]; omega
theorem lst_len (M : List ByteArray) (c : Nat) (h : c ≤ M.length + 1) : (lst M c).length = c := by simp [lst]; omega
theorem opn_get (M : List ByteArray) (c j : Nat) (h : j < (opn M c).length) : (opn M c)[j] = wayB (M.take j) := by
  have h' : j < ((ini M).take c).length := h
  show ((ini M).take c)[j]'h' = _
  rw [List.getElem_take, ini_get]
theorem lst_get (M : List ByteArray) (c j : Nat) (hc : c ≤ M.length + 1) (h : j < (lst M c).length) : (lst M c)[j] = (M ++ [(⟨#[]⟩ : ByteArray)]).getD j ⟨#[]⟩ := by
  have h' : j < ((M ++ [(⟨#[]⟩ : ByteArray)]).take c).length := h
  show ((M ++ [(⟨#[]⟩ : ByteArray)]).take c)[j]'h' = _
  rw [List.length_take] at h'
  rw [List.getElem_take, List.getD_eq_getElem?_getD, List.getElem?_eq_getElem (by omega)]
  rfl
theorem lst_set (M : List ByteArray) (p : Nat) (w : ByteArray) (hp : p ≤ M.length) : (lst M (p + 1)).set p w = M.take p ++ [w] := by
  have hlt : p < (M ++ [(⟨#[]⟩ : ByteArray)]).length := by simp; omega
  unfold lst
  rw [List.take_add_one, List.getElem?_eq_getElem hlt, List.take_append_of_le_length hp]
  have hl : (M.take p).length = p := by simp; omega
  rw [List.set_append_right _ _ (by omega), hl]
  simp
theorem wayB_ne {M N : List ByteArray} (hM : ∀ p ∈ M, nameOkB p = true) (hN : ∀ p ∈ N, nameOkB p = true) (h : (wayB M).toList = (wayB N).toList) : M = N := by
  rw [wayB_toList, wayB_toList] at h
  exact wayT_inj hM hN h
set_option maxHeartbeats 1000000 in
theorem pop_ev (x5 x6 : ByteArray) (M P : List ByteArray) (w : ByteArray) (p : Nat) (hM : ∀ q ∈ M, nameOkB q = true) (hP : M.take p = P) (hp : p ≤ M.length) (hl : M.length ≤ 4294967282) (r : List It) (n i : Int)
    (y0 : ByteArray) (y1 y2 y3 y4 y5 y6 : Int) (y7 : ByteArray) (R : Bool)
    (hnext : Ev (fun k => if y1 = 2 then spec_l17Next.l0 k x5 x6 (ini P ++ [y0]) ((P ++ [w]) ++ [(⟨#[]⟩ : ByteArray)]) r n (wrap64 (i + 1)) else spec_l17Next.l0 k x5 x6 (ini P) (P ++ [w]) r n (wrap64 (i + 1))) R) (e : Nat) :
    p + 1 + e ≤ M.length + 1 → Ev (fun k => spec_l17Next.l1 k x5 x6 (opn M (p + 1 + e)) (lst M (p + 1 + e)) (wayB P) w r n i y0 y1 y2 y3 y4 y5 y6 y7) R := by
  have hPn : ∀ q ∈ P, nameOkB q = true := fun q hq => hM q (by rw [← hP] at hq; exact List.mem_of_mem_take hq)
  have hPl : P.length = p := by rw [← hP]; simp; omega
  induction e with
  | zero =>
    intro hc
    have e1 : opn M (p + 1 + 0) = ini P := by rw [Nat.add_zero]; unfold opn; rw [ini_take M p hp, hP]
    have e2 : wrap64 (((ini P).length : Int) - 1) = (p : Int) := by rw [ini_len]; unfold wrap64; omega
    have e3 := lst_len M (p + 1 + 0) hc
    have e4 : wrap64 (((lst M (p + 1 + 0)).length : Int) - 1) = (p : Int) := by rw [e3]; unfold wrap64; omega
    have e5 : rdOf ByteArray.empty (ini P) (p : Int) = wayB P := by
      rw [rdS _ _ (by rw [ini_len]; omega), ini_get, List.take_of_length_le (by omega)]
    refine Ev.step (fun k => ?_) hnext
    simp only [spec_l17Next.l1]
    rw [e1, e2, e4, if_pos (by omega), if_pos (by rw [ini_len]; omega), e5, if_pos rfl, if_pos (by omega), if_pos (by omega), Int.toNat_natCast, Nat.add_zero, lst_set M p w hp, hP]
    simp only [Option.bind_some]
    by_cases h2 : y1 = 2
    · rw [if_pos h2, if_pos h2, if_pos (by rw [ini_len]; omega), if_pos (by rw [List.length_append, List.length_singleton]; omega)]
    · rw [if_neg h2, if_neg h2]
  | succ e ih =>
    intro hc
    have e3 := lst_len M (p + 1 + (e + 1)) hc
    have e6 := opn_len M (p + 1 + (e + 1)) hc
    have e2 : wrap64 (((opn M (p + 1 + (e + 1))).length : Int) - 1) = ((p + 1 + e : Nat) : Int) := by rw [e6]; unfold wrap64; omega
    have e4 : wrap64 (((lst M (p + 1 + (e + 1))).length : Int) - 1) = ((p + 1 + e : Nat) : Int) := by rw [e3]; unfold wrap64; omega
    have e5 : rdOf ByteArray.empty (opn M (p + 1 + (e + 1))) ((p + 1 + e : Nat) : Int) = wayB (M.take (p + 1 + e)) := by
      rw [rdS _ _ (by rw [e6]; omega), opn_get]
    have hne : ¬ (wayB (M.take (p + 1 + e))).toList = (wayB P).toList := by
      intro h
      have := wayB_ne (fun q hq => hM q (List.mem_of_mem_take hq)) hPn h
      have := congrArg List.length this
      rw [List.length_take] at this
      omega
    have t1 : (opn M (p + 1 + (e + 1))).take (p + 1 + e) = opn M (p + 1 + e) := by unfold opn; rw [List.take_take, Nat.min_eq_left (by omega)]
    have t2 : (lst M (p + 1 + (e + 1))).take (p + 1 + e) = lst M (p + 1 + e) := by unfold lst; rw [List.take_take, Nat.min_eq_left (by omega)]
    refine Ev.step (fun k => ?_) (ih (by omega))
    simp only [spec_l17Next.l1]
    rw [e2, e4, if_pos (by omega), if_pos (by rw [e6]; omega), e5, if_neg hne, if_pos (by omega), if_pos (by omega), if_pos (by omega), Int.toNat_natCast, t1, t2]
def cnI (l : List It) (i : Nat) : Nat := (nmA l i).length + (if dirI l i = true then 1 else 0)
theorem cnI_le (l : List It) (i : Nat) : cnI l i ≤ (nmA l i).length + 1 := by unfold cnI; split <;> omega
set_option maxHeartbeats 1000000 in
theorem stack_ev {l : List It} {k : Nat} (h : Pre l k) (hk : k ≤ 1000) (hs : ∀ i, (itAt l i).f0.size < 4294967281) (r : List It) (hr : r.length + 1 = k) (hri : ∀ i (hi : i < r.length), r[i] = itAt l (i + 1)) (x5 x6 : ByteArray) (R : Bool)
    (hend : Ev (fun q => spec_l17Next.l2 q x5 x6 (lst (nmA l (k - 1)) (cnI l (k - 1))) (opn (nmA l (k - 1)) (cnI l (k - 1))) ((opn (nmA l (k - 1)) (cnI l (k - 1))).length : Int) 0) R) (d : Nat) :
    ∀ i, i + d = r.length → Ev (fun q => spec_l17Next.l0 q x5 x6 (opn (nmA l i) (cnI l i)) (lst (nmA l i) (cnI l i)) r (r.length : Int) (i : Int)) R := by
  induction d with
  | zero =>
    intro i hi
    have : i = k - 1 := by omega
    subst this
    refine Ev.step (fun q => ?_) hend
    simp only [spec_l17Next.l0]
    rw [if_neg (by omega)]
  | succ d ih =>
    intro i hi
    have hlt : i < r.length := by omega
    obtain ⟨P, n, e, hn, hP⟩ := h.snoc (i := i + 1) (by omega) (by omega)
    have hok := h.ok (i + 1) (by omega)
    obtain ⟨j, hj, ej, hdj⟩ := h.told (K := i + 1) (by omega) hn hP e (h.dir (i + 1) (by omega) (by omega))
    have hc := h.lt i (by omega)
    rw [e] at hc
    obtain ⟨f1, f2⟩ := h.fits' (K := i) (by omega) (show j ≤ i by omega) ej hdj hc
    have hsp := l17Split_ev (itAt l (i + 1)).f0 (hs _) P n e hok
    rw [wayB_above e hn] at hsp
    have hw : wayB (P ++ [n]) = (itAt l (i + 1)).f0 := by rw [← e]; exact wayB_names _
    refine Ev.step (f := fun q => (spec_l17Split.f q ((itAt l (i + 1)).f0)).bind fun bt167 => spec_l17Next.l1 q x5 x6 (opn (nmA l i) (cnI l i)) (lst (nmA l i) (cnI l i)) bt167.1 bt167.2 r (r.length : Int) (i : Int) (itAt l (i + 1)).f0 (itAt l (i + 1)).f1 (itAt l (i + 1)).f2 (itAt l (i + 1)).f3 (itAt l (i + 1)).f4 (itAt l (i + 1)).f5 (itAt l (i + 1)).f6 (itAt l (i + 1)).f7) (fun q => ?_) ?_
    · simp only [spec_l17Next.l0]
      rw [if_pos (by omega), if_pos (by omega), if_pos (by omega), rdI r i hlt, hri i hlt]
    · refine Ev.bind hsp ?_
      have hlen := namesW_len2 (itAt l i).f0 (hs i)
      have hcn : cnI l i = P.length + 1 + (cnI l i - (P.length + 1)) := by unfold cnI; omega
      rw [hcn]
      refine pop_ev x5 x6 (nmA l i) P n P.length (h.names (by omega)) f1 (by unfold cnI at hcn; split at hcn <;> omega) hlen r _ _ _ _ _ _ _ _ _ _ R ?_ _ (by rw [← hcn]; exact cnI_le l i)
      have hih := ih (i + 1) (by omega)
      rw [step_n hlt (by omega)]
      have hnl : (nmA l (i + 1)).length = P.length + 1 := by rw [e]; simp
      by_cases hd : (itAt l (i + 1)).f1 = 2
      · have hdi : dirI l (i + 1) = true := by unfold dirI; simpa using hd
        refine Ev.congr (fun q => ?_) hih
        rw [if_pos hd]
        have a1 : opn (nmA l (i + 1)) (cnI l (i + 1)) = ini P ++ [(itAt l (i + 1)).f0] := by
          unfold opn cnI
          rw [hdi, if_pos rfl, List.take_of_length_le (by rw [ini_len]; omega), e, ini_snoc, hw]
        have a2 : lst (nmA l (i + 1)) (cnI l (i + 1)) = (P ++ [n]) ++ [(⟨#[]⟩ : ByteArray)] := by
          unfold lst cnI
          rw [hdi, if_pos rfl, List.take_of_length_le (by simp), e]
        rw [a1, a2]
      · have hdi : ¬ dirI l (i + 1) = true := by unfold dirI; simpa using hd
        refine Ev.congr (fun q => ?_) hih
        rw [if_neg hd]
        have a1 : opn (nmA l (i + 1)) (cnI l (i + 1)) = ini P := by
          unfold opn cnI
          rw [if_neg hdi, Nat.add_zero, hnl, ini_take _ _ (by omega), e, List.take_left]
        have a2 : lst (nmA l (i + 1)) (cnI l (i + 1)) = P ++ [n] := by
          unfold lst cnI
          rw [if_neg hdi, Nat.add_zero, List.take_left, e]
        rw [a1, a2]
theorem find_ev (M P : List ByteArray) (n : ByteArray) (d : Bool) (hM : ∀ q ∈ M, nameOkB q = true) (hP : ∀ q ∈ P, nameOkB q = true) (hl : M.length ≤ 4294967282) (c : Nat) (hc : c = M.length + (if d = true then 1 else 0)) (m : Nat) :
    ∀ j, j + m = c → (M.take P.length = P → P.length < c → j ≤ P.length) → Ev (fun k => spec_l17Next.l2 k (wayB P) n (lst M c) (opn M c) ((opn M c).length : Int) (j : Int)) (nextB M d P n) := by
  have hcl : c ≤ M.length + 1 := by rw [hc]; split <;> omega
  have l1 := opn_len M c hcl
  have l2 := lst_len M c hcl
  induction m with
  | zero =>
    intro j hj hg
    have hf : nextB M d P n = false := by
      unfold nextB
      rw [decide_eq_false, Bool.false_and]
      rintro ⟨g1, g2⟩
      rw [← hc] at g2
      have := hg g1 g2
      omega
    rw [hf]
    refine Ev.step (f := fun _ => some false) (fun k => ?_) (Ev.now _)
    simp only [spec_l17Next.l2]
    rw [if_neg (by omega)]
  | succ m ih =>
    intro j hj hg
    have e5 : rdOf ByteArray.empty (opn M c) (j : Int) = wayB (M.take j) := by rw [rdS _ _ (by omega), opn_get]
    by_cases hm : M.take j = P
    · have hPl : P.length = j := by rw [← hm]; simp; omega
      have hv : nextB M d P n = Op.bytesLess (rdOf ByteArray.empty (lst M c) (j : Int)).toList n.toList := by
        unfold nextB
        rw [hPl, hm, ← hc, decide_eq_true ⟨rfl, by omega⟩, Bool.true_and, rdS _ _ (by omega), lst_get M c j hcl (by omega)]
      rw [hv]
      refine Ev.step (f := fun _ => some (Op.bytesLess (rdOf ByteArray.empty (lst M c) (j : Int)).toList n.toList)) (fun k => ?_) (Ev.now _)
      simp only [spec_l17Next.l2]
      rw [if_pos (by omega), if_pos (by omega), if_pos (by omega), e5, hm, if_pos rfl, if_pos (by omega)]
    · have hne : ¬ (wayB (M.take j)).toList = (wayB P).toList := fun h => hm (wayB_ne (fun q hq => hM q (List.mem_of_mem_take hq)) hP h)
      refine Ev.step (fun k => ?_) (ih (j + 1) (by omega) (fun g1 g2 => ?_))
      · simp only [spec_l17Next.l2]
        rw [if_pos (by omega), if_pos (by omega), if_pos (by omega), e5, if_neg hne, step_n (show j < c by omega) (by omega)]
      · have := hg g1 g2
        rcases Nat.lt_or_ge j P.length with h | h
        · omega
        · have : j = P.length := by omega
          subst this
          exact absurd g1 hm
theorem next_ev {l : List It} {K : Nat} (h : Pre l (K + 1)) (hK : K + 1 ≤ 1000) (hl : K + 1 ≤ l.length) (hs : ∀ i, (itAt l i).f0.size < 4294967281) (x : It) (hx : x.f0.size < 4294967281) :
    Ev (fun k => spec_l17Next.f k (l.take (K + 1)) x.f0 x.f1 x.f2 x.f3 x.f4 x.f5 x.f6 x.f7) (namesOk x.f0 && (dirAt l (K + 1) (aboveB x.f0).toList && decide (cmpW (itAt l K).f0 x.f0 < 0))) := by
  unfold spec_l17Next.f
  refine Ev.bind (l17Way_ev x.f0 hx) ?_
  unfold innerB
  by_cases ho : namesOk x.f0 = true
  · by_cases hN : namesW x.f0 = []
    · rw [ho, hN]
      have : ¬ cmpW (itAt l K).f0 x.f0 < 0 := by
        unfold cmpW; rw [hN]
        cases namesW (itAt l K).f0 <;> simp [cmpL]
      rw [decide_eq_false this, Bool.and_false]
      exact Ev.now _
    · have hne : (namesW x.f0).isEmpty = false := by cases hq : namesW x.f0 <;> simp [hq] at hN ⊢
      have hnames : ∀ p ∈ namesW x.f0, nameOkB p = true := by rw [namesOk_eq, List.all_eq_true] at ho; exact ho
      have e : namesW x.f0 = (namesW x.f0).dropLast ++ [(namesW x.f0).getLast hN] := (List.dropLast_concat_getLast hN).symm
      have hn := hnames _ (List.getLast_mem hN)
      have hP : ∀ p ∈ (namesW x.f0).dropLast, nameOkB p = true := fun p hp => hnames p (List.dropLast_subset _ hp)
      generalize (namesW x.f0).dropLast = P at e hP
      generalize (namesW x.f0).getLast hN = n at e hn
      rw [ho, hne]
      have hq := next_eq h hn hP e
      rw [Bool.true_and]
      show Ev _ (dirAt l (K + 1) (aboveB x.f0).toList && decide (cmpL (nmA l K) (namesW x.f0) < 0))
      rw [e, ← hq]
      have hsp := l17Split_ev x.f0 hx P n e ho
      rw [wayB_above e hn] at hsp
      refine Ev.congr (f := fun k => (spec_l17Split.f k x.f0).bind fun bt153 => spec_l17Next.l0 k bt153.1 bt153.2 (opn (nmA l 0) (cnI l 0)) (lst (nmA l 0) (cnI l 0)) ((l.take (K + 1)).drop 1) (((l.take (K + 1)).drop 1).length : Int) ((0 : Nat) : Int)) (fun k => ?_) ?_
      · have c0 : cnI l 0 = 1 := by unfold cnI; rw [h.zero, h.rdir]; rfl
        have c1 : (1 : Int) ≤ ((l.take (K + 1)).length : Int) := by rw [List.length_take]; omega
        rw [c0, h.zero]
        simp only [if_pos c1, Option.bind_some]
        rfl
      · refine Ev.bind hsp ?_
        refine stack_ev h hK hs _ (by simp; omega) (fun i hi => ?_) _ _ _ ?_ ((l.take (K + 1)).drop 1).length 0 (by omega)
        · have hi' : i < K := by simp at hi; omega
          rw [List.getElem_drop, List.getElem_take]
          have h1 : itAt l (i + 1) = l[i + 1] := rdI l (i + 1) (by omega)
          rw [h1]
          exact getElem_congr_idx (by omega)
        · rw [Nat.add_sub_cancel]
          exact find_ev (nmA l K) P n (dirI l K) (h.names (by omega)) hP (namesW_len2 _ (hs K)) (cnI l K) rfl (cnI l K) 0 (by omega) (fun _ _ => Nat.zero_le _)
  · have ho' : namesOk x.f0 = false := by simpa using ho
    rw [ho']
    exact Ev.now _

end Go.Proofs.YtibfocaldcjiiaaDoor.Q

/- The reference's GoodItems comes to what the program's does. -/
namespace Go.Proofs.YtibfocaldcjiiaaDoor.Q
open Go.RowKit Go.Proofs.YtibfocaldcjiiaaDoorW.PrintWords Go.Proofs.YtibfocaldcjiiaaDoorW.PrintLast Go.Proofs.YtibfocaldcjiiaaDoorW.PrintMore
attribute [local go_sem] max2_int min2_int max_two min_two max_three min_three max_four min_four   -- for this text's walks alone
set_option linter.unusedVariables false
set_option linter.unusedSimpArgs false

def aloneB (x : It) (i : Int) : Bool := inB 1 3 x.f1 && (inB 0 i x.f6 && (if x.f6 < i then x.f1 != 2 && zerosB x else bareB x.f1 x.f2 x.f3 x.f4 x.f5 x.f7))
def sameB (l : List It) (x : It) : Bool := (itAt l x.f6.toNat).f6 == x.f6 && (itAt l x.f6.toNat).f1 == x.f1
theorem steps_mem {l : List It} {n j : Nat} (h : stepsB l n = true) (hj : j < n) : stepB l j = true := by
  unfold stepsB at h
  rw [List.all_eq_true] at h
  exact h j (List.mem_range.mpr hj)
theorem inB_iff (lo hi n : Int) : inB lo hi n = true ↔ lo ≤ n ∧ n ≤ hi := by unfold inB; simp
theorem item_eq (l : List It) (i : Nat) (hp : ∀ j, j < i → goodItemB l j = true) : goodItemB l i = (aloneB (itAt l i) i && sameB l (itAt l i)) := by
  unfold goodItemB aloneB sameB
  generalize hx : itAt l i = x
  by_cases h6 : x.f6 = (i : Int)
  · rw [if_pos h6, h6, Int.toNat_natCast, hx, h6, (inB_iff 0 i i).mpr (by omega), if_neg (by omega)]
    simp
  · rw [if_neg h6]
    by_cases hb : inB 0 ((i : Int) - 1) x.f6 = true
    · have hb2 := (inB_iff _ _ _).mp hb
      rw [hb, (inB_iff 0 i x.f6).mpr (by omega), if_pos (by omega)]
      by_cases hs : (itAt l x.f6.toNat).f6 = x.f6 ∧ (itAt l x.f6.toNat).f1 = x.f1
      · obtain ⟨s1, s2⟩ := hs
        have hg := hp x.f6.toNat (by omega)
        unfold goodItemB at hg
        rw [if_pos (by rw [s1]; omega), s2] at hg
        have hk : inB 1 3 x.f1 = true := by
          rw [Bool.and_eq_true] at hg; exact hg.1
        rw [s1, s2, hk]
        simp only [beq_self_eq_true, Bool.true_and, Bool.and_true]
        exact Bool.and_comm _ _
      · by_cases s1 : (itAt l x.f6.toNat).f6 = x.f6
        · have s2 : ((itAt l x.f6.toNat).f1 == x.f1) = false := by
            apply beq_eq_false_iff_ne.mpr
            intro s2; exact hs ⟨s1, s2⟩
          rw [s2]; simp
        · have s1' : ((itAt l x.f6.toNat).f6 == x.f6) = false := beq_eq_false_iff_ne.mpr s1
          rw [s1']; simp
    · have hb' : inB 0 ((i : Int) - 1) x.f6 = false := by simpa using hb
      have hb2 : inB 0 (i : Int) x.f6 = false := by
        apply Bool.eq_false_iff.mpr
        intro h
        rw [inB_iff] at h hb
        omega
      rw [hb', hb2]; simp
theorem alone_f (x : It) (i : Int) (hx : x.f7.size < 4294967281) : spec_l17Alone.f x.f0 x.f1 x.f2 x.f3 x.f4 x.f5 x.f6 x.f7 i = some (aloneB x i) := by
  unfold spec_l17Alone.f
  rw [if_pos hx]
  rfl
theorem steps_pre {l : List It} {i : Nat} (h : stepsB l i = true) (hi : 1 ≤ i) (hr : (itAt l 0).f0.toList = [46]) (hd : dirI l 0 = true) : Pre l i := by
  have hst : ∀ j, j < i → namesOk (itAt l j).f0 = true ∧ (0 < j → dirAt l j (aboveB (itAt l j).f0).toList = true ∧ cmpW (itAt l (j - 1)).f0 (itAt l j).f0 < 0) := by
    intro j hj
    have := steps_mem h hj
    unfold stepB at this
    rw [Bool.and_eq_true, Bool.and_eq_true] at this
    refine ⟨this.1, fun h0 => ?_⟩
    have h2 := this.2.2
    rw [decide_eq_false (by omega), Bool.false_or, Bool.and_eq_true, decide_eq_true_eq] at h2
    exact h2
  exact ⟨hr, hd, fun j hj => (hst j hj).1, fun j h0 hj => ((hst j hj).2 h0).1, fun j hj => ((hst (j + 1) hj).2 (by omega)).2⟩
set_option maxHeartbeats 1000000 in
theorem good_loop (l : List It) (hl : l.length ≤ 40) (hr : (itAt l 0).f0.toList = [46]) (hd : dirI l 0 = true ∨ l.length = 1) (hs0 : ∀ i, (itAt l i).f0.size < 4294967281) (hs7 : ∀ i, (itAt l i).f7.size < 4294967281) (d : Nat) :
    ∀ i : Nat, i + d = l.length → stepsB l i = true → Ev (fun k => spec_l17Good.l0 k l l (l.length : Int) (i : Int)) (stepsB l l.length) := by
  induction d with
  | zero =>
    intro i hi h
    have : i = l.length := by omega
    subst this
    rw [h]
    refine Ev.step (f := fun _ => some true) (fun k => ?_) (Ev.now _)
    simp only [spec_l17Good.l0]
    rw [if_neg (by omega)]
  | succ d ih =>
    intro i hi h
    have hlt : i < l.length := by omega
    have hgi : ∀ j, j < i → goodItemB l j = true := fun j hj => by
      have := steps_mem h hj
      unfold stepB at this
      rw [Bool.and_eq_true, Bool.and_eq_true] at this
      exact this.2.1
    have hite := item_eq l i hgi
    have hrd : rd_T50 l (i : Int) = itAt l i := rfl
    have hal := alone_f (itAt l i) (i : Int) (hs7 i)
    have hfalse : stepB l i = false → stepsB l l.length = false := fun hf => stepsB_false l i hf _ hlt
    have hj2 : ∀ b : Bool, aloneB (itAt l i) i = true → (b = true → stepB l i = false) → (b = false → stepB l i = goodItemB l i) →
        Ev (fun k => spec_l17Good.j2 k l l (l.length : Int) (i : Int) b (itAt l i).f0 (itAt l i).f1 (itAt l i).f2 (itAt l i).f3 (itAt l i).f4 (itAt l i).f5 (itAt l i).f6 (itAt l i).f7) (stepsB l l.length) := by
      intro b ha hb1 hb2
      cases b with
      | true =>
        rw [hfalse (hb1 rfl)]
        refine Ev.step (f := fun _ => some false) (fun k => ?_) (Ev.now _)
        simp only [spec_l17Good.j2, if_true]
      | false =>
        have hst := hb2 rfl
        rw [hite, ha, Bool.true_and] at hst
        have hrange : 0 ≤ (itAt l i).f6 ∧ (itAt l i).f6 ≤ i := by
          unfold aloneB at ha
          rw [Bool.and_eq_true, Bool.and_eq_true, inB_iff, inB_iff] at ha
          exact ha.2.1
        have hrd2 : rd_T50 l (itAt l i).f6 = itAt l (itAt l i).f6.toNat := rfl
        by_cases s1 : (itAt l (itAt l i).f6.toNat).f6 = (itAt l i).f6
        · by_cases s2 : (itAt l (itAt l i).f6.toNat).f1 = (itAt l i).f1
          · have hstep : stepB l i = true := by rw [hst]; unfold sameB; rw [beq_iff_eq.mpr s1, beq_iff_eq.mpr s2]; rfl
            refine Ev.step (fun k => ?_) (ih (i + 1) (by omega) (by rw [stepsB_succ, h, hstep]; rfl))
            simp only [spec_l17Good.j2]
            rw [if_neg (by simp), if_pos (by omega), if_pos (by omega), hrd2, if_pos s1, if_pos s2, step_n hlt (by omega)]
          · have hstep : stepB l i = false := by rw [hst]; unfold sameB; rw [show ((itAt l (itAt l i).f6.toNat).f1 == (itAt l i).f1) = false from beq_eq_false_iff_ne.mpr s2]; simp
            rw [hfalse hstep]
            refine Ev.step (f := fun _ => some false) (fun k => ?_) (Ev.now _)
            simp only [spec_l17Good.j2]
            rw [if_neg (by simp), if_pos (by omega), if_pos (by omega), hrd2, if_pos s1, if_neg s2]
        · have hstep : stepB l i = false := by rw [hst]; unfold sameB; rw [show ((itAt l (itAt l i).f6.toNat).f6 == (itAt l i).f6) = false from beq_eq_false_iff_ne.mpr s1]; simp
          rw [hfalse hstep]
          refine Ev.step (f := fun _ => some false) (fun k => ?_) (Ev.now _)
          simp only [spec_l17Good.j2]
          rw [if_neg (by simp), if_pos (by omega), if_pos (by omega), hrd2, if_neg s1]
    by_cases ha : aloneB (itAt l i) i = true
    · by_cases h0 : i = 0
      · subst h0
        refine Ev.step (fun k => ?_) (hj2 false ha (fun e => absurd e (by simp)) (fun _ => ?_))
        · simp only [spec_l17Good.l0]
          rw [if_pos (by omega), if_pos (by omega), if_pos (by omega), hrd, hal]
          simp only [Option.bind_some]
          rw [if_pos ha, if_neg (by omega)]
        · unfold stepB
          have : namesOk (itAt l 0).f0 = true := by unfold namesOk; rw [if_pos hr]
          rw [this]; simp
      · have hd' : dirI l 0 = true := by
          rcases hd with hd | hd
          · exact hd
          · omega
        obtain ⟨K, rfl⟩ : ∃ K, i = K + 1 := ⟨i - 1, by omega⟩
        have hp := steps_pre h (by omega) hr hd'
        have hn := next_ev hp (by omega) (by omega) hs0 (itAt l (K + 1)) (hs0 _)
        generalize hv : (namesOk (itAt l (K + 1)).f0 && (dirAt l (K + 1) (aboveB (itAt l (K + 1)).f0).toList && decide (cmpW (itAt l K).f0 (itAt l (K + 1)).f0 < 0))) = v at hn
        have hst : stepB l (K + 1) = (goodItemB l (K + 1) && v) := by
          unfold stepB
          rw [← hv, decide_eq_false (show ¬ (K + 1 = 0) by omega), Bool.false_or, Nat.add_sub_cancel]
          cases namesOk (itAt l (K + 1)).f0 <;> simp
        refine Ev.step (f := fun k => (spec_l17Next.f k (l.take (K + 1)) (itAt l (K + 1)).f0 (itAt l (K + 1)).f1 (itAt l (K + 1)).f2 (itAt l (K + 1)).f3 (itAt l (K + 1)).f4 (itAt l (K + 1)).f5 (itAt l (K + 1)).f6 (itAt l (K + 1)).f7).bind fun t195 => (spec_l17Good.j2 k l l (l.length : Int) ((K + 1 : Nat) : Int) (!t195) (itAt l (K + 1)).f0 (itAt l (K + 1)).f1 (itAt l (K + 1)).f2 (itAt l (K + 1)).f3 (itAt l (K + 1)).f4 (itAt l (K + 1)).f5 (itAt l (K + 1)).f6 (itAt l (K + 1)).f7)) (fun k => ?_) ?_
        · simp only [spec_l17Good.l0]
          rw [if_pos (by omega), if_pos (by omega), if_pos (by omega), hrd, hal]
          simp only [Option.bind_some]
          rw [if_pos ha, if_pos (by omega), if_pos (by omega), Int.toNat_natCast]
        · refine Ev.bind hn (hj2 (!v) ha (fun e => ?_) (fun e => ?_))
          · rw [hst]; cases v <;> simp at e ⊢
          · rw [hst]; cases v <;> simp at e ⊢
    · have ha' : aloneB (itAt l i) i = false := by simpa using ha
      have hstep : stepB l i = false := by
        unfold stepB
        rw [hite, ha', Bool.false_and, Bool.false_and, Bool.and_false]
      rw [hfalse hstep]
      refine Ev.step (f := fun k => spec_l17Good.j2 k l l (l.length : Int) (i : Int) true (itAt l i).f0 (itAt l i).f1 (itAt l i).f2 (itAt l i).f3 (itAt l i).f4 (itAt l i).f5 (itAt l i).f6 (itAt l i).f7) (fun k => ?_) ?_
      · simp only [spec_l17Good.l0]
        rw [if_pos (by omega), if_pos (by omega), if_pos (by omega), hrd, hal]
        simp only [Option.bind_some]
        rw [if_neg ha]
      · refine Ev.step (f := fun _ => some false) (fun k => ?_) (Ev.now _)
        simp only [spec_l17Good.j2, if_true]
theorem l17Good_ev (l : List It) (hs0 : ∀ i, (itAt l i).f0.size < 4294967281) (hs7 : ∀ i, (itAt l i).f7.size < 4294967281) : Ev (fun k => spec_l17Good.f k l) (goodB l) := by
  unfold spec_l17Good.f
  rw [l1In_f]
  simp only [Option.bind_some]
  have hj : ∀ b, b = true → Ev (fun k => spec_l17Good.j0 k l b) false := by
    rintro b rfl
    refine Ev.step (f := fun _ => some false) (fun k => ?_) (Ev.now _)
    simp only [spec_l17Good.j0, if_true]
  by_cases hn : inB 1 40 (l.length : Int) = true
  · have hlen : 1 ≤ l.length ∧ l.length ≤ 40 := by rw [inB_iff] at hn; omega
    have hg : goodB l = ((itAt l 0).f0.toList == [46] && stepsB l l.length) := by
      unfold goodB
      rw [decide_eq_true hlen.1, decide_eq_true hlen.2]; rfl
    have hrd : rd_T50 l 0 = itAt l 0 := rfl
    rw [hg]
    by_cases h0 : (itAt l 0).f0.toList = [46]
    · have h0' : ((itAt l 0).f0.toList == [46]) = true := by simpa using h0
      rw [h0', Bool.true_and]
      by_cases hk : (itAt l 0).f1 = 2
      · refine Ev.congr (f := fun k => spec_l17Good.j0 k l false) (fun k => ?_) ?_
        · rw [if_pos hn, if_pos (by omega), hrd, if_pos h0, if_pos hk]
        · refine Ev.step (fun k => ?_) (good_loop l hlen.2 h0 (Or.inl (by unfold dirI; simpa using hk)) hs0 hs7 l.length 0 (by omega) rfl)
          simp only [spec_l17Good.j0]; rfl
      · refine Ev.congr (f := fun k => spec_l17Good.j0 k l (decide ((l.length : Int) > 1))) (fun k => ?_) ?_
        · rw [if_pos hn, if_pos (by omega), hrd, if_pos h0, if_neg hk]
        · by_cases h1 : l.length = 1
          · rw [decide_eq_false (by omega)]
            refine Ev.step (fun k => ?_) (good_loop l hlen.2 h0 (Or.inr h1) hs0 hs7 l.length 0 (by omega) rfl)
            simp only [spec_l17Good.j0]; rfl
          · have hst : stepB l 1 = false := by
              unfold stepB
              have : dirAt l 1 (aboveB (itAt l 1).f0).toList = false := by
                have hk' : ((itAt l 0).f1 == 2) = false := beq_eq_false_iff_ne.mpr hk
                simp only [dirAt]
                rw [hk']; simp
              rw [this]; simp
            rw [stepsB_false l 1 hst l.length (by omega)]
            exact hj _ (decide_eq_true (by omega))
    · have h0' : ((itAt l 0).f0.toList == [46]) = false := by simpa using h0
      rw [h0', Bool.false_and]
      refine Ev.congr (f := fun k => spec_l17Good.j0 k l true) (fun k => ?_) (hj _ rfl)
      rw [if_pos hn, if_pos (by omega), hrd, if_neg h0]
  · have hg : goodB l = false := by
      unfold goodB
      rw [inB_iff] at hn
      by_cases h1 : 1 ≤ l.length
      · rw [decide_eq_false (show ¬ l.length ≤ 40 by omega), Bool.false_and, Bool.and_false]
      · rw [decide_eq_false h1, Bool.false_and]
    rw [hg]
    refine Ev.congr (f := fun k => spec_l17Good.j0 k l true) (fun k => ?_) (hj _ rfl)
    rw [if_neg hn]
theorem specGood_ev (l : List It) (hs0 : ∀ i, (itAt l i).f0.size < 4294967281) (hs7 : ∀ i, (itAt l i).f7.size < 4294967281) : Ev (fun k => spec_GoodItems.f k l) (goodB l) := by
  unfold spec_GoodItems.f
  exact Ev.bind (l17Good_ev l hs0 hs7) (Ev.now _)

end Go.Proofs.YtibfocaldcjiiaaDoor.Q

/- The laws FnExactGoodItems over lists alone: the printed functions answer true. -/
namespace Go.Proofs.YtibfocaldcjiiaaDoor.Q
open Go.RowKit Go.Proofs.YtibfocaldcjiiaaDoorW.PrintWords Go.Proofs.YtibfocaldcjiiaaDoorW.PrintLast Go.Proofs.YtibfocaldcjiiaaDoorW.PrintMore
attribute [local go_sem] max2_int min2_int max_two min_two max_three min_three max_four min_four   -- for this text's walks alone
set_option linter.unusedVariables false
set_option linter.unusedSimpArgs false

theorem step_i {i n : Nat} (h : i < n) (hn : n ≤ 1759218604391) : wrap64 ((i : Int) + 1) = ((i + 1 : Nat) : Int) := by
  unfold wrap64; omega
abbrev Li := S49
theorem rdLi (xs : List Li) (i : Nat) (h : i < xs.length) : rd_T49 xs (i : Int) = xs[i] := by
  unfold rd_T49; simp [List.getD, h]
def conv (x : Li) : It := ⟨x.f0, x.f1, x.f2, x.f3, x.f4, x.f5, x.f6, x.f7⟩
theorem toItemS_loop (l0 : List Li) (hl : l0.length ≤ 1759218604391) (d : Nat) : ∀ (i : Nat) (acc : List It), i + d = l0.length → acc.length = l0.length →
    Ev (fun k => laws_toItemS.l0 k l0 acc (i : Int)) (acc.take i ++ (l0.drop i).map conv) := by
  induction d with
  | zero =>
    intro i acc hi ha
    refine Ev.step (f := fun _ => some acc) (fun k => ?_) ?_
    · simp only [laws_toItemS.l0]; rw [if_neg (by omega)]
    · have : acc.take i ++ (l0.drop i).map conv = acc := by
        rw [List.drop_of_length_le (by omega), List.take_of_length_le (by omega)]; simp
      rw [this]; exact Ev.now acc
  | succ d ih =>
    intro i acc hi ha
    have hlt : i < l0.length := by omega
    have := ih (i + 1) (acc.set i (conv l0[i])) (by omega) (by simpa using ha)
    refine Ev.step (f := fun k => laws_toItemS.l0 k l0 (acc.set i (conv l0[i])) ((i + 1 : Nat) : Int)) (fun k => ?_) ?_
    · simp only [laws_toItemS.l0]
      rw [if_pos (by omega), if_pos (by omega)]
      simp only [laws_toItem.f, Option.bind_some]
      rw [if_pos (by omega), step_i hlt hl, rdLi _ _ hlt]; rfl
    · have e : (acc.set i (conv l0[i])).take (i + 1) ++ (l0.drop (i + 1)).map conv = acc.take i ++ (l0.drop i).map conv := by
        rw [List.drop_eq_getElem_cons hlt, List.map_cons, List.take_succ_eq_append_getElem (by simp; omega), List.take_set_of_le (by omega), List.getElem_set_self, List.append_assoc]; rfl
      rw [← e]; exact this
theorem toItemS_ev (l0 : List Li) (hl : l0.length ≤ 1759218604391) : Ev (fun k => laws_toItemS.f k l0) (l0.map conv) := by
  refine Ev.congr (f := fun k => laws_toItemS.l0 k l0 (List.replicate l0.length z50) ((0 : Nat) : Int)) (fun k => ?_) ?_
  · simp only [laws_toItemS.f]
    rw [if_pos (by omega), if_pos (by omega)]; rfl
  · simpa using toItemS_loop l0 hl l0.length 0 (List.replicate l0.length z50) (by omega) (by simp)
theorem eqItem_self (a : It) : laws_eqItem.f a.f0 a.f1 a.f2 a.f3 a.f4 a.f5 a.f6 a.f7 a.f0 a.f1 a.f2 a.f3 a.f4 a.f5 a.f6 a.f7 = some true := by
  unfold laws_eqItem.f; simp
theorem eqItemS_loop (l : List It) (hl : l.length ≤ 1759218604391) (d : Nat) : ∀ i : Nat, i + d = l.length → Ev (fun k => laws_eqItemS.l0 k l l (i : Int)) true := by
  induction d with
  | zero =>
    intro i hi
    refine Ev.step (f := fun _ => some true) (fun k => ?_) (Ev.now true)
    simp only [laws_eqItemS.l0]; rw [if_neg (by omega)]
  | succ d ih =>
    intro i hi
    have hlt : i < l.length := by omega
    refine Ev.step (f := fun k => laws_eqItemS.l0 k l l ((i + 1 : Nat) : Int)) (fun k => ?_) (ih (i + 1) (by omega))
    simp only [laws_eqItemS.l0]
    rw [if_pos (by omega), if_pos (by omega), if_pos (by omega), rdI _ _ hlt, eqItem_self, step_i hlt hl]; simp only [Option.bind_some, if_true]
theorem eqItemS_ev (l : List It) (hl : l.length ≤ 1759218604391) : Ev (fun k => laws_eqItemS.f k l l) true := by
  refine Ev.congr (f := fun k => laws_eqItemS.l0 k l l ((0 : Nat) : Int)) (fun k => ?_) (eqItemS_loop l hl l.length 0 (by omega))
  simp only [laws_eqItemS.f, if_true]; rfl
theorem szItem_ev (x : Li) (a : Int) (h0 : x.f0.size ≤ maxLen) (h7 : x.f7.size ≤ maxLen) (ha : 0 ≤ a) (ha2 : a ≤ 1048576) :
    ∃ r, laws_szItem.f x.f0 x.f1 x.f2 x.f3 x.f4 x.f5 x.f6 x.f7 a = some r ∧ r ≤ 1048576 ∧ (0 ≤ r → x.f0.size ≤ 1048576 ∧ x.f7.size ≤ 1048576) := by
  unfold laws_szItem.f wrap64
  unfold maxLen at h0 h7
  split
  · exact ⟨_, rfl, by omega, by omega⟩
  · split
    · exact ⟨_, rfl, by omega, by omega⟩
    · exact ⟨_, rfl, by omega, by omega⟩
theorem szItemS_loop (l : List Li) (hl : l.length ≤ 1759218604391) (hs : ∀ x ∈ l, x.f0.size ≤ maxLen ∧ x.f7.size ≤ maxLen) (d : Nat) : ∀ (i : Nat) (a : Int), i + d = l.length → 0 ≤ a → a ≤ 1048576 →
    ∃ r, Ev (fun k => laws_szItemS.l0 k l a (i : Int)) r ∧ r ≤ 1048576 ∧ (0 ≤ r → ∀ x ∈ l.drop i, x.f0.size ≤ 1048576 ∧ x.f7.size ≤ 1048576) := by
  induction d with
  | zero =>
    intro i a hi h0 h1
    refine ⟨a, Ev.step (f := fun _ => some a) (fun k => ?_) (Ev.now a), h1, fun _ => ?_⟩
    · simp only [laws_szItemS.l0]; rw [if_neg (by omega)]
    · rw [List.drop_of_length_le (by omega)]; simp
  | succ d ih =>
    intro i a hi h0 h1
    have hlt : i < l.length := by omega
    obtain ⟨hs0, hs7⟩ := hs l[i] (List.getElem_mem hlt)
    obtain ⟨r, hr, hr1, hr2⟩ := szItem_ev l[i] a hs0 hs7 h0 h1
    have e : ∀ k, laws_szItemS.l0 (k + 1) l a (i : Int) = if r < 0 then some (-1) else laws_szItemS.l0 k l r ((i + 1 : Nat) : Int) := fun k => by
      simp only [laws_szItemS.l0]
      rw [if_pos (by omega), if_pos (by omega), rdLi _ _ hlt, hr, step_i hlt hl]; rfl
    by_cases hc : r < 0
    · exact ⟨-1, Ev.step (f := fun _ => some (-1)) (fun k => by rw [e k, if_pos hc]) (Ev.now _), by omega, by omega⟩
    · obtain ⟨q, hq, hq1, hq2⟩ := ih (i + 1) r (by omega) (by omega) hr1
      refine ⟨q, Ev.step (f := fun k => laws_szItemS.l0 k l r ((i + 1 : Nat) : Int)) (fun k => by rw [e k, if_neg hc]) hq, hq1, fun h => ?_⟩
      rw [List.drop_eq_getElem_cons hlt]
      intro x hx
      rcases List.mem_cons.mp hx with rfl | hx
      · exact hr2 (by omega)
      · exact hq2 h x hx
theorem szItemS_ev (l : List Li) (hl : l.length ≤ maxLen) (hs : ∀ x ∈ l, x.f0.size ≤ maxLen ∧ x.f7.size ≤ maxLen) (a : Int) (h0 : 0 ≤ a) (h1 : a ≤ 1048576) :
    ∃ r, Ev (fun k => laws_szItemS.f k l a) r ∧ r ≤ 1048576 ∧ (0 ≤ r → l.length ≤ 1048576 ∧ ∀ x ∈ l, x.f0.size ≤ 1048576 ∧ x.f7.size ≤ 1048576) := by
  have e : wrap64 (a - (l.length : Int)) = a - l.length := by unfold wrap64; unfold maxLen at hl; omega
  by_cases hc : a - (l.length : Int) < 0
  · exact ⟨-1, Ev.congr (f := fun _ => some (-1)) (fun k => by simp only [laws_szItemS.f]; rw [e, if_pos hc]) (Ev.now _), by omega, by omega⟩
  · obtain ⟨r, hr, h, hz⟩ := szItemS_loop l (by omega) hs l.length 0 (a - l.length) (by omega) (by omega) (by omega)
    exact ⟨r, Ev.congr (fun k => by simp only [laws_szItemS.f]; rw [e, if_neg hc]; rfl) hr, h, fun hr => ⟨by omega, by simpa using hz hr⟩⟩
theorem conv_small (l0 : List Li) (hz : ∀ x ∈ l0, x.f0.size ≤ 1048576 ∧ x.f7.size ≤ 1048576) (i : Nat) : (itAt (l0.map conv) i).f0.size < 4294967281 ∧ (itAt (l0.map conv) i).f7.size < 4294967281 := by
  by_cases hi : i < (l0.map conv).length
  · have : itAt (l0.map conv) i = (l0.map conv)[i] := rdI _ i hi
    rw [this, List.getElem_map]
    have := hz _ (List.getElem_mem (by simpa using hi))
    show (l0[i]'_).f0.size < _ ∧ (l0[i]'_).f7.size < _
    omega
  · have : itAt (l0.map conv) i = z50 := by unfold itAt rd_T50; simp [List.getD, List.getElem?_eq_none (show l0.length ≤ i by simpa using hi)]
    rw [this]; decide
theorem implGood_f (l : List It) (h : ∀ i, (itAt l i).f0.size < 4294967281) : impl_GoodItems.f l = some (goodB l) := by
  unfold impl_GoodItems.f
  rw [if_pos]
  rw [List.all_eq_true]
  intro x hx
  obtain ⟨i, hi, rfl⟩ := List.getElem_of_mem hx
  have h1 : itAt l i = l[i] := rdI l i hi
  rw [← h1]
  exact decide_eq_true (h i)
/-- The law over lists alone. -/
theorem pureGoodItems (l0 : List Li) (h0 : l0.length ≤ maxLen) (hs0 : ∀ x ∈ l0, x.f0.size ≤ maxLen ∧ x.f7.size ≤ maxLen) : ∃ k, laws_FnExactGoodItems.f k l0 = some true := by
  refine Ev.rounds ?_
  unfold laws_FnExactGoodItems.f
  obtain ⟨r, hr, hr1, hr2⟩ := szItemS_ev l0 h0 hs0 1048576 (by omega) (by omega)
  refine Ev.bind hr ?_
  by_cases hc : r < 0
  · exact Ev.congr (f := fun _ => some true) (fun k => by rw [if_pos hc]) (Ev.now _)
  refine Ev.congr (fun k => by rw [if_neg hc]) ?_
  obtain ⟨b0, hz⟩ := hr2 (by omega)
  have t0 := toItemS_ev l0 (by omega)
  have hsm := conv_small l0 hz
  have hspec := specGood_ev (l0.map conv) (fun i => (hsm i).1) (fun i => (hsm i).2)
  have himpl : Ev (fun _ => impl_GoodItems.f (l0.map conv)) (goodB (l0.map conv)) := by
    rw [implGood_f _ (fun i => (hsm i).1)]; exact Ev.now _
  refine Ev.bind t0 (Ev.bind hspec (Ev.bind t0 (Ev.bind himpl ?_)))
  refine Ev.congr (fun k => by rw [if_neg (by simp)]) ?_
  refine Ev.bind t0 (Ev.bind (eqItemS_ev _ (by rw [List.length_map]; omega)) ?_)
  exact Ev.congr (f := fun _ => some true) (fun k => by rw [if_pos rfl]) (Ev.now _)

end Go.Proofs.YtibfocaldcjiiaaDoor.Q
