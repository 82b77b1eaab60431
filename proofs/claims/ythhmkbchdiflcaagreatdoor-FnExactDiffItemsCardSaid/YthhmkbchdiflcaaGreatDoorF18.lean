/- Texts of this claim, merged by a program (wip/tools/merge.py): Q48, Q67, HEqIt, HSortCh. -/
import Derived.Test.YthhmkbchdiflcaaGreatDoorF2
import Derived.Test.YthhmkbchdiflcaaGreatDoorF3
import Derived.Test.YthhmkbchdiflcaaGreatDoorF16
import Derived.Test.YthhmkbchdiflcaaGreatDoorF4
import Derived.Test.YthhmkbchdiflcaaGreatDoorF17
import Derived.Laws.StructEq
import Derived.Test.YthhmkbchdiflcaaGreatDoorF10
import Derived.Test.YthhmkbchdiflcaaGreatDoorF0
import Derived.Shelf.SlSortCmp.WholeK
import Derived.Shelf.SlSortCmp.NoneTotal
import Derived.Shelf.Small.Strs
import Derived.Sort.OwnSorted
-- Printed by a program of this session (wip/tools/myprint.py) that runs the kit's print, hand-proved functions among the others.
namespace Go.Proofs.YthhmkbchdiflcaaGreatDoor.Q
open Go.RowKit Go.Proofs.YthhmkbchdiflcaaGreatDoorW.PrintWords Go.Proofs.YthhmkbchdiflcaaGreatDoorW.PrintLast Go.Proofs.YthhmkbchdiflcaaGreatDoorW.PrintMore
attribute [local go_sem] max2_int min2_int max_two min_two max_three min_three max_four min_four   -- for this text's walks alone
set_option linter.unusedVariables false
set_option linter.unusedSimpArgs false

attribute [local go_sem high] eqA74
/-! ### spec_DiffItems: function 19 -/
mutual
def spec_DiffItems.j0 : Nat → List (S74) → List (S74) → Bool → Option ((List (S104)) × Bool)
 | 0, _, _, _ => none
 | k + 1, x0, x1, x19 => if x19 = true then (some (([] : List (S104)), false)) else (spec_DiffItems.l0 k x0 x1 ([] : List (S104)) x0 (x0.length : Int) 0)
def spec_DiffItems.l0 : Nat → List (S74) → List (S74) → List (S104) → List (S74) → Int → Int → Option ((List (S104)) × Bool)
 | 0, _, _, _, _, _, _ => none
 | k + 1, x0, x1, x6, x20, x21, x22 => if x22 < x21 then (if 0 ≤ x22 then (if x22 < (x20.length : Int) then ((spec_l18At.f k x1 ((rd_T74 x20 x22).f0)).bind fun t249 => (if t249 < 0 then ((spec_l18Bare.f ((rd_T74 x20 x22).f0) ((rd_T74 x20 x22).f1) ((rd_T74 x20 x22).f2) ((rd_T74 x20 x22).f3) ((rd_T74 x20 x22).f4) ((rd_T74 x20 x22).f5) ((rd_T74 x20 x22).f6) ((rd_T74 x20 x22).f7)).bind fun bt250 => ((spec_l18Put.f x6 2 ((rd_T74 x20 x22).f0) bt250.1 bt250.2.1 bt250.2.2.1 bt250.2.2.2.1 bt250.2.2.2.2.1 bt250.2.2.2.2.2.1 bt250.2.2.2.2.2.2.1 bt250.2.2.2.2.2.2.2 (⟨#[]⟩ : ByteArray) 0 0 0 0 0 0 (⟨#[]⟩ : ByteArray)).bind fun t258 => (spec_DiffItems.l0 k x0 x1 t258 x20 x21 (wrap64 (x22 + 1))))) else ((spec_l18Bare.f ((rd_T74 x20 x22).f0) ((rd_T74 x20 x22).f1) ((rd_T74 x20 x22).f2) ((rd_T74 x20 x22).f3) ((rd_T74 x20 x22).f4) ((rd_T74 x20 x22).f5) ((rd_T74 x20 x22).f6) ((rd_T74 x20 x22).f7)).bind fun bt261 => (if 0 ≤ t249 then (if t249 < (x1.length : Int) then ((spec_l18Bare.f ((rd_T74 x1 t249).f0) ((rd_T74 x1 t249).f1) ((rd_T74 x1 t249).f2) ((rd_T74 x1 t249).f3) ((rd_T74 x1 t249).f4) ((rd_T74 x1 t249).f5) ((rd_T74 x1 t249).f6) ((rd_T74 x1 t249).f7)).bind fun bt270 => (if (!(bt261.1.toList == bt270.1.toList) || (!(bt261.2.1 == bt270.2.1) || (!(bt261.2.2.1 == bt270.2.2.1) || (!(bt261.2.2.2.1 == bt270.2.2.2.1) || (!(bt261.2.2.2.2.1 == bt270.2.2.2.2.1) || (!(bt261.2.2.2.2.2.1 == bt270.2.2.2.2.2.1) || (!(bt261.2.2.2.2.2.2.1 == bt270.2.2.2.2.2.2.1) || (!(bt261.2.2.2.2.2.2.2.toList == bt270.2.2.2.2.2.2.2.toList))))))))) = true then ((spec_l18Bare.f ((rd_T74 x20 x22).f0) ((rd_T74 x20 x22).f1) ((rd_T74 x20 x22).f2) ((rd_T74 x20 x22).f3) ((rd_T74 x20 x22).f4) ((rd_T74 x20 x22).f5) ((rd_T74 x20 x22).f6) ((rd_T74 x20 x22).f7)).bind fun bt278 => ((spec_l18Bare.f ((rd_T74 x1 t249).f0) ((rd_T74 x1 t249).f1) ((rd_T74 x1 t249).f2) ((rd_T74 x1 t249).f3) ((rd_T74 x1 t249).f4) ((rd_T74 x1 t249).f5) ((rd_T74 x1 t249).f6) ((rd_T74 x1 t249).f7)).bind fun bt287 => ((spec_l18Put.f x6 3 ((rd_T74 x20 x22).f0) bt278.1 bt278.2.1 bt278.2.2.1 bt278.2.2.2.1 bt278.2.2.2.2.1 bt278.2.2.2.2.2.1 bt278.2.2.2.2.2.2.1 bt278.2.2.2.2.2.2.2 bt287.1 bt287.2.1 bt287.2.2.1 bt287.2.2.2.1 bt287.2.2.2.2.1 bt287.2.2.2.2.2.1 bt287.2.2.2.2.2.2.1 bt287.2.2.2.2.2.2.2).bind fun t295 => (spec_DiffItems.l0 k x0 x1 t295 x20 x21 (wrap64 (x22 + 1)))))) else (spec_DiffItems.l0 k x0 x1 x6 x20 x21 (wrap64 (x22 + 1))))) else (none)) else (none))))) else (none)) else (none)) else (spec_DiffItems.l1 k x0 x6 x1 (x1.length : Int) 0)
def spec_DiffItems.l1 : Nat → List (S74) → List (S104) → List (S74) → Int → Int → Option ((List (S104)) × Bool)
 | 0, _, _, _, _, _ => none
 | k + 1, x0, x6, x62, x63, x64 => if x64 < x63 then (if 0 ≤ x64 then (if x64 < (x62.length : Int) then ((spec_l18At.f k x0 ((rd_T74 x62 x64).f0)).bind fun t300 => (if t300 < 0 then ((spec_l18Bare.f ((rd_T74 x62 x64).f0) ((rd_T74 x62 x64).f1) ((rd_T74 x62 x64).f2) ((rd_T74 x62 x64).f3) ((rd_T74 x62 x64).f4) ((rd_T74 x62 x64).f5) ((rd_T74 x62 x64).f6) ((rd_T74 x62 x64).f7)).bind fun bt301 => ((spec_l18Put.f x6 1 ((rd_T74 x62 x64).f0) (⟨#[]⟩ : ByteArray) 0 0 0 0 0 0 (⟨#[]⟩ : ByteArray) bt301.1 bt301.2.1 bt301.2.2.1 bt301.2.2.2.1 bt301.2.2.2.2.1 bt301.2.2.2.2.2.1 bt301.2.2.2.2.2.2.1 bt301.2.2.2.2.2.2.2).bind fun t309 => (spec_DiffItems.l1 k x0 t309 x62 x63 (wrap64 (x64 + 1))))) else (spec_DiffItems.l1 k x0 x6 x62 x63 (wrap64 (x64 + 1))))) else (none)) else (none)) else (some (x6, true))
end
def spec_DiffItems.f (k : Nat) (l0 : List (S74)) (l1 : List (S74)) : Option ((List (S104)) × Bool) := (spec_l18Lone.f k l0).bind fun t245 => (if t245 = true then ((spec_l18Lone.f k l1).bind fun t246 => (spec_DiffItems.j0 k l0 l1 (!t246))) else (spec_DiffItems.j0 k l0 l1 true))
def spec_DiffItems.T9 : Bool × List (List Nat × List Nat) := (true, [([], []), ([], []), ([1], [1]), ([], []), ([3], [3]), ([2, 4], [2, 4]), ([0, 5, 4], [0, 5]), ([6, 6, 0, 1, 2, 3, 4, 5, 6], [0, 6])])
def spec_DiffItems.B9 : List Nat := [0, 0, 2, 0, 8, 30, 63, 127]
theorem spec_DiffItems.tab9 : rtab .any (opsOf Tryz.f19 9) = spec_DiffItems.T9 := by kernel_rfl
theorem spec_DiffItems.bits9 : waitsOk spec_DiffItems.T9.2 spec_DiffItems.B9 = true := by kernel_rfl
def spec_DiffItems.T10 : Bool × List (List Nat × List Nat) := (true, [([], []), ([0], [0]), ([], []), ([], []), ([2, 3], [2, 3]), ([4], [4]), ([5, 1], [5]), ([1, 6], [1, 6]), ([7, 6], [7])])
def spec_DiffItems.B10 : List Nat := [0, 1, 0, 0, 12, 28, 63, 127, 255]
theorem spec_DiffItems.tab10 : rtab .any (opsOf Tryz.f19 10) = spec_DiffItems.T10 := by kernel_rfl
theorem spec_DiffItems.bits10 : waitsOk spec_DiffItems.T10.2 spec_DiffItems.B10 = true := by kernel_rfl
def spec_DiffItems.T11 : Bool × List (List Nat × List Nat) := (true, [([], []), ([], []), ([1], [1]), ([], []), ([3], [3]), ([], []), ([], []), ([5, 6], [5, 6]), ([7], [7]), ([8, 4], [8]), ([2, 4, 9], [2, 4, 9]), ([0, 10, 9], [0, 10]), ([11, 11, 0, 1, 2, 3, 4, 5, 6, 7, 8, 9, 10, 11], [0, 11])])
def spec_DiffItems.B11 : List Nat := [0, 0, 2, 0, 8, 0, 0, 96, 224, 504, 1022, 2047, 4095]
theorem spec_DiffItems.tab11 : rtab .any (opsOf Tryz.f19 11) = spec_DiffItems.T11 := by kernel_rfl
theorem spec_DiffItems.bits11 : waitsOk spec_DiffItems.T11.2 spec_DiffItems.B11 = true := by kernel_rfl
def spec_DiffItems.T17 : Bool × List (List Nat × List Nat) := (true, [([], []), ([], []), ([1], [1]), ([], []), ([3], [3]), ([2, 4], [2, 4]), ([0, 5, 4], [0, 5]), ([6, 6, 0, 1, 2, 3, 4, 5, 6], [0, 6])])
def spec_DiffItems.B17 : List Nat := [0, 0, 2, 0, 8, 30, 63, 127]
theorem spec_DiffItems.tab17 : rtab .any (opsOf Tryz.f19 17) = spec_DiffItems.T17 := by kernel_rfl
theorem spec_DiffItems.bits17 : waitsOk spec_DiffItems.T17.2 spec_DiffItems.B17 = true := by kernel_rfl
set_option maxHeartbeats 8000000 in
set_option maxRecDepth 100000 in
theorem spec_DiffItems.calls (k : Nat) (A0 : Option Addr) (c0 : Nat) (l0 : List (S74)) (A1 : Option Addr) (c1 : Nat) (l1 : List (S74)) (r1 : List (S104)) (r2 : Bool) (w : World) (hr0 : Kd.C k74 w A0 l0.length l0) (hc0 : l0.length ≤ c0) (hr1 : Kd.C k74 w A1 l1.length l1) (hc1 : l1.length ≤ c1) (h : spec_DiffItems.f k l0 l1 = some (r1, r2)) :
  Calls Tryz.prog 19 #[.slice A0 l0.length c0, .slice A1 l1.length c1] w fun e w' => ∃ v0_ : Value, e = .returned (.tuple #[v0_, .bool r2]) ∧ Kd.R k104 104 w' w.heap.size (fun _ => True) v0_ r1 ∧ Below w.heap.size w w' := by
 have hu74 := Tryz.underlying74
 have hu104 := Tryz.underlying104
 have HR0 := Aside0.mk hr0
 have HC0 := Aside0.mk hc0
 clear hr0 hc0
 have HR1 := Aside0.mk hr1
 have HC1 := Aside0.mk hc1
 clear hr1 hc1
 have HB := Aside0.mk (Below.refl w.heap.size w)
 have H : ((spec_l18Lone.f k l0).bind fun t245 => (if t245 = true then ((spec_l18Lone.f k l1).bind fun t246 => (spec_DiffItems.j0 k l0 l1 (!t246))) else (spec_DiffItems.j0 k l0 l1 true))) = some (r1, r2) := h
 clear h
 have HC3 := Aside0.mk H
 clear H
 go_enter Tryz.func19, Tryz.ntmps19
 go_upto_region 1 with (fail)
 go_cut [19] (fun v19 wc => ∃ (kq : Nat) (x19_2 : Bool), v19 = .bool x19_2 ∧ Aside0 (spec_DiffItems.j0 kq l0 l1 x19_2 = some (r1, r2)) ∧ Aside0 (kq ≤ k) ∧ Aside0 (Below w.heap.size w wc))
 case first =>
  have H := HC3.out
  clear HC3
  replace H := Option.bind_eq_some_iff.mp H
  obtain ⟨t245, A40, H⟩ := H
  try dsimp only at H
  have A4 := Aside0.mk A40
  clear A40
  by_cases c5 : t245 = true
  ·subst c5
   have H1 := H
   rw [if_pos rfl] at H1
   clear H
   have H := H1
   clear H1
   replace H := Option.bind_eq_some_iff.mp H
   obtain ⟨t246, A60, H⟩ := H
   try dsimp only at H
   have A6 := Aside0.mk A60
   clear A60
   have H' := Aside0.mk H
   clear H
   go_wp2_with (first | ((with_reducible refine gate_callee (f := 75) rfl ?_); refine goesL_ (some 13) rfl rfl Tryz.func75 (by kernel_rfl) rfl #[.slice A0 l0.length c0] rfl (by (try simp only [List.map_toArray, List.map_cons, List.map_nil]); first | done | rfl | (simp only [List.length_drop, List.length_take]; rfl)) ?_; (with_reducible refine (spec_l18Lone.calls k _ _ l0 true _ ?side1 ?side2 A4.out).mono ?_); (case side1 => repeat (first | exact (Kd.C_below HR0.out HB.out) | (with_reducible refine Kd.C_alloc ?_ _) | (with_reducible refine Kd.C_drewN ?_ _) | (with_reducible refine Kd.C_drew ?_))); (case side2 => exact HC0.out); rintro e w7 ⟨rfl, hb⟩; refine ⟨_, rfl, ?_⟩; have n0_ := Aside0.mk (below_step (Gtr.bw HB.out) hb); clear HB; have HB := n0_; clear n0_; (try clear hb); (try clear hb2); (try clear hk); (try clear hi)) | (go_at_call 75; (with_reducible refine (spec_l18Lone.calls k _ _ l1 t246 _ ?side1 ?side2 A6.out).mono ?_); (case side1 => repeat (first | exact (Kd.C_below HR1.out HB.out) | (with_reducible refine Kd.C_alloc ?_ _) | (with_reducible refine Kd.C_drewN ?_ _) | (with_reducible refine Kd.C_drew ?_))); (case side2 => exact HC1.out); rintro e w8 ⟨rfl, hb⟩; have n0_ := Aside0.mk (below_step (Gtr.bw HB.out) hb); clear HB; have HB := n0_; clear n0_; (try clear hb); (try clear hb2); (try clear hk); (try clear hi)))
   go_meet
   case rel => exact ⟨_, (!t246), (by first | rfl | (simp; done) | (simp [*]; done)), H', ⟨by first | omega | exact Nat.le_refl _⟩, ⟨(Gtr.bw HB.out)⟩⟩
  ·replace c5 := Bool.eq_false_iff.mpr c5
   subst c5
   have H1 : (spec_DiffItems.j0 k l0 l1 true) = some (r1, r2) := by rw [if_neg (show ¬ (false = true) by decide)] at H; exact H
   clear H
   have H := H1
   clear H1
   have H' := Aside0.mk H
   clear H
   go_wp2_with (first | ((with_reducible refine gate_callee (f := 75) rfl ?_); refine goesL_ (some 13) rfl rfl Tryz.func75 (by kernel_rfl) rfl #[.slice A0 l0.length c0] rfl (by (try simp only [List.map_toArray, List.map_cons, List.map_nil]); first | done | rfl | (simp only [List.length_drop, List.length_take]; rfl)) ?_; (with_reducible refine (spec_l18Lone.calls k _ _ l0 false _ ?side1 ?side2 A4.out).mono ?_); (case side1 => repeat (first | exact (Kd.C_below HR0.out HB.out) | (with_reducible refine Kd.C_alloc ?_ _) | (with_reducible refine Kd.C_drewN ?_ _) | (with_reducible refine Kd.C_drew ?_))); (case side2 => exact HC0.out); rintro e w9 ⟨rfl, hb⟩; refine ⟨_, rfl, ?_⟩; have n0_ := Aside0.mk (below_step (Gtr.bw HB.out) hb); clear HB; have HB := n0_; clear n0_; (try clear hb); (try clear hb2); (try clear hk); (try clear hi)))
   go_meet
   case rel => exact ⟨_, (true), (by first | rfl | (simp; done) | (simp [*]; done)), H', ⟨by first | omega | exact Nat.le_refl _⟩, ⟨(Gtr.bw HB.out)⟩⟩
 case rest =>
  clear HC3
  (try clear c1);(try clear p2);(try clear c5);(try clear c7)
  obtain ⟨kq, x19_2, rfl, HA, HJ2, HB⟩ := hcut
  cases kq with
  | zero => exact absurd HA.out (by simp [spec_DiffItems.j0])
  | succ kj2 =>
   have H := HA.out
   clear HA
   simp only [spec_DiffItems.j0] at H
   by_cases c10 : x19_2 = true
   ·subst c10
    have H1 := H
    rw [if_pos rfl] at H1
    clear H
    have H := H1
    clear H1
    simp only [Option.some.injEq, Prod.mk.injEq] at H
    obtain ⟨rfl, rfl⟩ := H
    go_wp2
    go_ret2
    exact ⟨_, by first | rfl | (simp [errW_none, errW_some] <;> rfl) | (simp [*, errW_none, errW_some] <;> rfl), by first | exact Kd.R_nil _ _ _ _ _ | exact Kd.N_nil _ _ _ _ _ | exact Kd.V_nil _ _ _ _ _ | exact Kd.Q_nil _ _ _ _ _ | exact Kd.S_nil _ _ _ _ _, (Gtr.bw HB.out)⟩
   ·replace c10 := Bool.eq_false_iff.mpr c10
    subst c10
    have H1 : (spec_DiffItems.l0 kj2 l0 l1 ([] : List (S104)) l0 (l0.length : Int) 0) = some (r1, r2) := by rw [if_neg (show ¬ (false = true) by decide)] at H; exact H
    clear H
    have H := H1
    clear H1
    have H' := Aside0.mk H
    clear H
    go_wp2
    go_loopg [6, 22] kj2 (fun kq v6 v22 w' => ∃ (x6_2 : List (S104)) (x22_2 : Int), v22 = .int .i64 x22_2 ∧ Aside0 (spec_DiffItems.l0 kq l0 l1 x6_2 l0 (l0.length : Int) x22_2 = some (r1, r2)) ∧ Aside0 (kq ≤ kj2) ∧ Aside0 (Kd.R k104 104 w' w.heap.size (fun _ => True) v6 x6_2) ∧ Aside0 (Below w.heap.size w w'))
    case atStart => exact ⟨(([] : List (S104))), (0), (by first | rfl | (simp; done) | (simp [*]; done)), H', ⟨Nat.le_refl _⟩, ⟨by first | exact Kd.R_nil _ _ _ _ _ | exact Kd.N_nil _ _ _ _ _ | exact Kd.V_nil _ _ _ _ _ | exact Kd.Q_nil _ _ _ _ _ | exact Kd.S_nil _ _ _ _ _⟩, ⟨(Gtr.bw HB.out)⟩⟩
    case round =>
     clear H'
     (try clear c1);(try clear p2);(try clear c5);(try clear c7);(try clear c10);(try clear p2)
     obtain ⟨x6_2, x22_2, rfl, HA, HK2, HO_6, HB⟩ := hrel
     cases gk with
     | zero => exact absurd HA.out (by simp [spec_DiffItems.l0])
     | succ k2 =>
      have H := HA.out
      clear HA
      simp only [spec_DiffItems.l0] at H
      by_cases c11 : x22_2 < (l0.length : Int)
      ·rw [if_pos c11] at H
       have c11b0 : decide (x22_2 < (l0.length : Int)) = true := decide_eq_true c11
       clear c11
       refine Or.elim (Classical.em (0 ≤ x22_2)) (fun c12 => ?_) (fun c12 => by rw [if_neg c12] at H; exact absurd H (by simp))
       rw [if_pos c12] at H
       have c12b0 : decide (0 ≤ x22_2) = true := decide_eq_true c12
       clear c12
       refine Or.elim (Classical.em (x22_2 < (l0.length : Int))) (fun c13 => ?_) (fun c13 => by rw [if_neg c13] at H; exact absurd H (by simp))
       rw [if_pos c13] at H
       have c13b0 : decide (x22_2 < (l0.length : Int)) = true := decide_eq_true c13
       clear c13
       replace H := Option.bind_eq_some_iff.mp H
       obtain ⟨t249, A140, H⟩ := H
       try dsimp only at H
       have A14 := Aside0.mk A140
       clear A140
       by_cases c15 : t249 < 0
       ·rw [if_pos c15] at H
        have c15b0 : decide (t249 < 0) = true := decide_eq_true c15
        clear c15
        replace H := Option.bind_eq_some_iff.mp H
        obtain ⟨⟨t250, t251, t252, t253, t254, t255, t256, t257⟩, A160, H⟩ := H
        try dsimp only at H
        have A16 := Aside0.mk A160
        clear A160
        replace H := Option.bind_eq_some_iff.mp H
        obtain ⟨t258, A170, H⟩ := H
        try dsimp only at H
        have A17 := Aside0.mk A170
        clear A170
        have H' := Aside0.mk H
        clear H
        have p247 : 0 ≤ (x22_2 : Int) := of_decide_eq_true (by first | (with_reducible assumption) | assumption)
        have q247 : x22_2 < (l0.length : Int) := of_decide_eq_true (by first | (with_reducible assumption) | assumption)
        obtain ⟨ad247, e247, hx247_0, hx247_1, hx247_2, hx247_3, hx247_4, hx247_5, hx247_6, hx247_7⟩ := at_T74 HR0.out x22_2 p247 q247
        cases e247
        replace hx247_0 := (HB.out.cell (World.block_lt_of_cell? w _ hx247_0)).trans hx247_0
        replace hx247_1 := (HB.out.cell (World.block_lt_of_cell? w _ hx247_1)).trans hx247_1
        replace hx247_2 := (HB.out.cell (World.block_lt_of_cell? w _ hx247_2)).trans hx247_2
        replace hx247_3 := (HB.out.cell (World.block_lt_of_cell? w _ hx247_3)).trans hx247_3
        replace hx247_4 := (HB.out.cell (World.block_lt_of_cell? w _ hx247_4)).trans hx247_4
        replace hx247_5 := (HB.out.cell (World.block_lt_of_cell? w _ hx247_5)).trans hx247_5
        replace hx247_6 := (HB.out.cell (World.block_lt_of_cell? w _ hx247_6)).trans hx247_6
        replace hx247_7 := (HB.out.cell (World.block_lt_of_cell? w _ hx247_7)).trans hx247_7
        replace p247 := eq_true p247
        replace q247 := eq_true q247
        try go_wp2_with (first | ((with_reducible refine gate_dst (N := 8) rfl ?_); refine box_event ?hg (N := 8) ?hd (cs := #[.string (⟨#[]⟩ : ByteArray), .int .i64 0, .int .i64 0, .int .i64 0, .int .i64 0, .int .i64 0, .int .i64 0, .string (⟨#[]⟩ : ByteArray)]) (t := 74) ?hr ?_; (case hd => rfl); (case hg => rfl); (case hr => first | (go_simp; done) | (go_simp; rfl)); intro gb248 hg w18 hbox hb; have n0_ := Aside0.mk (Kd.R_below (by (with_reducible repeat (first | apply Kd.R_alloc | apply Kd.R_drewN | apply Kd.R_drew)); exact HO_6.out) hb); have n1_ := Aside0.mk (below_step (Gtr.bw HB.out) hb); have n2_ := Aside0.mk (hbox); have n3_ := Aside0.mk ((by rw [hg]; exact (below_size (Gtr.bw HB.out)) : w.heap.size ≤ gb248)); have n4_ := Aside0.mk ((by rw [hg]; exact (below_size (Gtr.bw HB.out)) : w.heap.size ≤ gb248)); clear HO_6; clear HB; have HO_6 := n0_; have HB := n1_; have BK248 := n2_; have GW248 := n3_; have GE248 := n4_; clear n0_ n1_ n2_ n3_ n4_; clear hb hbox hg; have hcz19_0 : w18.cell? ⟨gb248, 0, none⟩ = some (.string (⟨#[]⟩ : ByteArray)) := (blk_cell BK248.out 0).trans rfl; have hcz19_1 : w18.cell? ⟨gb248, 1, none⟩ = some (.int .i64 0) := (blk_cell BK248.out 1).trans rfl; have hcz19_2 : w18.cell? ⟨gb248, 2, none⟩ = some (.int .i64 0) := (blk_cell BK248.out 2).trans rfl; have hcz19_3 : w18.cell? ⟨gb248, 3, none⟩ = some (.int .i64 0) := (blk_cell BK248.out 3).trans rfl; have hcz19_4 : w18.cell? ⟨gb248, 4, none⟩ = some (.int .i64 0) := (blk_cell BK248.out 4).trans rfl; have hcz19_5 : w18.cell? ⟨gb248, 5, none⟩ = some (.int .i64 0) := (blk_cell BK248.out 5).trans rfl; have hcz19_6 : w18.cell? ⟨gb248, 6, none⟩ = some (.int .i64 0) := (blk_cell BK248.out 6).trans rfl; have hcz19_7 : w18.cell? ⟨gb248, 7, none⟩ = some (.string (⟨#[]⟩ : ByteArray)) := (blk_cell BK248.out 7).trans rfl; have hfz19_0 := blk_frozen BK248.out 0; have hfz19_1 := blk_frozen BK248.out 1; have hfz19_2 := blk_frozen BK248.out 2; have hfz19_3 := blk_frozen BK248.out 3; have hfz19_4 := blk_frozen BK248.out 4; have hfz19_5 := blk_frozen BK248.out 5; have hfz19_6 := blk_frozen BK248.out 6; have hfz19_7 := blk_frozen BK248.out 7) | ((with_reducible refine gate_callee (f := 76) rfl ?_); refine goesL_ (some 29) rfl rfl Tryz.func76 (by kernel_rfl) rfl #[.slice A1 l1.length c1, .string ((rd_T74 l0 x22_2).f0)] rfl (by (try simp only [List.map_toArray, List.map_cons, List.map_nil]); first | done | rfl | (simp only [List.length_drop, List.length_take]; rfl)) ?_; (with_reducible refine (spec_l18At.calls k2 _ _ l1 ((rd_T74 l0 x22_2).f0) t249 _ ?side1 ?side2 A14.out).mono ?_); (case side1 => exact Kd.C_below HR1.out (Gtr.bw HB.out)); (case side2 => exact HC1.out); rintro e w20 ⟨rfl, hb⟩; refine ⟨_, rfl, ?_⟩; have n0_ := Aside0.mk (Kd.R_below (by (with_reducible repeat (first | apply Kd.R_alloc | apply Kd.R_drewN | apply Kd.R_drew)); exact (Kd.R_mono (Kd.R_far (p := ⟨gb248, 7, none⟩) (Kd.R_far (p := ⟨gb248, 6, none⟩) (Gtr.far6 (Kd.R_types HO_6.out BK248.out (by decide)) (fun _ hk => hk.2)) (fun _ hk => hk.2) (.int .i64 ((rd_T74 l0 x22_2).f6))) (fun _ hk => hk.2) (.string ((rd_T74 l0 x22_2).f7))) (fun _ h_ => h_.1))) hb); have n1_ := Aside0.mk (blk_below (g := gb248) (o := .cells #[.string ((rd_T74 l0 x22_2).f0), .int .i64 ((rd_T74 l0 x22_2).f1), .int .i64 ((rd_T74 l0 x22_2).f2), .int .i64 ((rd_T74 l0 x22_2).f3), .int .i64 ((rd_T74 l0 x22_2).f4), .int .i64 ((rd_T74 l0 x22_2).f5), .int .i64 ((rd_T74 l0 x22_2).f6), .string ((rd_T74 l0 x22_2).f7)] 74 (0, 0)) (by (with_reducible repeat (first | refine blk_drewN ?_ _ | refine blk_drew ?_ | refine blk_alloc ?_ _)); refine blk_put (cs := #[.string ((rd_T74 l0 x22_2).f0), .int .i64 ((rd_T74 l0 x22_2).f1), .int .i64 ((rd_T74 l0 x22_2).f2), .int .i64 ((rd_T74 l0 x22_2).f3), .int .i64 ((rd_T74 l0 x22_2).f4), .int .i64 ((rd_T74 l0 x22_2).f5), .int .i64 ((rd_T74 l0 x22_2).f6), .string (⟨#[]⟩ : ByteArray)]) ?_ 7 _ rfl; (with_reducible repeat (first | refine blk_drewN ?_ _ | refine blk_drew ?_ | refine blk_alloc ?_ _)); refine blk_put (cs := #[.string ((rd_T74 l0 x22_2).f0), .int .i64 ((rd_T74 l0 x22_2).f1), .int .i64 ((rd_T74 l0 x22_2).f2), .int .i64 ((rd_T74 l0 x22_2).f3), .int .i64 ((rd_T74 l0 x22_2).f4), .int .i64 ((rd_T74 l0 x22_2).f5), .int .i64 0, .string (⟨#[]⟩ : ByteArray)]) ?_ 6 _ rfl; (with_reducible repeat (first | refine blk_drewN ?_ _ | refine blk_drew ?_ | refine blk_alloc ?_ _)); refine blk_put (cs := #[.string ((rd_T74 l0 x22_2).f0), .int .i64 ((rd_T74 l0 x22_2).f1), .int .i64 ((rd_T74 l0 x22_2).f2), .int .i64 ((rd_T74 l0 x22_2).f3), .int .i64 ((rd_T74 l0 x22_2).f4), .int .i64 0, .int .i64 0, .string (⟨#[]⟩ : ByteArray)]) ?_ 5 _ rfl; (with_reducible repeat (first | refine blk_drewN ?_ _ | refine blk_drew ?_ | refine blk_alloc ?_ _)); refine blk_put (cs := #[.string ((rd_T74 l0 x22_2).f0), .int .i64 ((rd_T74 l0 x22_2).f1), .int .i64 ((rd_T74 l0 x22_2).f2), .int .i64 ((rd_T74 l0 x22_2).f3), .int .i64 0, .int .i64 0, .int .i64 0, .string (⟨#[]⟩ : ByteArray)]) ?_ 4 _ rfl; (with_reducible repeat (first | refine blk_drewN ?_ _ | refine blk_drew ?_ | refine blk_alloc ?_ _)); refine blk_put (cs := #[.string ((rd_T74 l0 x22_2).f0), .int .i64 ((rd_T74 l0 x22_2).f1), .int .i64 ((rd_T74 l0 x22_2).f2), .int .i64 0, .int .i64 0, .int .i64 0, .int .i64 0, .string (⟨#[]⟩ : ByteArray)]) ?_ 3 _ rfl; (with_reducible repeat (first | refine blk_drewN ?_ _ | refine blk_drew ?_ | refine blk_alloc ?_ _)); refine blk_put (cs := #[.string ((rd_T74 l0 x22_2).f0), .int .i64 ((rd_T74 l0 x22_2).f1), .int .i64 0, .int .i64 0, .int .i64 0, .int .i64 0, .int .i64 0, .string (⟨#[]⟩ : ByteArray)]) ?_ 2 _ rfl; (with_reducible repeat (first | refine blk_drewN ?_ _ | refine blk_drew ?_ | refine blk_alloc ?_ _)); refine blk_put (cs := #[.string ((rd_T74 l0 x22_2).f0), .int .i64 0, .int .i64 0, .int .i64 0, .int .i64 0, .int .i64 0, .int .i64 0, .string (⟨#[]⟩ : ByteArray)]) ?_ 1 _ rfl; (with_reducible repeat (first | refine blk_drewN ?_ _ | refine blk_drew ?_ | refine blk_alloc ?_ _)); refine blk_put (cs := #[.string (⟨#[]⟩ : ByteArray), .int .i64 0, .int .i64 0, .int .i64 0, .int .i64 0, .int .i64 0, .int .i64 0, .string (⟨#[]⟩ : ByteArray)]) ?_ 0 _ rfl; (with_reducible repeat (first | refine blk_drewN ?_ _ | refine blk_drew ?_ | refine blk_alloc ?_ _)); exact BK248.out) hb); have n2_ := Aside0.mk (below_step (Gtr.bw HB.out) hb); clear HO_6; clear BK248; clear HB; have HO_6 := n0_; have BK248 := n1_; have HB := n2_; clear n0_ n1_ n2_; (try clear hb); (try clear hb2); (try clear hk); (try clear hi)))
        have n0_ := Aside0.mk (Kd.R_drew HO_6.out)
        have n1_ := Aside0.mk (blk_drew BK248.out)
        have n2_ := Aside0.mk (below_drew1 HB.out)
        clear HO_6
        clear BK248
        clear HB
        have HO_6 := n0_
        have BK248 := n1_
        have HB := n2_
        clear n0_ n1_ n2_
        refine start_ (n := 8) (S := fun w' => w'.cell? ⟨gb248, 0, none⟩ = some (.string ((rd_T74 l0 x22_2).f0)) ∧ w'.cell? ⟨gb248, 1, none⟩ = some (.int .i64 ((rd_T74 l0 x22_2).f1)) ∧ w'.cell? ⟨gb248, 2, none⟩ = some (.int .i64 ((rd_T74 l0 x22_2).f2)) ∧ w'.cell? ⟨gb248, 3, none⟩ = some (.int .i64 ((rd_T74 l0 x22_2).f3)) ∧ w'.cell? ⟨gb248, 4, none⟩ = some (.int .i64 ((rd_T74 l0 x22_2).f4)) ∧ w'.cell? ⟨gb248, 5, none⟩ = some (.int .i64 ((rd_T74 l0 x22_2).f5)) ∧ w'.cell? ⟨gb248, 6, none⟩ = some (.int .i64 ((rd_T74 l0 x22_2).f6)) ∧ w'.cell? ⟨gb248, 7, none⟩ = some (.string ((rd_T74 l0 x22_2).f7))) (ds := []) (Gtr.bb 8 0) (by kernel_rfl) rfl rfl ⟨(blk_cell BK248.out 0).trans rfl, (blk_cell BK248.out 1).trans rfl, (blk_cell BK248.out 2).trans rfl, (blk_cell BK248.out 3).trans rfl, (blk_cell BK248.out 4).trans rfl, (blk_cell BK248.out 5).trans rfl, (blk_cell BK248.out 6).trans rfl, (blk_cell BK248.out 7).trans rfl⟩ (fun hHeld => ?_); refine with_tabW spec_DiffItems.tab9 spec_DiffItems.bits9 (fun HT_ HW_ => ?_)
        generalize w20.drew = w21 at HO_6 BK248 HB hHeld ⊢
        refine pure_ (i := 0) (N := some 33) (v := ?_) (a' := ?_) (Gtr.bb 8 1) rfl rfl (any_of HT_.out (by kernel_rfl)) (fun _ _ _ h => h) (Or.inl ⟨by rfl, ?_⟩) ?_ ?_
        rotate_left
        ·intro w'
         go_simp
         with_reducible rfl
        rotate_left
        ·simp only [Gtr.ps]
         rfl
        refine pure_ (i := 1) (N := some 34) (v := ?_) (a' := ?_) (Gtr.bb 8 3) rfl rfl (any_of HT_.out (by kernel_rfl)) (fun _ _ _ h => h) (Or.inl ⟨by rfl, ?_⟩) ?_ ?_
        rotate_left
        ·intro w'
         go_simp
         with_reducible rfl
        rotate_left
        ·simp only [Gtr.ps]
         rfl
        refine take_ (i := 2) (N := some 35) (v := ?_) (a' := ?_) (Gtr.bb 8 7) rfl rfl (take_ofW HT_.out HW_.out (by kernel_rfl)) (fun _ _ _ h => h) (Or.inl ⟨by rfl, ?_⟩) hHeld ?_ ?_
        rotate_left
        ·rintro w' ⟨s0, s1, s2, s3, s4, s5, s6, s7⟩
         go_simp
         with_reducible rfl
        rotate_left
        ·simp only [Gtr.ps]
         rfl
        refine take_ (i := 3) (N := some 36) (v := ?_) (a' := ?_) (Gtr.bb 8 15) rfl rfl (take_ofW HT_.out HW_.out (by kernel_rfl)) (fun _ _ _ h => h) (Or.inl ⟨by rfl, ?_⟩) hHeld ?_ ?_
        rotate_left
        ·rintro w' ⟨s0, s1, s2, s3, s4, s5, s6, s7⟩
         go_simp
         with_reducible rfl
        rotate_left
        ·simp only [Gtr.ps]
         rfl
        refine one_ (i := 4) (N := some 37) (Gtr.bb 8 31) rfl rfl (one_of HT_.out (by kernel_rfl)) (by decide) (fun K hK => ?_)
        refine goes_ Tryz.func78 (by kernel_rfl) rfl #[.agg #[.string ((rd_T74 l0 x22_2).f0), .int .i64 ((rd_T74 l0 x22_2).f1), .int .i64 ((rd_T74 l0 x22_2).f2), .int .i64 ((rd_T74 l0 x22_2).f3), .int .i64 ((rd_T74 l0 x22_2).f4), .int .i64 ((rd_T74 l0 x22_2).f5), .int .i64 ((rd_T74 l0 x22_2).f6), .string ((rd_T74 l0 x22_2).f7)]] (by rfl) rfl rfl (by (try simp only [List.map_toArray, List.map_cons, List.map_nil]); first | done | rfl | (simp only [List.length_drop, List.length_take]; rfl)) ?_
        with_reducible refine (spec_l18Bare.calls ((rd_T74 l0 x22_2).f0) ((rd_T74 l0 x22_2).f1) ((rd_T74 l0 x22_2).f2) ((rd_T74 l0 x22_2).f3) ((rd_T74 l0 x22_2).f4) ((rd_T74 l0 x22_2).f5) ((rd_T74 l0 x22_2).f6) ((rd_T74 l0 x22_2).f7) t250 t251 t252 t253 t254 t255 t256 t257 _ A16.out).mono ?_
        rintro e w22 ⟨rfl, hb⟩
        refine ⟨_, rfl, ?_⟩
        have n0_ := Aside0.mk (Kd.R_below (by (with_reducible repeat (first | apply Kd.R_alloc | apply Kd.R_drewN | apply Kd.R_drew)); exact HO_6.out) hb)
        have n1_ := Aside0.mk (blk_below (g := gb248) (o := .cells #[.string ((rd_T74 l0 x22_2).f0), .int .i64 ((rd_T74 l0 x22_2).f1), .int .i64 ((rd_T74 l0 x22_2).f2), .int .i64 ((rd_T74 l0 x22_2).f3), .int .i64 ((rd_T74 l0 x22_2).f4), .int .i64 ((rd_T74 l0 x22_2).f5), .int .i64 ((rd_T74 l0 x22_2).f6), .string ((rd_T74 l0 x22_2).f7)] 74 (0, 0)) (by (with_reducible repeat (first | refine blk_drewN ?_ _ | refine blk_drew ?_ | refine blk_alloc ?_ _)); exact BK248.out) hb)
        have n2_ := Aside0.mk (below_step (Gtr.bw HB.out) hb)
        clear HO_6
        clear BK248
        clear HB
        have HO_6 := n0_
        have BK248 := n1_
        have HB := n2_
        clear n0_ n1_ n2_
        (try clear hb);(try clear hb2);(try clear hk);(try clear hi)
        obtain ⟨Ao23, co23, eo23⟩ := Kd.R_slice HO_6.out
        (first | subst eo23 | (injection eo23 with f1_ f2_ f3_; have f4_ := f1_.symm; have f5_ := f3_.symm; clear f1_ f2_ f3_; subst f4_; subst f5_))
        refine hK.out _ _ ⟨(blk_cell BK248.out 0).trans rfl, (blk_cell BK248.out 1).trans rfl, (blk_cell BK248.out 2).trans rfl, (blk_cell BK248.out 3).trans rfl, (blk_cell BK248.out 4).trans rfl, (blk_cell BK248.out 5).trans rfl, (blk_cell BK248.out 6).trans rfl, (blk_cell BK248.out 7).trans rfl⟩ (fun hHeld => ?_)
        clear hK K
        refine norm_ (a' := ?_) ?_ ?_
        rotate_left
        ·show Act.put _ (some 37) _ = _
         simp only [Gtr.ps]
         rfl
        refine pure_ (i := 5) (N := some 38) (v := ?_) (a' := ?_) (Gtr.bb 8 63) rfl rfl (any_of HT_.out (by kernel_rfl)) (fun _ _ _ h => h) (Or.inl ⟨by rfl, ?_⟩) ?_ ?_
        rotate_left
        ·intro w'
         go_simp
         with_reducible rfl
        rotate_left
        ·simp only [Gtr.ps]
         rfl
        refine one_ (i := 6) (N := some 39) (Gtr.bb 8 127) rfl rfl (one_of HT_.out (by kernel_rfl)) (by decide) (fun K hK => ?_)
        refine goes_ Tryz.func77 (by kernel_rfl) rfl #[.slice Ao23 x6_2.length co23, .agg #[.int .i64 2, .string ((rd_T74 l0 x22_2).f0), .string t250, .int .i64 t251, .int .i64 t252, .int .i64 t253, .int .i64 t254, .int .i64 t255, .int .i64 t256, .string t257, .string (⟨#[]⟩ : ByteArray), .int .i64 0, .int .i64 0, .int .i64 0, .int .i64 0, .int .i64 0, .int .i64 0, .string (⟨#[]⟩ : ByteArray)]] (by rfl) rfl rfl (by (try simp only [List.map_toArray, List.map_cons, List.map_nil]); first | done | rfl | (simp only [List.length_drop, List.length_take]; rfl)) ?_
        with_reducible refine (spec_l18Put.calls _ _ x6_2 2 ((rd_T74 l0 x22_2).f0) t250 t251 t252 t253 t254 t255 t256 t257 (⟨#[]⟩ : ByteArray) 0 0 0 0 0 0 (⟨#[]⟩ : ByteArray) t258 _ ?side1 ?side2 A17.out).mono ?_
        (case side1 => repeat (first | exact (Kd.R_reads' HO_6.out).2.2 | (with_reducible refine Kd.C_alloc ?_ _) | (with_reducible refine Kd.C_drewN ?_ _) | (with_reducible refine Kd.C_drew ?_)))
        (case side2 => exact (Kd.R_reads' HO_6.out).2.1)
        rintro e w24 ⟨v259, rfl, ho0, hb⟩
        refine ⟨_, rfl, ?_⟩
        have n0_ := Aside0.mk (Kd.R_elder' (by (with_reducible repeat (first | apply Kd.R_alloc | apply Kd.R_drewN | apply Kd.R_drew)); exact HO_6.out) (Kd.R_base ho0) hb)
        have n1_ := Aside0.mk (Kd.R_lower (Kd.R_new' ho0 (Kd.R_lt (by (with_reducible repeat (first | apply Kd.R_alloc | apply Kd.R_drewN | apply Kd.R_drew)); exact HO_6.out))) (below_size (Gtr.bw HB.out)))
        have n2_ := Aside0.mk (blk_below (g := gb248) (o := .cells #[.string ((rd_T74 l0 x22_2).f0), .int .i64 ((rd_T74 l0 x22_2).f1), .int .i64 ((rd_T74 l0 x22_2).f2), .int .i64 ((rd_T74 l0 x22_2).f3), .int .i64 ((rd_T74 l0 x22_2).f4), .int .i64 ((rd_T74 l0 x22_2).f5), .int .i64 ((rd_T74 l0 x22_2).f6), .string ((rd_T74 l0 x22_2).f7)] 74 (0, 0)) (by (with_reducible repeat (first | refine blk_drewN ?_ _ | refine blk_drew ?_ | refine blk_alloc ?_ _)); exact BK248.out) hb)
        have n3_ := Aside0.mk (below_step (Gtr.bw HB.out) hb)
        clear HO_6
        clear BK248
        clear HB
        have HO_6 := n0_
        have HO260 := n1_
        have BK248 := n2_
        have HB := n3_
        clear n0_ n1_ n2_ n3_
        (try clear hb);(try clear hb2);(try clear hk);(try clear hi);(try clear ho0)
        refine hK.out _ _ ⟨(blk_cell BK248.out 0).trans rfl, (blk_cell BK248.out 1).trans rfl, (blk_cell BK248.out 2).trans rfl, (blk_cell BK248.out 3).trans rfl, (blk_cell BK248.out 4).trans rfl, (blk_cell BK248.out 5).trans rfl, (blk_cell BK248.out 6).trans rfl, (blk_cell BK248.out 7).trans rfl⟩ (fun hHeld => ?_)
        clear hK K
        refine norm_ (a' := ?_) ?_ ?_
        rotate_left
        ·show Act.put _ (some 39) _ = _
         simp only [Gtr.ps]
         rfl
        refine pure_ (i := 7) (N := some 6) (v := ?_) (a' := ?_) (Gtr.bb 8 255) rfl rfl (any_of HT_.out (by kernel_rfl)) (fun _ _ _ h => h) (Or.inl ⟨by rfl, ?_⟩) ?_ ?_
        rotate_left
        ·intro w'
         go_simp
         with_reducible rfl
        rotate_left
        ·simp only [Gtr.ps]
         rfl
        refine done_ (done_of HT_.out (by kernel_rfl)) ?_
        try go_wp2
        go_roundg k2
        case measure => have := HJ2.out; have := HK2.out; omega
        case rel => exact ⟨(t258), (wrap64 (x22_2 + 1)), (by first | rfl | (simp; done) | (simp [*]; done)), H', ⟨by have := HJ2.out; have := HK2.out; omega⟩, ⟨by (with_reducible repeat (first | apply Kd.R_alloc | apply Kd.R_drewN | apply Kd.R_drew)); exact Kd.R_mono HO260.out (fun _ hk => trivial)⟩, ⟨(Gtr.bw HB.out)⟩⟩
       ·rw [if_neg c15] at H
        have c15b0 : decide (t249 < 0) = false := decide_eq_false c15
        clear c15
        replace H := Option.bind_eq_some_iff.mp H
        obtain ⟨⟨t261, t262, t263, t264, t265, t266, t267, t268⟩, A250, H⟩ := H
        try dsimp only at H
        have A25 := Aside0.mk A250
        clear A250
        refine Or.elim (Classical.em (0 ≤ t249)) (fun c26 => ?_) (fun c26 => by rw [if_neg c26] at H; exact absurd H (by simp))
        rw [if_pos c26] at H
        have c26b0 : decide (0 ≤ t249) = true := decide_eq_true c26
        clear c26
        refine Or.elim (Classical.em (t249 < (l1.length : Int))) (fun c27 => ?_) (fun c27 => by rw [if_neg c27] at H; exact absurd H (by simp))
        rw [if_pos c27] at H
        have c27b0 : decide (t249 < (l1.length : Int)) = true := decide_eq_true c27
        clear c27
        replace H := Option.bind_eq_some_iff.mp H
        obtain ⟨⟨t270, t271, t272, t273, t274, t275, t276, t277⟩, A280, H⟩ := H
        try dsimp only at H
        have A28 := Aside0.mk A280
        clear A280
        by_cases c29 : (!(t261.toList == t270.toList) || (!(t262 == t271) || (!(t263 == t272) || (!(t264 == t273) || (!(t265 == t274) || (!(t266 == t275) || (!(t267 == t276) || (!(t268.toList == t277.toList))))))))) = true
        ·rw [if_pos c29] at H
         have c29b0 : (!(t261.toList == t270.toList) || (!(t262 == t271) || (!(t263 == t272) || (!(t264 == t273) || (!(t265 == t274) || (!(t266 == t275) || (!(t267 == t276) || (!(t268.toList == t277.toList))))))))) = true := c29
         clear c29
         replace H := Option.bind_eq_some_iff.mp H
         obtain ⟨⟨t278, t279, t280, t281, t282, t283, t284, t285⟩, A300, H⟩ := H
         try dsimp only at H
         have A30 := Aside0.mk A300
         clear A300
         replace H := Option.bind_eq_some_iff.mp H
         obtain ⟨⟨t287, t288, t289, t290, t291, t292, t293, t294⟩, A310, H⟩ := H
         try dsimp only at H
         have A31 := Aside0.mk A310
         clear A310
         replace H := Option.bind_eq_some_iff.mp H
         obtain ⟨t295, A320, H⟩ := H
         try dsimp only at H
         have A32 := Aside0.mk A320
         clear A320
         have H' := Aside0.mk H
         clear H
         have p247 : 0 ≤ (x22_2 : Int) := of_decide_eq_true (by first | (with_reducible assumption) | assumption)
         have q247 : x22_2 < (l0.length : Int) := of_decide_eq_true (by first | (with_reducible assumption) | assumption)
         obtain ⟨ad247, e247, hx247_0, hx247_1, hx247_2, hx247_3, hx247_4, hx247_5, hx247_6, hx247_7⟩ := at_T74 HR0.out x22_2 p247 q247
         cases e247
         replace hx247_0 := (HB.out.cell (World.block_lt_of_cell? w _ hx247_0)).trans hx247_0
         replace hx247_1 := (HB.out.cell (World.block_lt_of_cell? w _ hx247_1)).trans hx247_1
         replace hx247_2 := (HB.out.cell (World.block_lt_of_cell? w _ hx247_2)).trans hx247_2
         replace hx247_3 := (HB.out.cell (World.block_lt_of_cell? w _ hx247_3)).trans hx247_3
         replace hx247_4 := (HB.out.cell (World.block_lt_of_cell? w _ hx247_4)).trans hx247_4
         replace hx247_5 := (HB.out.cell (World.block_lt_of_cell? w _ hx247_5)).trans hx247_5
         replace hx247_6 := (HB.out.cell (World.block_lt_of_cell? w _ hx247_6)).trans hx247_6
         replace hx247_7 := (HB.out.cell (World.block_lt_of_cell? w _ hx247_7)).trans hx247_7
         replace p247 := eq_true p247
         replace q247 := eq_true q247
         try go_wp2_with (first | ((with_reducible refine gate_dst (N := 8) rfl ?_); refine box_event ?hg (N := 8) ?hd (cs := #[.string (⟨#[]⟩ : ByteArray), .int .i64 0, .int .i64 0, .int .i64 0, .int .i64 0, .int .i64 0, .int .i64 0, .string (⟨#[]⟩ : ByteArray)]) (t := 74) ?hr ?_; (case hd => rfl); (case hg => rfl); (case hr => first | (go_simp; done) | (go_simp; rfl)); intro gb248 hg w33 hbox hb; have n0_ := Aside0.mk (Kd.R_below (by (with_reducible repeat (first | apply Kd.R_alloc | apply Kd.R_drewN | apply Kd.R_drew)); exact HO_6.out) hb); have n1_ := Aside0.mk (below_step (Gtr.bw HB.out) hb); have n2_ := Aside0.mk (hbox); have n3_ := Aside0.mk ((by rw [hg]; exact (below_size (Gtr.bw HB.out)) : w.heap.size ≤ gb248)); have n4_ := Aside0.mk ((by rw [hg]; exact (below_size (Gtr.bw HB.out)) : w.heap.size ≤ gb248)); clear HO_6; clear HB; have HO_6 := n0_; have HB := n1_; have BK248 := n2_; have GW248 := n3_; have GE248 := n4_; clear n0_ n1_ n2_ n3_ n4_; clear hb hbox hg; have hcz34_0 : w33.cell? ⟨gb248, 0, none⟩ = some (.string (⟨#[]⟩ : ByteArray)) := (blk_cell BK248.out 0).trans rfl; have hcz34_1 : w33.cell? ⟨gb248, 1, none⟩ = some (.int .i64 0) := (blk_cell BK248.out 1).trans rfl; have hcz34_2 : w33.cell? ⟨gb248, 2, none⟩ = some (.int .i64 0) := (blk_cell BK248.out 2).trans rfl; have hcz34_3 : w33.cell? ⟨gb248, 3, none⟩ = some (.int .i64 0) := (blk_cell BK248.out 3).trans rfl; have hcz34_4 : w33.cell? ⟨gb248, 4, none⟩ = some (.int .i64 0) := (blk_cell BK248.out 4).trans rfl; have hcz34_5 : w33.cell? ⟨gb248, 5, none⟩ = some (.int .i64 0) := (blk_cell BK248.out 5).trans rfl; have hcz34_6 : w33.cell? ⟨gb248, 6, none⟩ = some (.int .i64 0) := (blk_cell BK248.out 6).trans rfl; have hcz34_7 : w33.cell? ⟨gb248, 7, none⟩ = some (.string (⟨#[]⟩ : ByteArray)) := (blk_cell BK248.out 7).trans rfl; have hfz34_0 := blk_frozen BK248.out 0; have hfz34_1 := blk_frozen BK248.out 1; have hfz34_2 := blk_frozen BK248.out 2; have hfz34_3 := blk_frozen BK248.out 3; have hfz34_4 := blk_frozen BK248.out 4; have hfz34_5 := blk_frozen BK248.out 5; have hfz34_6 := blk_frozen BK248.out 6; have hfz34_7 := blk_frozen BK248.out 7) | ((with_reducible refine gate_callee (f := 76) rfl ?_); refine goesL_ (some 29) rfl rfl Tryz.func76 (by kernel_rfl) rfl #[.slice A1 l1.length c1, .string ((rd_T74 l0 x22_2).f0)] rfl (by (try simp only [List.map_toArray, List.map_cons, List.map_nil]); first | done | rfl | (simp only [List.length_drop, List.length_take]; rfl)) ?_; (with_reducible refine (spec_l18At.calls k2 _ _ l1 ((rd_T74 l0 x22_2).f0) t249 _ ?side1 ?side2 A14.out).mono ?_); (case side1 => exact Kd.C_below HR1.out (Gtr.bw HB.out)); (case side2 => exact HC1.out); rintro e w35 ⟨rfl, hb⟩; refine ⟨_, rfl, ?_⟩; have n0_ := Aside0.mk (Kd.R_below (by (with_reducible repeat (first | apply Kd.R_alloc | apply Kd.R_drewN | apply Kd.R_drew)); exact (Kd.R_mono (Kd.R_far (p := ⟨gb248, 7, none⟩) (Kd.R_far (p := ⟨gb248, 6, none⟩) (Gtr.far6 (Kd.R_types HO_6.out BK248.out (by decide)) (fun _ hk => hk.2)) (fun _ hk => hk.2) (.int .i64 ((rd_T74 l0 x22_2).f6))) (fun _ hk => hk.2) (.string ((rd_T74 l0 x22_2).f7))) (fun _ h_ => h_.1))) hb); have n1_ := Aside0.mk (blk_below (g := gb248) (o := .cells #[.string ((rd_T74 l0 x22_2).f0), .int .i64 ((rd_T74 l0 x22_2).f1), .int .i64 ((rd_T74 l0 x22_2).f2), .int .i64 ((rd_T74 l0 x22_2).f3), .int .i64 ((rd_T74 l0 x22_2).f4), .int .i64 ((rd_T74 l0 x22_2).f5), .int .i64 ((rd_T74 l0 x22_2).f6), .string ((rd_T74 l0 x22_2).f7)] 74 (0, 0)) (by (with_reducible repeat (first | refine blk_drewN ?_ _ | refine blk_drew ?_ | refine blk_alloc ?_ _)); refine blk_put (cs := #[.string ((rd_T74 l0 x22_2).f0), .int .i64 ((rd_T74 l0 x22_2).f1), .int .i64 ((rd_T74 l0 x22_2).f2), .int .i64 ((rd_T74 l0 x22_2).f3), .int .i64 ((rd_T74 l0 x22_2).f4), .int .i64 ((rd_T74 l0 x22_2).f5), .int .i64 ((rd_T74 l0 x22_2).f6), .string (⟨#[]⟩ : ByteArray)]) ?_ 7 _ rfl; (with_reducible repeat (first | refine blk_drewN ?_ _ | refine blk_drew ?_ | refine blk_alloc ?_ _)); refine blk_put (cs := #[.string ((rd_T74 l0 x22_2).f0), .int .i64 ((rd_T74 l0 x22_2).f1), .int .i64 ((rd_T74 l0 x22_2).f2), .int .i64 ((rd_T74 l0 x22_2).f3), .int .i64 ((rd_T74 l0 x22_2).f4), .int .i64 ((rd_T74 l0 x22_2).f5), .int .i64 0, .string (⟨#[]⟩ : ByteArray)]) ?_ 6 _ rfl; (with_reducible repeat (first | refine blk_drewN ?_ _ | refine blk_drew ?_ | refine blk_alloc ?_ _)); refine blk_put (cs := #[.string ((rd_T74 l0 x22_2).f0), .int .i64 ((rd_T74 l0 x22_2).f1), .int .i64 ((rd_T74 l0 x22_2).f2), .int .i64 ((rd_T74 l0 x22_2).f3), .int .i64 ((rd_T74 l0 x22_2).f4), .int .i64 0, .int .i64 0, .string (⟨#[]⟩ : ByteArray)]) ?_ 5 _ rfl; (with_reducible repeat (first | refine blk_drewN ?_ _ | refine blk_drew ?_ | refine blk_alloc ?_ _)); refine blk_put (cs := #[.string ((rd_T74 l0 x22_2).f0), .int .i64 ((rd_T74 l0 x22_2).f1), .int .i64 ((rd_T74 l0 x22_2).f2), .int .i64 ((rd_T74 l0 x22_2).f3), .int .i64 0, .int .i64 0, .int .i64 0, .string (⟨#[]⟩ : ByteArray)]) ?_ 4 _ rfl; (with_reducible repeat (first | refine blk_drewN ?_ _ | refine blk_drew ?_ | refine blk_alloc ?_ _)); refine blk_put (cs := #[.string ((rd_T74 l0 x22_2).f0), .int .i64 ((rd_T74 l0 x22_2).f1), .int .i64 ((rd_T74 l0 x22_2).f2), .int .i64 0, .int .i64 0, .int .i64 0, .int .i64 0, .string (⟨#[]⟩ : ByteArray)]) ?_ 3 _ rfl; (with_reducible repeat (first | refine blk_drewN ?_ _ | refine blk_drew ?_ | refine blk_alloc ?_ _)); refine blk_put (cs := #[.string ((rd_T74 l0 x22_2).f0), .int .i64 ((rd_T74 l0 x22_2).f1), .int .i64 0, .int .i64 0, .int .i64 0, .int .i64 0, .int .i64 0, .string (⟨#[]⟩ : ByteArray)]) ?_ 2 _ rfl; (with_reducible repeat (first | refine blk_drewN ?_ _ | refine blk_drew ?_ | refine blk_alloc ?_ _)); refine blk_put (cs := #[.string ((rd_T74 l0 x22_2).f0), .int .i64 0, .int .i64 0, .int .i64 0, .int .i64 0, .int .i64 0, .int .i64 0, .string (⟨#[]⟩ : ByteArray)]) ?_ 1 _ rfl; (with_reducible repeat (first | refine blk_drewN ?_ _ | refine blk_drew ?_ | refine blk_alloc ?_ _)); refine blk_put (cs := #[.string (⟨#[]⟩ : ByteArray), .int .i64 0, .int .i64 0, .int .i64 0, .int .i64 0, .int .i64 0, .int .i64 0, .string (⟨#[]⟩ : ByteArray)]) ?_ 0 _ rfl; (with_reducible repeat (first | refine blk_drewN ?_ _ | refine blk_drew ?_ | refine blk_alloc ?_ _)); exact BK248.out) hb); have n2_ := Aside0.mk (below_step (Gtr.bw HB.out) hb); clear HO_6; clear BK248; clear HB; have HO_6 := n0_; have BK248 := n1_; have HB := n2_; clear n0_ n1_ n2_; (try clear hb); (try clear hb2); (try clear hk); (try clear hi)))
         have n0_ := Aside0.mk (Kd.R_drew HO_6.out)
         have n1_ := Aside0.mk (blk_drew BK248.out)
         have n2_ := Aside0.mk (below_drew1 HB.out)
         clear HO_6
         clear BK248
         clear HB
         have HO_6 := n0_
         have BK248 := n1_
         have HB := n2_
         clear n0_ n1_ n2_
         have p269 : 0 ≤ (t249 : Int) := of_decide_eq_true (by first | (with_reducible assumption) | assumption)
         have q269 : t249 < (l1.length : Int) := of_decide_eq_true (by first | (with_reducible assumption) | assumption)
         obtain ⟨ad269, e269, hx269_0, hx269_1, hx269_2, hx269_3, hx269_4, hx269_5, hx269_6, hx269_7⟩ := at_T74 HR1.out t249 p269 q269
         have hw269_7 := hx269_7
         have hw269_6 := hx269_6
         have hw269_5 := hx269_5
         have hw269_4 := hx269_4
         have hw269_3 := hx269_3
         have hw269_2 := hx269_2
         have hw269_1 := hx269_1
         have hw269_0 := hx269_0
         cases e269
         replace hx269_0 := (HB.out.cell (World.block_lt_of_cell? w _ hx269_0)).trans hx269_0
         replace hx269_1 := (HB.out.cell (World.block_lt_of_cell? w _ hx269_1)).trans hx269_1
         replace hx269_2 := (HB.out.cell (World.block_lt_of_cell? w _ hx269_2)).trans hx269_2
         replace hx269_3 := (HB.out.cell (World.block_lt_of_cell? w _ hx269_3)).trans hx269_3
         replace hx269_4 := (HB.out.cell (World.block_lt_of_cell? w _ hx269_4)).trans hx269_4
         replace hx269_5 := (HB.out.cell (World.block_lt_of_cell? w _ hx269_5)).trans hx269_5
         replace hx269_6 := (HB.out.cell (World.block_lt_of_cell? w _ hx269_6)).trans hx269_6
         replace hx269_7 := (HB.out.cell (World.block_lt_of_cell? w _ hx269_7)).trans hx269_7
         replace p269 := eq_true p269
         replace q269 := eq_true q269
         refine start_ (n := 9) (S := fun w' => w'.cell? ⟨gb248, 0, none⟩ = some (.string ((rd_T74 l0 x22_2).f0)) ∧ w'.cell? ⟨gb248, 1, none⟩ = some (.int .i64 ((rd_T74 l0 x22_2).f1)) ∧ w'.cell? ⟨gb248, 2, none⟩ = some (.int .i64 ((rd_T74 l0 x22_2).f2)) ∧ w'.cell? ⟨gb248, 3, none⟩ = some (.int .i64 ((rd_T74 l0 x22_2).f3)) ∧ w'.cell? ⟨gb248, 4, none⟩ = some (.int .i64 ((rd_T74 l0 x22_2).f4)) ∧ w'.cell? ⟨gb248, 5, none⟩ = some (.int .i64 ((rd_T74 l0 x22_2).f5)) ∧ w'.cell? ⟨gb248, 6, none⟩ = some (.int .i64 ((rd_T74 l0 x22_2).f6)) ∧ w'.cell? ⟨gb248, 7, none⟩ = some (.string ((rd_T74 l0 x22_2).f7)) ∧ w'.cell? (ad269.add ((t249).toNat * 8)) = some (.string ((rd_T74 l1 t249).f0)) ∧ w'.cell? ⟨(ad269.add ((t249).toNat * 8)).block, (ad269.add ((t249).toNat * 8)).off + 1, none⟩ = some (.int .i64 ((rd_T74 l1 t249).f1)) ∧ w'.cell? ⟨(ad269.add ((t249).toNat * 8)).block, (ad269.add ((t249).toNat * 8)).off + 2, none⟩ = some (.int .i64 ((rd_T74 l1 t249).f2)) ∧ w'.cell? ⟨(ad269.add ((t249).toNat * 8)).block, (ad269.add ((t249).toNat * 8)).off + 3, none⟩ = some (.int .i64 ((rd_T74 l1 t249).f3)) ∧ w'.cell? ⟨(ad269.add ((t249).toNat * 8)).block, (ad269.add ((t249).toNat * 8)).off + 4, none⟩ = some (.int .i64 ((rd_T74 l1 t249).f4)) ∧ w'.cell? ⟨(ad269.add ((t249).toNat * 8)).block, (ad269.add ((t249).toNat * 8)).off + 5, none⟩ = some (.int .i64 ((rd_T74 l1 t249).f5)) ∧ w'.cell? ⟨(ad269.add ((t249).toNat * 8)).block, (ad269.add ((t249).toNat * 8)).off + 6, none⟩ = some (.int .i64 ((rd_T74 l1 t249).f6)) ∧ w'.cell? ⟨(ad269.add ((t249).toNat * 8)).block, (ad269.add ((t249).toNat * 8)).off + 7, none⟩ = some (.string ((rd_T74 l1 t249).f7))) (ds := []) (Gtr.bb 9 0) (by kernel_rfl) rfl rfl ⟨(blk_cell BK248.out 0).trans rfl, (blk_cell BK248.out 1).trans rfl, (blk_cell BK248.out 2).trans rfl, (blk_cell BK248.out 3).trans rfl, (blk_cell BK248.out 4).trans rfl, (blk_cell BK248.out 5).trans rfl, (blk_cell BK248.out 6).trans rfl, (blk_cell BK248.out 7).trans rfl, ((HB.out.cell (World.block_lt_of_cell? w _ hw269_0)).trans hw269_0), ((HB.out.cell (World.block_lt_of_cell? w _ hw269_1)).trans hw269_1), ((HB.out.cell (World.block_lt_of_cell? w _ hw269_2)).trans hw269_2), ((HB.out.cell (World.block_lt_of_cell? w _ hw269_3)).trans hw269_3), ((HB.out.cell (World.block_lt_of_cell? w _ hw269_4)).trans hw269_4), ((HB.out.cell (World.block_lt_of_cell? w _ hw269_5)).trans hw269_5), ((HB.out.cell (World.block_lt_of_cell? w _ hw269_6)).trans hw269_6), ((HB.out.cell (World.block_lt_of_cell? w _ hw269_7)).trans hw269_7)⟩ (fun hHeld => ?_); refine with_tabW spec_DiffItems.tab10 spec_DiffItems.bits10 (fun HT_ HW_ => ?_)
         generalize w35.drew = w36 at HO_6 BK248 HB hx269_0 hx269_1 hx269_2 hx269_3 hx269_4 hx269_5 hx269_6 hx269_7 hHeld ⊢
         refine pure_ (i := 2) (N := some 43) (v := ?_) (a' := ?_) (Gtr.bb 9 4) rfl rfl (any_of HT_.out (by kernel_rfl)) (fun _ _ _ h => h) (Or.inl ⟨by rfl, ?_⟩) ?_ ?_
         rotate_left
         ·intro w'
          go_simp
          with_reducible rfl
         rotate_left
         ·simp only [Gtr.ps]
          rfl
         refine pure_ (i := 3) (N := some 44) (v := ?_) (a' := ?_) (Gtr.bb 9 12) rfl rfl (any_of HT_.out (by kernel_rfl)) (fun _ _ _ h => h) (Or.inl ⟨by rfl, ?_⟩) ?_ ?_
         rotate_left
         ·intro w'
          go_simp
          with_reducible rfl
         rotate_left
         ·simp only [Gtr.ps]
          rfl
         refine pure_ (i := 4) (N := some 45) (v := ?_) (a' := ?_) (Gtr.bb 9 28) rfl rfl (any_of HT_.out (by kernel_rfl)) (fun _ _ _ h => h) (Or.inl ⟨by rfl, ?_⟩) ?_ ?_
         rotate_left
         ·intro w'
          go_simp
          with_reducible rfl
         rotate_left
         ·simp only [Gtr.ps]
          rfl
         refine take_ (i := 0) (N := some 41) (v := ?_) (a' := ?_) (Gtr.bb 9 29) rfl rfl (take_ofW HT_.out HW_.out (by kernel_rfl)) (fun _ _ _ h => h) (Or.inl ⟨by rfl, ?_⟩) hHeld ?_ ?_
         rotate_left
         ·rintro w' ⟨s0, s1, s2, s3, s4, s5, s6, s7, s8, s9, s10, s11, s12, s13, s14, s15⟩
          go_simp
          with_reducible rfl
         rotate_left
         ·simp only [Gtr.ps]
          rfl
         refine take_ (i := 5) (N := some 46) (v := ?_) (a' := ?_) (Gtr.bb 9 61) rfl rfl (take_ofW HT_.out HW_.out (by kernel_rfl)) (fun _ _ _ h => h) (Or.inl ⟨by rfl, ?_⟩) hHeld ?_ ?_
         rotate_left
         ·rintro w' ⟨s0, s1, s2, s3, s4, s5, s6, s7, s8, s9, s10, s11, s12, s13, s14, s15⟩
          go_simp
          with_reducible rfl
         rotate_left
         ·simp only [Gtr.ps]
          rfl
         refine one_ (i := 1) (N := some 42) (Gtr.bb 9 63) rfl rfl (one_of HT_.out (by kernel_rfl)) (by decide) (fun K hK => ?_)
         refine goes_ Tryz.func78 (by kernel_rfl) rfl #[.agg #[.string ((rd_T74 l0 x22_2).f0), .int .i64 ((rd_T74 l0 x22_2).f1), .int .i64 ((rd_T74 l0 x22_2).f2), .int .i64 ((rd_T74 l0 x22_2).f3), .int .i64 ((rd_T74 l0 x22_2).f4), .int .i64 ((rd_T74 l0 x22_2).f5), .int .i64 ((rd_T74 l0 x22_2).f6), .string ((rd_T74 l0 x22_2).f7)]] (by rfl) rfl rfl (by (try simp only [List.map_toArray, List.map_cons, List.map_nil]); first | done | rfl | (simp only [List.length_drop, List.length_take]; rfl)) ?_
         with_reducible refine (spec_l18Bare.calls ((rd_T74 l0 x22_2).f0) ((rd_T74 l0 x22_2).f1) ((rd_T74 l0 x22_2).f2) ((rd_T74 l0 x22_2).f3) ((rd_T74 l0 x22_2).f4) ((rd_T74 l0 x22_2).f5) ((rd_T74 l0 x22_2).f6) ((rd_T74 l0 x22_2).f7) t261 t262 t263 t264 t265 t266 t267 t268 _ A25.out).mono ?_
         rintro e w37 ⟨rfl, hb⟩
         refine ⟨_, rfl, ?_⟩
         have n0_ := Aside0.mk (Kd.R_below (by (with_reducible repeat (first | apply Kd.R_alloc | apply Kd.R_drewN | apply Kd.R_drew)); exact HO_6.out) hb)
         have n1_ := Aside0.mk (blk_below (g := gb248) (o := .cells #[.string ((rd_T74 l0 x22_2).f0), .int .i64 ((rd_T74 l0 x22_2).f1), .int .i64 ((rd_T74 l0 x22_2).f2), .int .i64 ((rd_T74 l0 x22_2).f3), .int .i64 ((rd_T74 l0 x22_2).f4), .int .i64 ((rd_T74 l0 x22_2).f5), .int .i64 ((rd_T74 l0 x22_2).f6), .string ((rd_T74 l0 x22_2).f7)] 74 (0, 0)) (by (with_reducible repeat (first | refine blk_drewN ?_ _ | refine blk_drew ?_ | refine blk_alloc ?_ _)); exact BK248.out) hb)
         have n2_ := Aside0.mk (below_step (Gtr.bw HB.out) hb)
         clear HO_6
         clear BK248
         clear HB
         have HO_6 := n0_
         have BK248 := n1_
         have HB := n2_
         clear n0_ n1_ n2_
         (try clear hb);(try clear hb2);(try clear hk);(try clear hi)
         refine hK.out _ _ ⟨(blk_cell BK248.out 0).trans rfl, (blk_cell BK248.out 1).trans rfl, (blk_cell BK248.out 2).trans rfl, (blk_cell BK248.out 3).trans rfl, (blk_cell BK248.out 4).trans rfl, (blk_cell BK248.out 5).trans rfl, (blk_cell BK248.out 6).trans rfl, (blk_cell BK248.out 7).trans rfl, ((HB.out.cell (World.block_lt_of_cell? w _ hw269_0)).trans hw269_0), ((HB.out.cell (World.block_lt_of_cell? w _ hw269_1)).trans hw269_1), ((HB.out.cell (World.block_lt_of_cell? w _ hw269_2)).trans hw269_2), ((HB.out.cell (World.block_lt_of_cell? w _ hw269_3)).trans hw269_3), ((HB.out.cell (World.block_lt_of_cell? w _ hw269_4)).trans hw269_4), ((HB.out.cell (World.block_lt_of_cell? w _ hw269_5)).trans hw269_5), ((HB.out.cell (World.block_lt_of_cell? w _ hw269_6)).trans hw269_6), ((HB.out.cell (World.block_lt_of_cell? w _ hw269_7)).trans hw269_7)⟩ (fun hHeld => ?_)
         clear hK K
         refine norm_ (a' := ?_) ?_ ?_
         rotate_left
         ·show Act.put _ (some 42) _ = _
          simp only [Gtr.ps]
          rfl
         refine one_ (i := 6) (N := some 47) (Gtr.bb 9 127) rfl rfl (one_of HT_.out (by kernel_rfl)) (by decide) (fun K hK => ?_)
         refine goes_ Tryz.func78 (by kernel_rfl) rfl #[.agg #[.string ((rd_T74 l1 t249).f0), .int .i64 ((rd_T74 l1 t249).f1), .int .i64 ((rd_T74 l1 t249).f2), .int .i64 ((rd_T74 l1 t249).f3), .int .i64 ((rd_T74 l1 t249).f4), .int .i64 ((rd_T74 l1 t249).f5), .int .i64 ((rd_T74 l1 t249).f6), .string ((rd_T74 l1 t249).f7)]] (by rfl) rfl rfl (by (try simp only [List.map_toArray, List.map_cons, List.map_nil]); first | done | rfl | (simp only [List.length_drop, List.length_take]; rfl)) ?_
         with_reducible refine (spec_l18Bare.calls ((rd_T74 l1 t249).f0) ((rd_T74 l1 t249).f1) ((rd_T74 l1 t249).f2) ((rd_T74 l1 t249).f3) ((rd_T74 l1 t249).f4) ((rd_T74 l1 t249).f5) ((rd_T74 l1 t249).f6) ((rd_T74 l1 t249).f7) t270 t271 t272 t273 t274 t275 t276 t277 _ A28.out).mono ?_
         rintro e w38 ⟨rfl, hb⟩
         refine ⟨_, rfl, ?_⟩
         have n0_ := Aside0.mk (Kd.R_below (by (with_reducible repeat (first | apply Kd.R_alloc | apply Kd.R_drewN | apply Kd.R_drew)); exact HO_6.out) hb)
         have n1_ := Aside0.mk (blk_below (g := gb248) (o := .cells #[.string ((rd_T74 l0 x22_2).f0), .int .i64 ((rd_T74 l0 x22_2).f1), .int .i64 ((rd_T74 l0 x22_2).f2), .int .i64 ((rd_T74 l0 x22_2).f3), .int .i64 ((rd_T74 l0 x22_2).f4), .int .i64 ((rd_T74 l0 x22_2).f5), .int .i64 ((rd_T74 l0 x22_2).f6), .string ((rd_T74 l0 x22_2).f7)] 74 (0, 0)) (by (with_reducible repeat (first | refine blk_drewN ?_ _ | refine blk_drew ?_ | refine blk_alloc ?_ _)); exact BK248.out) hb)
         have n2_ := Aside0.mk (below_step (Gtr.bw HB.out) hb)
         clear HO_6
         clear BK248
         clear HB
         have HO_6 := n0_
         have BK248 := n1_
         have HB := n2_
         clear n0_ n1_ n2_
         (try clear hb);(try clear hb2);(try clear hk);(try clear hi)
         refine hK.out _ _ ⟨(blk_cell BK248.out 0).trans rfl, (blk_cell BK248.out 1).trans rfl, (blk_cell BK248.out 2).trans rfl, (blk_cell BK248.out 3).trans rfl, (blk_cell BK248.out 4).trans rfl, (blk_cell BK248.out 5).trans rfl, (blk_cell BK248.out 6).trans rfl, (blk_cell BK248.out 7).trans rfl, ((HB.out.cell (World.block_lt_of_cell? w _ hw269_0)).trans hw269_0), ((HB.out.cell (World.block_lt_of_cell? w _ hw269_1)).trans hw269_1), ((HB.out.cell (World.block_lt_of_cell? w _ hw269_2)).trans hw269_2), ((HB.out.cell (World.block_lt_of_cell? w _ hw269_3)).trans hw269_3), ((HB.out.cell (World.block_lt_of_cell? w _ hw269_4)).trans hw269_4), ((HB.out.cell (World.block_lt_of_cell? w _ hw269_5)).trans hw269_5), ((HB.out.cell (World.block_lt_of_cell? w _ hw269_6)).trans hw269_6), ((HB.out.cell (World.block_lt_of_cell? w _ hw269_7)).trans hw269_7)⟩ (fun hHeld => ?_)
         clear hK K
         refine norm_ (a' := ?_) ?_ ?_
         rotate_left
         ·show Act.put _ (some 47) _ = _
          simp only [Gtr.ps]
          rfl
         refine pure_ (i := 7) (N := some 48) (v := ?_) (a' := ?_) (Gtr.bb 9 255) rfl rfl (any_of HT_.out (by kernel_rfl)) (fun _ _ _ h => h) (Or.inl ⟨by rfl, ?_⟩) ?_ ?_
         rotate_left
         ·intro w'
          go_simp
          with_reducible rfl
         rotate_left
         ·simp only [Gtr.ps]
          rfl
         refine pure_ (i := 8) (N := some 40) (v := ?_) (a' := ?_) (Gtr.bb 9 511) rfl rfl (any_of HT_.out (by kernel_rfl)) (fun _ _ _ h => h) (Or.inl ⟨by rfl, ?_⟩) ?_ ?_
         rotate_left
         ·intro w'
          go_simp
          with_reducible rfl
         rotate_left
         ·simp only [Gtr.ps]
          rfl
         refine done_ (done_of HT_.out (by kernel_rfl)) ?_
         try go_wp2
         have n0_ := Aside0.mk (Kd.R_drew HO_6.out)
         have n1_ := Aside0.mk (blk_drew BK248.out)
         have n2_ := Aside0.mk (below_drew1 HB.out)
         clear HO_6
         clear BK248
         clear HB
         have HO_6 := n0_
         have BK248 := n1_
         have HB := n2_
         clear n0_ n1_ n2_
         have p286 : 0 ≤ (t249 : Int) := of_decide_eq_true (by first | (with_reducible assumption) | assumption)
         have q286 : t249 < (l1.length : Int) := of_decide_eq_true (by first | (with_reducible assumption) | assumption)
         obtain ⟨ad286, e286, hx286_0, hx286_1, hx286_2, hx286_3, hx286_4, hx286_5, hx286_6, hx286_7⟩ := at_T74 HR1.out t249 p286 q286
         have hw286_7 := hx286_7
         have hw286_6 := hx286_6
         have hw286_5 := hx286_5
         have hw286_4 := hx286_4
         have hw286_3 := hx286_3
         have hw286_2 := hx286_2
         have hw286_1 := hx286_1
         have hw286_0 := hx286_0
         obtain rfl : ad269 = ad286 := (by injection e286)
         replace hx286_0 := (HB.out.cell (World.block_lt_of_cell? w _ hx286_0)).trans hx286_0
         replace hx286_1 := (HB.out.cell (World.block_lt_of_cell? w _ hx286_1)).trans hx286_1
         replace hx286_2 := (HB.out.cell (World.block_lt_of_cell? w _ hx286_2)).trans hx286_2
         replace hx286_3 := (HB.out.cell (World.block_lt_of_cell? w _ hx286_3)).trans hx286_3
         replace hx286_4 := (HB.out.cell (World.block_lt_of_cell? w _ hx286_4)).trans hx286_4
         replace hx286_5 := (HB.out.cell (World.block_lt_of_cell? w _ hx286_5)).trans hx286_5
         replace hx286_6 := (HB.out.cell (World.block_lt_of_cell? w _ hx286_6)).trans hx286_6
         replace hx286_7 := (HB.out.cell (World.block_lt_of_cell? w _ hx286_7)).trans hx286_7
         replace p286 := eq_true p286
         replace q286 := eq_true q286
         refine start_ (n := 13) (S := fun w' => w'.cell? ⟨gb248, 0, none⟩ = some (.string ((rd_T74 l0 x22_2).f0)) ∧ w'.cell? ⟨gb248, 1, none⟩ = some (.int .i64 ((rd_T74 l0 x22_2).f1)) ∧ w'.cell? ⟨gb248, 2, none⟩ = some (.int .i64 ((rd_T74 l0 x22_2).f2)) ∧ w'.cell? ⟨gb248, 3, none⟩ = some (.int .i64 ((rd_T74 l0 x22_2).f3)) ∧ w'.cell? ⟨gb248, 4, none⟩ = some (.int .i64 ((rd_T74 l0 x22_2).f4)) ∧ w'.cell? ⟨gb248, 5, none⟩ = some (.int .i64 ((rd_T74 l0 x22_2).f5)) ∧ w'.cell? ⟨gb248, 6, none⟩ = some (.int .i64 ((rd_T74 l0 x22_2).f6)) ∧ w'.cell? ⟨gb248, 7, none⟩ = some (.string ((rd_T74 l0 x22_2).f7)) ∧ w'.cell? (ad269.add ((t249).toNat * 8)) = some (.string ((rd_T74 l1 t249).f0)) ∧ w'.cell? ⟨(ad269.add ((t249).toNat * 8)).block, (ad269.add ((t249).toNat * 8)).off + 1, none⟩ = some (.int .i64 ((rd_T74 l1 t249).f1)) ∧ w'.cell? ⟨(ad269.add ((t249).toNat * 8)).block, (ad269.add ((t249).toNat * 8)).off + 2, none⟩ = some (.int .i64 ((rd_T74 l1 t249).f2)) ∧ w'.cell? ⟨(ad269.add ((t249).toNat * 8)).block, (ad269.add ((t249).toNat * 8)).off + 3, none⟩ = some (.int .i64 ((rd_T74 l1 t249).f3)) ∧ w'.cell? ⟨(ad269.add ((t249).toNat * 8)).block, (ad269.add ((t249).toNat * 8)).off + 4, none⟩ = some (.int .i64 ((rd_T74 l1 t249).f4)) ∧ w'.cell? ⟨(ad269.add ((t249).toNat * 8)).block, (ad269.add ((t249).toNat * 8)).off + 5, none⟩ = some (.int .i64 ((rd_T74 l1 t249).f5)) ∧ w'.cell? ⟨(ad269.add ((t249).toNat * 8)).block, (ad269.add ((t249).toNat * 8)).off + 6, none⟩ = some (.int .i64 ((rd_T74 l1 t249).f6)) ∧ w'.cell? ⟨(ad269.add ((t249).toNat * 8)).block, (ad269.add ((t249).toNat * 8)).off + 7, none⟩ = some (.string ((rd_T74 l1 t249).f7))) (ds := []) (Gtr.bb 13 0) (by kernel_rfl) rfl rfl ⟨(blk_cell BK248.out 0).trans rfl, (blk_cell BK248.out 1).trans rfl, (blk_cell BK248.out 2).trans rfl, (blk_cell BK248.out 3).trans rfl, (blk_cell BK248.out 4).trans rfl, (blk_cell BK248.out 5).trans rfl, (blk_cell BK248.out 6).trans rfl, (blk_cell BK248.out 7).trans rfl, ((HB.out.cell (World.block_lt_of_cell? w _ hw286_0)).trans hw286_0), ((HB.out.cell (World.block_lt_of_cell? w _ hw286_1)).trans hw286_1), ((HB.out.cell (World.block_lt_of_cell? w _ hw286_2)).trans hw286_2), ((HB.out.cell (World.block_lt_of_cell? w _ hw286_3)).trans hw286_3), ((HB.out.cell (World.block_lt_of_cell? w _ hw286_4)).trans hw286_4), ((HB.out.cell (World.block_lt_of_cell? w _ hw286_5)).trans hw286_5), ((HB.out.cell (World.block_lt_of_cell? w _ hw286_6)).trans hw286_6), ((HB.out.cell (World.block_lt_of_cell? w _ hw286_7)).trans hw286_7)⟩ (fun hHeld => ?_); refine with_tabW spec_DiffItems.tab11 spec_DiffItems.bits11 (fun HT_ HW_ => ?_)
         generalize w38.drew = w39 at HO_6 BK248 HB hx286_0 hx286_1 hx286_2 hx286_3 hx286_4 hx286_5 hx286_6 hx286_7 hHeld ⊢
         refine pure_ (i := 0) (N := some 49) (v := ?_) (a' := ?_) (Gtr.bb 13 1) rfl rfl (any_of HT_.out (by kernel_rfl)) (fun _ _ _ h => h) (Or.inl ⟨by rfl, ?_⟩) ?_ ?_
         rotate_left
         ·intro w'
          go_simp
          with_reducible rfl
         rotate_left
         ·simp only [Gtr.ps]
          rfl
         refine pure_ (i := 1) (N := some 50) (v := ?_) (a' := ?_) (Gtr.bb 13 3) rfl rfl (any_of HT_.out (by kernel_rfl)) (fun _ _ _ h => h) (Or.inl ⟨by rfl, ?_⟩) ?_ ?_
         rotate_left
         ·intro w'
          go_simp
          with_reducible rfl
         rotate_left
         ·simp only [Gtr.ps]
          rfl
         refine pure_ (i := 5) (N := some 54) (v := ?_) (a' := ?_) (Gtr.bb 13 35) rfl rfl (any_of HT_.out (by kernel_rfl)) (fun _ _ _ h => h) (Or.inl ⟨by rfl, ?_⟩) ?_ ?_
         rotate_left
         ·intro w'
          go_simp
          with_reducible rfl
         rotate_left
         ·simp only [Gtr.ps]
          rfl
         refine pure_ (i := 6) (N := some 55) (v := ?_) (a' := ?_) (Gtr.bb 13 99) rfl rfl (any_of HT_.out (by kernel_rfl)) (fun _ _ _ h => h) (Or.inl ⟨by rfl, ?_⟩) ?_ ?_
         rotate_left
         ·intro w'
          go_simp
          with_reducible rfl
         rotate_left
         ·simp only [Gtr.ps]
          rfl
         refine pure_ (i := 7) (N := some 56) (v := ?_) (a' := ?_) (Gtr.bb 13 227) rfl rfl (any_of HT_.out (by kernel_rfl)) (fun _ _ _ h => h) (Or.inl ⟨by rfl, ?_⟩) ?_ ?_
         rotate_left
         ·intro w'
          go_simp
          with_reducible rfl
         rotate_left
         ·simp only [Gtr.ps]
          rfl
         refine take_ (i := 2) (N := some 51) (v := ?_) (a' := ?_) (Gtr.bb 13 231) rfl rfl (take_ofW HT_.out HW_.out (by kernel_rfl)) (fun _ _ _ h => h) (Or.inl ⟨by rfl, ?_⟩) hHeld ?_ ?_
         rotate_left
         ·rintro w' ⟨s0, s1, s2, s3, s4, s5, s6, s7, s8, s9, s10, s11, s12, s13, s14, s15⟩
          go_simp
          with_reducible rfl
         rotate_left
         ·simp only [Gtr.ps]
          rfl
         refine take_ (i := 3) (N := some 52) (v := ?_) (a' := ?_) (Gtr.bb 13 239) rfl rfl (take_ofW HT_.out HW_.out (by kernel_rfl)) (fun _ _ _ h => h) (Or.inl ⟨by rfl, ?_⟩) hHeld ?_ ?_
         rotate_left
         ·rintro w' ⟨s0, s1, s2, s3, s4, s5, s6, s7, s8, s9, s10, s11, s12, s13, s14, s15⟩
          go_simp
          with_reducible rfl
         rotate_left
         ·simp only [Gtr.ps]
          rfl
         refine take_ (i := 8) (N := some 57) (v := ?_) (a' := ?_) (Gtr.bb 13 495) rfl rfl (take_ofW HT_.out HW_.out (by kernel_rfl)) (fun _ _ _ h => h) (Or.inl ⟨by rfl, ?_⟩) hHeld ?_ ?_
         rotate_left
         ·rintro w' ⟨s0, s1, s2, s3, s4, s5, s6, s7, s8, s9, s10, s11, s12, s13, s14, s15⟩
          go_simp
          with_reducible rfl
         rotate_left
         ·simp only [Gtr.ps]
          rfl
         refine one_ (i := 4) (N := some 53) (Gtr.bb 13 511) rfl rfl (one_of HT_.out (by kernel_rfl)) (by decide) (fun K hK => ?_)
         refine goes_ Tryz.func78 (by kernel_rfl) rfl #[.agg #[.string ((rd_T74 l0 x22_2).f0), .int .i64 ((rd_T74 l0 x22_2).f1), .int .i64 ((rd_T74 l0 x22_2).f2), .int .i64 ((rd_T74 l0 x22_2).f3), .int .i64 ((rd_T74 l0 x22_2).f4), .int .i64 ((rd_T74 l0 x22_2).f5), .int .i64 ((rd_T74 l0 x22_2).f6), .string ((rd_T74 l0 x22_2).f7)]] (by rfl) rfl rfl (by (try simp only [List.map_toArray, List.map_cons, List.map_nil]); first | done | rfl | (simp only [List.length_drop, List.length_take]; rfl)) ?_
         with_reducible refine (spec_l18Bare.calls ((rd_T74 l0 x22_2).f0) ((rd_T74 l0 x22_2).f1) ((rd_T74 l0 x22_2).f2) ((rd_T74 l0 x22_2).f3) ((rd_T74 l0 x22_2).f4) ((rd_T74 l0 x22_2).f5) ((rd_T74 l0 x22_2).f6) ((rd_T74 l0 x22_2).f7) t278 t279 t280 t281 t282 t283 t284 t285 _ A30.out).mono ?_
         rintro e w40 ⟨rfl, hb⟩
         refine ⟨_, rfl, ?_⟩
         have n0_ := Aside0.mk (Kd.R_below (by (with_reducible repeat (first | apply Kd.R_alloc | apply Kd.R_drewN | apply Kd.R_drew)); exact HO_6.out) hb)
         have n1_ := Aside0.mk (blk_below (g := gb248) (o := .cells #[.string ((rd_T74 l0 x22_2).f0), .int .i64 ((rd_T74 l0 x22_2).f1), .int .i64 ((rd_T74 l0 x22_2).f2), .int .i64 ((rd_T74 l0 x22_2).f3), .int .i64 ((rd_T74 l0 x22_2).f4), .int .i64 ((rd_T74 l0 x22_2).f5), .int .i64 ((rd_T74 l0 x22_2).f6), .string ((rd_T74 l0 x22_2).f7)] 74 (0, 0)) (by (with_reducible repeat (first | refine blk_drewN ?_ _ | refine blk_drew ?_ | refine blk_alloc ?_ _)); exact BK248.out) hb)
         have n2_ := Aside0.mk (below_step (Gtr.bw HB.out) hb)
         clear HO_6
         clear BK248
         clear HB
         have HO_6 := n0_
         have BK248 := n1_
         have HB := n2_
         clear n0_ n1_ n2_
         (try clear hb);(try clear hb2);(try clear hk);(try clear hi)
         refine hK.out _ _ ⟨(blk_cell BK248.out 0).trans rfl, (blk_cell BK248.out 1).trans rfl, (blk_cell BK248.out 2).trans rfl, (blk_cell BK248.out 3).trans rfl, (blk_cell BK248.out 4).trans rfl, (blk_cell BK248.out 5).trans rfl, (blk_cell BK248.out 6).trans rfl, (blk_cell BK248.out 7).trans rfl, ((HB.out.cell (World.block_lt_of_cell? w _ hw286_0)).trans hw286_0), ((HB.out.cell (World.block_lt_of_cell? w _ hw286_1)).trans hw286_1), ((HB.out.cell (World.block_lt_of_cell? w _ hw286_2)).trans hw286_2), ((HB.out.cell (World.block_lt_of_cell? w _ hw286_3)).trans hw286_3), ((HB.out.cell (World.block_lt_of_cell? w _ hw286_4)).trans hw286_4), ((HB.out.cell (World.block_lt_of_cell? w _ hw286_5)).trans hw286_5), ((HB.out.cell (World.block_lt_of_cell? w _ hw286_6)).trans hw286_6), ((HB.out.cell (World.block_lt_of_cell? w _ hw286_7)).trans hw286_7)⟩ (fun hHeld => ?_)
         clear hK K
         refine norm_ (a' := ?_) ?_ ?_
         rotate_left
         ·show Act.put _ (some 53) _ = _
          simp only [Gtr.ps]
          rfl
         refine one_ (i := 9) (N := some 58) (Gtr.bb 13 1023) rfl rfl (one_of HT_.out (by kernel_rfl)) (by decide) (fun K hK => ?_)
         refine goes_ Tryz.func78 (by kernel_rfl) rfl #[.agg #[.string ((rd_T74 l1 t249).f0), .int .i64 ((rd_T74 l1 t249).f1), .int .i64 ((rd_T74 l1 t249).f2), .int .i64 ((rd_T74 l1 t249).f3), .int .i64 ((rd_T74 l1 t249).f4), .int .i64 ((rd_T74 l1 t249).f5), .int .i64 ((rd_T74 l1 t249).f6), .string ((rd_T74 l1 t249).f7)]] (by rfl) rfl rfl (by (try simp only [List.map_toArray, List.map_cons, List.map_nil]); first | done | rfl | (simp only [List.length_drop, List.length_take]; rfl)) ?_
         with_reducible refine (spec_l18Bare.calls ((rd_T74 l1 t249).f0) ((rd_T74 l1 t249).f1) ((rd_T74 l1 t249).f2) ((rd_T74 l1 t249).f3) ((rd_T74 l1 t249).f4) ((rd_T74 l1 t249).f5) ((rd_T74 l1 t249).f6) ((rd_T74 l1 t249).f7) t287 t288 t289 t290 t291 t292 t293 t294 _ A31.out).mono ?_
         rintro e w41 ⟨rfl, hb⟩
         refine ⟨_, rfl, ?_⟩
         have n0_ := Aside0.mk (Kd.R_below (by (with_reducible repeat (first | apply Kd.R_alloc | apply Kd.R_drewN | apply Kd.R_drew)); exact HO_6.out) hb)
         have n1_ := Aside0.mk (blk_below (g := gb248) (o := .cells #[.string ((rd_T74 l0 x22_2).f0), .int .i64 ((rd_T74 l0 x22_2).f1), .int .i64 ((rd_T74 l0 x22_2).f2), .int .i64 ((rd_T74 l0 x22_2).f3), .int .i64 ((rd_T74 l0 x22_2).f4), .int .i64 ((rd_T74 l0 x22_2).f5), .int .i64 ((rd_T74 l0 x22_2).f6), .string ((rd_T74 l0 x22_2).f7)] 74 (0, 0)) (by (with_reducible repeat (first | refine blk_drewN ?_ _ | refine blk_drew ?_ | refine blk_alloc ?_ _)); exact BK248.out) hb)
         have n2_ := Aside0.mk (below_step (Gtr.bw HB.out) hb)
         clear HO_6
         clear BK248
         clear HB
         have HO_6 := n0_
         have BK248 := n1_
         have HB := n2_
         clear n0_ n1_ n2_
         (try clear hb);(try clear hb2);(try clear hk);(try clear hi)
         obtain ⟨Ao42, co42, eo42⟩ := Kd.R_slice HO_6.out
         (first | subst eo42 | (injection eo42 with f1_ f2_ f3_; have f4_ := f1_.symm; have f5_ := f3_.symm; clear f1_ f2_ f3_; subst f4_; subst f5_))
         refine hK.out _ _ ⟨(blk_cell BK248.out 0).trans rfl, (blk_cell BK248.out 1).trans rfl, (blk_cell BK248.out 2).trans rfl, (blk_cell BK248.out 3).trans rfl, (blk_cell BK248.out 4).trans rfl, (blk_cell BK248.out 5).trans rfl, (blk_cell BK248.out 6).trans rfl, (blk_cell BK248.out 7).trans rfl, ((HB.out.cell (World.block_lt_of_cell? w _ hw286_0)).trans hw286_0), ((HB.out.cell (World.block_lt_of_cell? w _ hw286_1)).trans hw286_1), ((HB.out.cell (World.block_lt_of_cell? w _ hw286_2)).trans hw286_2), ((HB.out.cell (World.block_lt_of_cell? w _ hw286_3)).trans hw286_3), ((HB.out.cell (World.block_lt_of_cell? w _ hw286_4)).trans hw286_4), ((HB.out.cell (World.block_lt_of_cell? w _ hw286_5)).trans hw286_5), ((HB.out.cell (World.block_lt_of_cell? w _ hw286_6)).trans hw286_6), ((HB.out.cell (World.block_lt_of_cell? w _ hw286_7)).trans hw286_7)⟩ (fun hHeld => ?_)
         clear hK K
         refine norm_ (a' := ?_) ?_ ?_
         rotate_left
         ·show Act.put _ (some 58) _ = _
          simp only [Gtr.ps]
          rfl
         refine pure_ (i := 10) (N := some 59) (v := ?_) (a' := ?_) (Gtr.bb 13 2047) rfl rfl (any_of HT_.out (by kernel_rfl)) (fun _ _ _ h => h) (Or.inl ⟨by rfl, ?_⟩) ?_ ?_
         rotate_left
         ·intro w'
          go_simp
          with_reducible rfl
         rotate_left
         ·simp only [Gtr.ps]
          rfl
         refine one_ (i := 11) (N := some 60) (Gtr.bb 13 4095) rfl rfl (one_of HT_.out (by kernel_rfl)) (by decide) (fun K hK => ?_)
         refine goes_ Tryz.func77 (by kernel_rfl) rfl #[.slice Ao42 x6_2.length co42, .agg #[.int .i64 3, .string ((rd_T74 l0 x22_2).f0), .string t278, .int .i64 t279, .int .i64 t280, .int .i64 t281, .int .i64 t282, .int .i64 t283, .int .i64 t284, .string t285, .string t287, .int .i64 t288, .int .i64 t289, .int .i64 t290, .int .i64 t291, .int .i64 t292, .int .i64 t293, .string t294]] (by rfl) rfl rfl (by (try simp only [List.map_toArray, List.map_cons, List.map_nil]); first | done | rfl | (simp only [List.length_drop, List.length_take]; rfl)) ?_
         with_reducible refine (spec_l18Put.calls _ _ x6_2 3 ((rd_T74 l0 x22_2).f0) t278 t279 t280 t281 t282 t283 t284 t285 t287 t288 t289 t290 t291 t292 t293 t294 t295 _ ?side1 ?side2 A32.out).mono ?_
         (case side1 => repeat (first | exact (Kd.R_reads' HO_6.out).2.2 | (with_reducible refine Kd.C_alloc ?_ _) | (with_reducible refine Kd.C_drewN ?_ _) | (with_reducible refine Kd.C_drew ?_)))
         (case side2 => exact (Kd.R_reads' HO_6.out).2.1)
         rintro e w43 ⟨v296, rfl, ho0, hb⟩
         refine ⟨_, rfl, ?_⟩
         have n0_ := Aside0.mk (Kd.R_elder' (by (with_reducible repeat (first | apply Kd.R_alloc | apply Kd.R_drewN | apply Kd.R_drew)); exact HO_6.out) (Kd.R_base ho0) hb)
         have n1_ := Aside0.mk (Kd.R_lower (Kd.R_new' ho0 (Kd.R_lt (by (with_reducible repeat (first | apply Kd.R_alloc | apply Kd.R_drewN | apply Kd.R_drew)); exact HO_6.out))) (below_size (Gtr.bw HB.out)))
         have n2_ := Aside0.mk (blk_below (g := gb248) (o := .cells #[.string ((rd_T74 l0 x22_2).f0), .int .i64 ((rd_T74 l0 x22_2).f1), .int .i64 ((rd_T74 l0 x22_2).f2), .int .i64 ((rd_T74 l0 x22_2).f3), .int .i64 ((rd_T74 l0 x22_2).f4), .int .i64 ((rd_T74 l0 x22_2).f5), .int .i64 ((rd_T74 l0 x22_2).f6), .string ((rd_T74 l0 x22_2).f7)] 74 (0, 0)) (by (with_reducible repeat (first | refine blk_drewN ?_ _ | refine blk_drew ?_ | refine blk_alloc ?_ _)); exact BK248.out) hb)
         have n3_ := Aside0.mk (below_step (Gtr.bw HB.out) hb)
         clear HO_6
         clear BK248
         clear HB
         have HO_6 := n0_
         have HO297 := n1_
         have BK248 := n2_
         have HB := n3_
         clear n0_ n1_ n2_ n3_
         (try clear hb);(try clear hb2);(try clear hk);(try clear hi);(try clear ho0)
         refine hK.out _ _ ⟨(blk_cell BK248.out 0).trans rfl, (blk_cell BK248.out 1).trans rfl, (blk_cell BK248.out 2).trans rfl, (blk_cell BK248.out 3).trans rfl, (blk_cell BK248.out 4).trans rfl, (blk_cell BK248.out 5).trans rfl, (blk_cell BK248.out 6).trans rfl, (blk_cell BK248.out 7).trans rfl, ((HB.out.cell (World.block_lt_of_cell? w _ hw286_0)).trans hw286_0), ((HB.out.cell (World.block_lt_of_cell? w _ hw286_1)).trans hw286_1), ((HB.out.cell (World.block_lt_of_cell? w _ hw286_2)).trans hw286_2), ((HB.out.cell (World.block_lt_of_cell? w _ hw286_3)).trans hw286_3), ((HB.out.cell (World.block_lt_of_cell? w _ hw286_4)).trans hw286_4), ((HB.out.cell (World.block_lt_of_cell? w _ hw286_5)).trans hw286_5), ((HB.out.cell (World.block_lt_of_cell? w _ hw286_6)).trans hw286_6), ((HB.out.cell (World.block_lt_of_cell? w _ hw286_7)).trans hw286_7)⟩ (fun hHeld => ?_)
         clear hK K
         refine norm_ (a' := ?_) ?_ ?_
         rotate_left
         ·show Act.put _ (some 60) _ = _
          simp only [Gtr.ps]
          rfl
         refine pure_ (i := 12) (N := some 6) (v := ?_) (a' := ?_) (Gtr.bb 13 8191) rfl rfl (any_of HT_.out (by kernel_rfl)) (fun _ _ _ h => h) (Or.inl ⟨by rfl, ?_⟩) ?_ ?_
         rotate_left
         ·intro w'
          go_simp
          with_reducible rfl
         rotate_left
         ·simp only [Gtr.ps]
          rfl
         refine done_ (done_of HT_.out (by kernel_rfl)) ?_
         try go_wp2
         go_roundg k2
         case measure => have := HJ2.out; have := HK2.out; omega
         case rel => exact ⟨(t295), (wrap64 (x22_2 + 1)), (by first | rfl | (simp; done) | (simp [*]; done)), H', ⟨by have := HJ2.out; have := HK2.out; omega⟩, ⟨by (with_reducible repeat (first | apply Kd.R_alloc | apply Kd.R_drewN | apply Kd.R_drew)); exact Kd.R_mono HO297.out (fun _ hk => trivial)⟩, ⟨(Gtr.bw HB.out)⟩⟩
        ·rw [if_neg c29] at H
         have c29b0 : (!(t261.toList == t270.toList) || (!(t262 == t271) || (!(t263 == t272) || (!(t264 == t273) || (!(t265 == t274) || (!(t266 == t275) || (!(t267 == t276) || (!(t268.toList == t277.toList))))))))) = false := by simpa using c29
         clear c29
         have H' := Aside0.mk H
         clear H
         have p247 : 0 ≤ (x22_2 : Int) := of_decide_eq_true (by first | (with_reducible assumption) | assumption)
         have q247 : x22_2 < (l0.length : Int) := of_decide_eq_true (by first | (with_reducible assumption) | assumption)
         obtain ⟨ad247, e247, hx247_0, hx247_1, hx247_2, hx247_3, hx247_4, hx247_5, hx247_6, hx247_7⟩ := at_T74 HR0.out x22_2 p247 q247
         cases e247
         replace hx247_0 := (HB.out.cell (World.block_lt_of_cell? w _ hx247_0)).trans hx247_0
         replace hx247_1 := (HB.out.cell (World.block_lt_of_cell? w _ hx247_1)).trans hx247_1
         replace hx247_2 := (HB.out.cell (World.block_lt_of_cell? w _ hx247_2)).trans hx247_2
         replace hx247_3 := (HB.out.cell (World.block_lt_of_cell? w _ hx247_3)).trans hx247_3
         replace hx247_4 := (HB.out.cell (World.block_lt_of_cell? w _ hx247_4)).trans hx247_4
         replace hx247_5 := (HB.out.cell (World.block_lt_of_cell? w _ hx247_5)).trans hx247_5
         replace hx247_6 := (HB.out.cell (World.block_lt_of_cell? w _ hx247_6)).trans hx247_6
         replace hx247_7 := (HB.out.cell (World.block_lt_of_cell? w _ hx247_7)).trans hx247_7
         replace p247 := eq_true p247
         replace q247 := eq_true q247
         try go_wp2_with (first | ((with_reducible refine gate_dst (N := 8) rfl ?_); refine box_event ?hg (N := 8) ?hd (cs := #[.string (⟨#[]⟩ : ByteArray), .int .i64 0, .int .i64 0, .int .i64 0, .int .i64 0, .int .i64 0, .int .i64 0, .string (⟨#[]⟩ : ByteArray)]) (t := 74) ?hr ?_; (case hd => rfl); (case hg => rfl); (case hr => first | (go_simp; done) | (go_simp; rfl)); intro gb248 hg w44 hbox hb; have n0_ := Aside0.mk (Kd.R_below (by (with_reducible repeat (first | apply Kd.R_alloc | apply Kd.R_drewN | apply Kd.R_drew)); exact HO_6.out) hb); have n1_ := Aside0.mk (below_step (Gtr.bw HB.out) hb); have n2_ := Aside0.mk (hbox); have n3_ := Aside0.mk ((by rw [hg]; exact (below_size (Gtr.bw HB.out)) : w.heap.size ≤ gb248)); have n4_ := Aside0.mk ((by rw [hg]; exact (below_size (Gtr.bw HB.out)) : w.heap.size ≤ gb248)); clear HO_6; clear HB; have HO_6 := n0_; have HB := n1_; have BK248 := n2_; have GW248 := n3_; have GE248 := n4_; clear n0_ n1_ n2_ n3_ n4_; clear hb hbox hg; have hcz45_0 : w44.cell? ⟨gb248, 0, none⟩ = some (.string (⟨#[]⟩ : ByteArray)) := (blk_cell BK248.out 0).trans rfl; have hcz45_1 : w44.cell? ⟨gb248, 1, none⟩ = some (.int .i64 0) := (blk_cell BK248.out 1).trans rfl; have hcz45_2 : w44.cell? ⟨gb248, 2, none⟩ = some (.int .i64 0) := (blk_cell BK248.out 2).trans rfl; have hcz45_3 : w44.cell? ⟨gb248, 3, none⟩ = some (.int .i64 0) := (blk_cell BK248.out 3).trans rfl; have hcz45_4 : w44.cell? ⟨gb248, 4, none⟩ = some (.int .i64 0) := (blk_cell BK248.out 4).trans rfl; have hcz45_5 : w44.cell? ⟨gb248, 5, none⟩ = some (.int .i64 0) := (blk_cell BK248.out 5).trans rfl; have hcz45_6 : w44.cell? ⟨gb248, 6, none⟩ = some (.int .i64 0) := (blk_cell BK248.out 6).trans rfl; have hcz45_7 : w44.cell? ⟨gb248, 7, none⟩ = some (.string (⟨#[]⟩ : ByteArray)) := (blk_cell BK248.out 7).trans rfl; have hfz45_0 := blk_frozen BK248.out 0; have hfz45_1 := blk_frozen BK248.out 1; have hfz45_2 := blk_frozen BK248.out 2; have hfz45_3 := blk_frozen BK248.out 3; have hfz45_4 := blk_frozen BK248.out 4; have hfz45_5 := blk_frozen BK248.out 5; have hfz45_6 := blk_frozen BK248.out 6; have hfz45_7 := blk_frozen BK248.out 7) | ((with_reducible refine gate_callee (f := 76) rfl ?_); refine goesL_ (some 29) rfl rfl Tryz.func76 (by kernel_rfl) rfl #[.slice A1 l1.length c1, .string ((rd_T74 l0 x22_2).f0)] rfl (by (try simp only [List.map_toArray, List.map_cons, List.map_nil]); first | done | rfl | (simp only [List.length_drop, List.length_take]; rfl)) ?_; (with_reducible refine (spec_l18At.calls k2 _ _ l1 ((rd_T74 l0 x22_2).f0) t249 _ ?side1 ?side2 A14.out).mono ?_); (case side1 => exact Kd.C_below HR1.out (Gtr.bw HB.out)); (case side2 => exact HC1.out); rintro e w46 ⟨rfl, hb⟩; refine ⟨_, rfl, ?_⟩; have n0_ := Aside0.mk (Kd.R_below (by (with_reducible repeat (first | apply Kd.R_alloc | apply Kd.R_drewN | apply Kd.R_drew)); exact (Kd.R_mono (Kd.R_far (p := ⟨gb248, 7, none⟩) (Kd.R_far (p := ⟨gb248, 6, none⟩) (Gtr.far6 (Kd.R_types HO_6.out BK248.out (by decide)) (fun _ hk => hk.2)) (fun _ hk => hk.2) (.int .i64 ((rd_T74 l0 x22_2).f6))) (fun _ hk => hk.2) (.string ((rd_T74 l0 x22_2).f7))) (fun _ h_ => h_.1))) hb); have n1_ := Aside0.mk (blk_below (g := gb248) (o := .cells #[.string ((rd_T74 l0 x22_2).f0), .int .i64 ((rd_T74 l0 x22_2).f1), .int .i64 ((rd_T74 l0 x22_2).f2), .int .i64 ((rd_T74 l0 x22_2).f3), .int .i64 ((rd_T74 l0 x22_2).f4), .int .i64 ((rd_T74 l0 x22_2).f5), .int .i64 ((rd_T74 l0 x22_2).f6), .string ((rd_T74 l0 x22_2).f7)] 74 (0, 0)) (by (with_reducible repeat (first | refine blk_drewN ?_ _ | refine blk_drew ?_ | refine blk_alloc ?_ _)); refine blk_put (cs := #[.string ((rd_T74 l0 x22_2).f0), .int .i64 ((rd_T74 l0 x22_2).f1), .int .i64 ((rd_T74 l0 x22_2).f2), .int .i64 ((rd_T74 l0 x22_2).f3), .int .i64 ((rd_T74 l0 x22_2).f4), .int .i64 ((rd_T74 l0 x22_2).f5), .int .i64 ((rd_T74 l0 x22_2).f6), .string (⟨#[]⟩ : ByteArray)]) ?_ 7 _ rfl; (with_reducible repeat (first | refine blk_drewN ?_ _ | refine blk_drew ?_ | refine blk_alloc ?_ _)); refine blk_put (cs := #[.string ((rd_T74 l0 x22_2).f0), .int .i64 ((rd_T74 l0 x22_2).f1), .int .i64 ((rd_T74 l0 x22_2).f2), .int .i64 ((rd_T74 l0 x22_2).f3), .int .i64 ((rd_T74 l0 x22_2).f4), .int .i64 ((rd_T74 l0 x22_2).f5), .int .i64 0, .string (⟨#[]⟩ : ByteArray)]) ?_ 6 _ rfl; (with_reducible repeat (first | refine blk_drewN ?_ _ | refine blk_drew ?_ | refine blk_alloc ?_ _)); refine blk_put (cs := #[.string ((rd_T74 l0 x22_2).f0), .int .i64 ((rd_T74 l0 x22_2).f1), .int .i64 ((rd_T74 l0 x22_2).f2), .int .i64 ((rd_T74 l0 x22_2).f3), .int .i64 ((rd_T74 l0 x22_2).f4), .int .i64 0, .int .i64 0, .string (⟨#[]⟩ : ByteArray)]) ?_ 5 _ rfl; (with_reducible repeat (first | refine blk_drewN ?_ _ | refine blk_drew ?_ | refine blk_alloc ?_ _)); refine blk_put (cs := #[.string ((rd_T74 l0 x22_2).f0), .int .i64 ((rd_T74 l0 x22_2).f1), .int .i64 ((rd_T74 l0 x22_2).f2), .int .i64 ((rd_T74 l0 x22_2).f3), .int .i64 0, .int .i64 0, .int .i64 0, .string (⟨#[]⟩ : ByteArray)]) ?_ 4 _ rfl; (with_reducible repeat (first | refine blk_drewN ?_ _ | refine blk_drew ?_ | refine blk_alloc ?_ _)); refine blk_put (cs := #[.string ((rd_T74 l0 x22_2).f0), .int .i64 ((rd_T74 l0 x22_2).f1), .int .i64 ((rd_T74 l0 x22_2).f2), .int .i64 0, .int .i64 0, .int .i64 0, .int .i64 0, .string (⟨#[]⟩ : ByteArray)]) ?_ 3 _ rfl; (with_reducible repeat (first | refine blk_drewN ?_ _ | refine blk_drew ?_ | refine blk_alloc ?_ _)); refine blk_put (cs := #[.string ((rd_T74 l0 x22_2).f0), .int .i64 ((rd_T74 l0 x22_2).f1), .int .i64 0, .int .i64 0, .int .i64 0, .int .i64 0, .int .i64 0, .string (⟨#[]⟩ : ByteArray)]) ?_ 2 _ rfl; (with_reducible repeat (first | refine blk_drewN ?_ _ | refine blk_drew ?_ | refine blk_alloc ?_ _)); refine blk_put (cs := #[.string ((rd_T74 l0 x22_2).f0), .int .i64 0, .int .i64 0, .int .i64 0, .int .i64 0, .int .i64 0, .int .i64 0, .string (⟨#[]⟩ : ByteArray)]) ?_ 1 _ rfl; (with_reducible repeat (first | refine blk_drewN ?_ _ | refine blk_drew ?_ | refine blk_alloc ?_ _)); refine blk_put (cs := #[.string (⟨#[]⟩ : ByteArray), .int .i64 0, .int .i64 0, .int .i64 0, .int .i64 0, .int .i64 0, .int .i64 0, .string (⟨#[]⟩ : ByteArray)]) ?_ 0 _ rfl; (with_reducible repeat (first | refine blk_drewN ?_ _ | refine blk_drew ?_ | refine blk_alloc ?_ _)); exact BK248.out) hb); have n2_ := Aside0.mk (below_step (Gtr.bw HB.out) hb); clear HO_6; clear BK248; clear HB; have HO_6 := n0_; have BK248 := n1_; have HB := n2_; clear n0_ n1_ n2_; (try clear hb); (try clear hb2); (try clear hk); (try clear hi)))
         have n0_ := Aside0.mk (Kd.R_drew HO_6.out)
         have n1_ := Aside0.mk (blk_drew BK248.out)
         have n2_ := Aside0.mk (below_drew1 HB.out)
         clear HO_6
         clear BK248
         clear HB
         have HO_6 := n0_
         have BK248 := n1_
         have HB := n2_
         clear n0_ n1_ n2_
         have p269 : 0 ≤ (t249 : Int) := of_decide_eq_true (by first | (with_reducible assumption) | assumption)
         have q269 : t249 < (l1.length : Int) := of_decide_eq_true (by first | (with_reducible assumption) | assumption)
         obtain ⟨ad269, e269, hx269_0, hx269_1, hx269_2, hx269_3, hx269_4, hx269_5, hx269_6, hx269_7⟩ := at_T74 HR1.out t249 p269 q269
         have hw269_7 := hx269_7
         have hw269_6 := hx269_6
         have hw269_5 := hx269_5
         have hw269_4 := hx269_4
         have hw269_3 := hx269_3
         have hw269_2 := hx269_2
         have hw269_1 := hx269_1
         have hw269_0 := hx269_0
         cases e269
         replace hx269_0 := (HB.out.cell (World.block_lt_of_cell? w _ hx269_0)).trans hx269_0
         replace hx269_1 := (HB.out.cell (World.block_lt_of_cell? w _ hx269_1)).trans hx269_1
         replace hx269_2 := (HB.out.cell (World.block_lt_of_cell? w _ hx269_2)).trans hx269_2
         replace hx269_3 := (HB.out.cell (World.block_lt_of_cell? w _ hx269_3)).trans hx269_3
         replace hx269_4 := (HB.out.cell (World.block_lt_of_cell? w _ hx269_4)).trans hx269_4
         replace hx269_5 := (HB.out.cell (World.block_lt_of_cell? w _ hx269_5)).trans hx269_5
         replace hx269_6 := (HB.out.cell (World.block_lt_of_cell? w _ hx269_6)).trans hx269_6
         replace hx269_7 := (HB.out.cell (World.block_lt_of_cell? w _ hx269_7)).trans hx269_7
         replace p269 := eq_true p269
         replace q269 := eq_true q269
         refine start_ (n := 9) (S := fun w' => w'.cell? ⟨gb248, 0, none⟩ = some (.string ((rd_T74 l0 x22_2).f0)) ∧ w'.cell? ⟨gb248, 1, none⟩ = some (.int .i64 ((rd_T74 l0 x22_2).f1)) ∧ w'.cell? ⟨gb248, 2, none⟩ = some (.int .i64 ((rd_T74 l0 x22_2).f2)) ∧ w'.cell? ⟨gb248, 3, none⟩ = some (.int .i64 ((rd_T74 l0 x22_2).f3)) ∧ w'.cell? ⟨gb248, 4, none⟩ = some (.int .i64 ((rd_T74 l0 x22_2).f4)) ∧ w'.cell? ⟨gb248, 5, none⟩ = some (.int .i64 ((rd_T74 l0 x22_2).f5)) ∧ w'.cell? ⟨gb248, 6, none⟩ = some (.int .i64 ((rd_T74 l0 x22_2).f6)) ∧ w'.cell? ⟨gb248, 7, none⟩ = some (.string ((rd_T74 l0 x22_2).f7)) ∧ w'.cell? (ad269.add ((t249).toNat * 8)) = some (.string ((rd_T74 l1 t249).f0)) ∧ w'.cell? ⟨(ad269.add ((t249).toNat * 8)).block, (ad269.add ((t249).toNat * 8)).off + 1, none⟩ = some (.int .i64 ((rd_T74 l1 t249).f1)) ∧ w'.cell? ⟨(ad269.add ((t249).toNat * 8)).block, (ad269.add ((t249).toNat * 8)).off + 2, none⟩ = some (.int .i64 ((rd_T74 l1 t249).f2)) ∧ w'.cell? ⟨(ad269.add ((t249).toNat * 8)).block, (ad269.add ((t249).toNat * 8)).off + 3, none⟩ = some (.int .i64 ((rd_T74 l1 t249).f3)) ∧ w'.cell? ⟨(ad269.add ((t249).toNat * 8)).block, (ad269.add ((t249).toNat * 8)).off + 4, none⟩ = some (.int .i64 ((rd_T74 l1 t249).f4)) ∧ w'.cell? ⟨(ad269.add ((t249).toNat * 8)).block, (ad269.add ((t249).toNat * 8)).off + 5, none⟩ = some (.int .i64 ((rd_T74 l1 t249).f5)) ∧ w'.cell? ⟨(ad269.add ((t249).toNat * 8)).block, (ad269.add ((t249).toNat * 8)).off + 6, none⟩ = some (.int .i64 ((rd_T74 l1 t249).f6)) ∧ w'.cell? ⟨(ad269.add ((t249).toNat * 8)).block, (ad269.add ((t249).toNat * 8)).off + 7, none⟩ = some (.string ((rd_T74 l1 t249).f7))) (ds := []) (Gtr.bb 9 0) (by kernel_rfl) rfl rfl ⟨(blk_cell BK248.out 0).trans rfl, (blk_cell BK248.out 1).trans rfl, (blk_cell BK248.out 2).trans rfl, (blk_cell BK248.out 3).trans rfl, (blk_cell BK248.out 4).trans rfl, (blk_cell BK248.out 5).trans rfl, (blk_cell BK248.out 6).trans rfl, (blk_cell BK248.out 7).trans rfl, ((HB.out.cell (World.block_lt_of_cell? w _ hw269_0)).trans hw269_0), ((HB.out.cell (World.block_lt_of_cell? w _ hw269_1)).trans hw269_1), ((HB.out.cell (World.block_lt_of_cell? w _ hw269_2)).trans hw269_2), ((HB.out.cell (World.block_lt_of_cell? w _ hw269_3)).trans hw269_3), ((HB.out.cell (World.block_lt_of_cell? w _ hw269_4)).trans hw269_4), ((HB.out.cell (World.block_lt_of_cell? w _ hw269_5)).trans hw269_5), ((HB.out.cell (World.block_lt_of_cell? w _ hw269_6)).trans hw269_6), ((HB.out.cell (World.block_lt_of_cell? w _ hw269_7)).trans hw269_7)⟩ (fun hHeld => ?_); refine with_tabW spec_DiffItems.tab10 spec_DiffItems.bits10 (fun HT_ HW_ => ?_)
         generalize w46.drew = w47 at HO_6 BK248 HB hx269_0 hx269_1 hx269_2 hx269_3 hx269_4 hx269_5 hx269_6 hx269_7 hHeld ⊢
         refine pure_ (i := 2) (N := some 43) (v := ?_) (a' := ?_) (Gtr.bb 9 4) rfl rfl (any_of HT_.out (by kernel_rfl)) (fun _ _ _ h => h) (Or.inl ⟨by rfl, ?_⟩) ?_ ?_
         rotate_left
         ·intro w'
          go_simp
          with_reducible rfl
         rotate_left
         ·simp only [Gtr.ps]
          rfl
         refine pure_ (i := 3) (N := some 44) (v := ?_) (a' := ?_) (Gtr.bb 9 12) rfl rfl (any_of HT_.out (by kernel_rfl)) (fun _ _ _ h => h) (Or.inl ⟨by rfl, ?_⟩) ?_ ?_
         rotate_left
         ·intro w'
          go_simp
          with_reducible rfl
         rotate_left
         ·simp only [Gtr.ps]
          rfl
         refine pure_ (i := 4) (N := some 45) (v := ?_) (a' := ?_) (Gtr.bb 9 28) rfl rfl (any_of HT_.out (by kernel_rfl)) (fun _ _ _ h => h) (Or.inl ⟨by rfl, ?_⟩) ?_ ?_
         rotate_left
         ·intro w'
          go_simp
          with_reducible rfl
         rotate_left
         ·simp only [Gtr.ps]
          rfl
         refine take_ (i := 0) (N := some 41) (v := ?_) (a' := ?_) (Gtr.bb 9 29) rfl rfl (take_ofW HT_.out HW_.out (by kernel_rfl)) (fun _ _ _ h => h) (Or.inl ⟨by rfl, ?_⟩) hHeld ?_ ?_
         rotate_left
         ·rintro w' ⟨s0, s1, s2, s3, s4, s5, s6, s7, s8, s9, s10, s11, s12, s13, s14, s15⟩
          go_simp
          with_reducible rfl
         rotate_left
         ·simp only [Gtr.ps]
          rfl
         refine take_ (i := 5) (N := some 46) (v := ?_) (a' := ?_) (Gtr.bb 9 61) rfl rfl (take_ofW HT_.out HW_.out (by kernel_rfl)) (fun _ _ _ h => h) (Or.inl ⟨by rfl, ?_⟩) hHeld ?_ ?_
         rotate_left
         ·rintro w' ⟨s0, s1, s2, s3, s4, s5, s6, s7, s8, s9, s10, s11, s12, s13, s14, s15⟩
          go_simp
          with_reducible rfl
         rotate_left
         ·simp only [Gtr.ps]
          rfl
         refine one_ (i := 1) (N := some 42) (Gtr.bb 9 63) rfl rfl (one_of HT_.out (by kernel_rfl)) (by decide) (fun K hK => ?_)
         refine goes_ Tryz.func78 (by kernel_rfl) rfl #[.agg #[.string ((rd_T74 l0 x22_2).f0), .int .i64 ((rd_T74 l0 x22_2).f1), .int .i64 ((rd_T74 l0 x22_2).f2), .int .i64 ((rd_T74 l0 x22_2).f3), .int .i64 ((rd_T74 l0 x22_2).f4), .int .i64 ((rd_T74 l0 x22_2).f5), .int .i64 ((rd_T74 l0 x22_2).f6), .string ((rd_T74 l0 x22_2).f7)]] (by rfl) rfl rfl (by (try simp only [List.map_toArray, List.map_cons, List.map_nil]); first | done | rfl | (simp only [List.length_drop, List.length_take]; rfl)) ?_
         with_reducible refine (spec_l18Bare.calls ((rd_T74 l0 x22_2).f0) ((rd_T74 l0 x22_2).f1) ((rd_T74 l0 x22_2).f2) ((rd_T74 l0 x22_2).f3) ((rd_T74 l0 x22_2).f4) ((rd_T74 l0 x22_2).f5) ((rd_T74 l0 x22_2).f6) ((rd_T74 l0 x22_2).f7) t261 t262 t263 t264 t265 t266 t267 t268 _ A25.out).mono ?_
         rintro e w48 ⟨rfl, hb⟩
         refine ⟨_, rfl, ?_⟩
         have n0_ := Aside0.mk (Kd.R_below (by (with_reducible repeat (first | apply Kd.R_alloc | apply Kd.R_drewN | apply Kd.R_drew)); exact HO_6.out) hb)
         have n1_ := Aside0.mk (blk_below (g := gb248) (o := .cells #[.string ((rd_T74 l0 x22_2).f0), .int .i64 ((rd_T74 l0 x22_2).f1), .int .i64 ((rd_T74 l0 x22_2).f2), .int .i64 ((rd_T74 l0 x22_2).f3), .int .i64 ((rd_T74 l0 x22_2).f4), .int .i64 ((rd_T74 l0 x22_2).f5), .int .i64 ((rd_T74 l0 x22_2).f6), .string ((rd_T74 l0 x22_2).f7)] 74 (0, 0)) (by (with_reducible repeat (first | refine blk_drewN ?_ _ | refine blk_drew ?_ | refine blk_alloc ?_ _)); exact BK248.out) hb)
         have n2_ := Aside0.mk (below_step (Gtr.bw HB.out) hb)
         clear HO_6
         clear BK248
         clear HB
         have HO_6 := n0_
         have BK248 := n1_
         have HB := n2_
         clear n0_ n1_ n2_
         (try clear hb);(try clear hb2);(try clear hk);(try clear hi)
         refine hK.out _ _ ⟨(blk_cell BK248.out 0).trans rfl, (blk_cell BK248.out 1).trans rfl, (blk_cell BK248.out 2).trans rfl, (blk_cell BK248.out 3).trans rfl, (blk_cell BK248.out 4).trans rfl, (blk_cell BK248.out 5).trans rfl, (blk_cell BK248.out 6).trans rfl, (blk_cell BK248.out 7).trans rfl, ((HB.out.cell (World.block_lt_of_cell? w _ hw269_0)).trans hw269_0), ((HB.out.cell (World.block_lt_of_cell? w _ hw269_1)).trans hw269_1), ((HB.out.cell (World.block_lt_of_cell? w _ hw269_2)).trans hw269_2), ((HB.out.cell (World.block_lt_of_cell? w _ hw269_3)).trans hw269_3), ((HB.out.cell (World.block_lt_of_cell? w _ hw269_4)).trans hw269_4), ((HB.out.cell (World.block_lt_of_cell? w _ hw269_5)).trans hw269_5), ((HB.out.cell (World.block_lt_of_cell? w _ hw269_6)).trans hw269_6), ((HB.out.cell (World.block_lt_of_cell? w _ hw269_7)).trans hw269_7)⟩ (fun hHeld => ?_)
         clear hK K
         refine norm_ (a' := ?_) ?_ ?_
         rotate_left
         ·show Act.put _ (some 42) _ = _
          simp only [Gtr.ps]
          rfl
         refine one_ (i := 6) (N := some 47) (Gtr.bb 9 127) rfl rfl (one_of HT_.out (by kernel_rfl)) (by decide) (fun K hK => ?_)
         refine goes_ Tryz.func78 (by kernel_rfl) rfl #[.agg #[.string ((rd_T74 l1 t249).f0), .int .i64 ((rd_T74 l1 t249).f1), .int .i64 ((rd_T74 l1 t249).f2), .int .i64 ((rd_T74 l1 t249).f3), .int .i64 ((rd_T74 l1 t249).f4), .int .i64 ((rd_T74 l1 t249).f5), .int .i64 ((rd_T74 l1 t249).f6), .string ((rd_T74 l1 t249).f7)]] (by rfl) rfl rfl (by (try simp only [List.map_toArray, List.map_cons, List.map_nil]); first | done | rfl | (simp only [List.length_drop, List.length_take]; rfl)) ?_
         with_reducible refine (spec_l18Bare.calls ((rd_T74 l1 t249).f0) ((rd_T74 l1 t249).f1) ((rd_T74 l1 t249).f2) ((rd_T74 l1 t249).f3) ((rd_T74 l1 t249).f4) ((rd_T74 l1 t249).f5) ((rd_T74 l1 t249).f6) ((rd_T74 l1 t249).f7) t270 t271 t272 t273 t274 t275 t276 t277 _ A28.out).mono ?_
         rintro e w49 ⟨rfl, hb⟩
         refine ⟨_, rfl, ?_⟩
         have n0_ := Aside0.mk (Kd.R_below (by (with_reducible repeat (first | apply Kd.R_alloc | apply Kd.R_drewN | apply Kd.R_drew)); exact HO_6.out) hb)
         have n1_ := Aside0.mk (blk_below (g := gb248) (o := .cells #[.string ((rd_T74 l0 x22_2).f0), .int .i64 ((rd_T74 l0 x22_2).f1), .int .i64 ((rd_T74 l0 x22_2).f2), .int .i64 ((rd_T74 l0 x22_2).f3), .int .i64 ((rd_T74 l0 x22_2).f4), .int .i64 ((rd_T74 l0 x22_2).f5), .int .i64 ((rd_T74 l0 x22_2).f6), .string ((rd_T74 l0 x22_2).f7)] 74 (0, 0)) (by (with_reducible repeat (first | refine blk_drewN ?_ _ | refine blk_drew ?_ | refine blk_alloc ?_ _)); exact BK248.out) hb)
         have n2_ := Aside0.mk (below_step (Gtr.bw HB.out) hb)
         clear HO_6
         clear BK248
         clear HB
         have HO_6 := n0_
         have BK248 := n1_
         have HB := n2_
         clear n0_ n1_ n2_
         (try clear hb);(try clear hb2);(try clear hk);(try clear hi)
         refine hK.out _ _ ⟨(blk_cell BK248.out 0).trans rfl, (blk_cell BK248.out 1).trans rfl, (blk_cell BK248.out 2).trans rfl, (blk_cell BK248.out 3).trans rfl, (blk_cell BK248.out 4).trans rfl, (blk_cell BK248.out 5).trans rfl, (blk_cell BK248.out 6).trans rfl, (blk_cell BK248.out 7).trans rfl, ((HB.out.cell (World.block_lt_of_cell? w _ hw269_0)).trans hw269_0), ((HB.out.cell (World.block_lt_of_cell? w _ hw269_1)).trans hw269_1), ((HB.out.cell (World.block_lt_of_cell? w _ hw269_2)).trans hw269_2), ((HB.out.cell (World.block_lt_of_cell? w _ hw269_3)).trans hw269_3), ((HB.out.cell (World.block_lt_of_cell? w _ hw269_4)).trans hw269_4), ((HB.out.cell (World.block_lt_of_cell? w _ hw269_5)).trans hw269_5), ((HB.out.cell (World.block_lt_of_cell? w _ hw269_6)).trans hw269_6), ((HB.out.cell (World.block_lt_of_cell? w _ hw269_7)).trans hw269_7)⟩ (fun hHeld => ?_)
         clear hK K
         refine norm_ (a' := ?_) ?_ ?_
         rotate_left
         ·show Act.put _ (some 47) _ = _
          simp only [Gtr.ps]
          rfl
         refine pure_ (i := 7) (N := some 48) (v := ?_) (a' := ?_) (Gtr.bb 9 255) rfl rfl (any_of HT_.out (by kernel_rfl)) (fun _ _ _ h => h) (Or.inl ⟨by rfl, ?_⟩) ?_ ?_
         rotate_left
         ·intro w'
          go_simp
          with_reducible rfl
         rotate_left
         ·simp only [Gtr.ps]
          rfl
         refine pure_ (i := 8) (N := some 40) (v := ?_) (a' := ?_) (Gtr.bb 9 511) rfl rfl (any_of HT_.out (by kernel_rfl)) (fun _ _ _ h => h) (Or.inl ⟨by rfl, ?_⟩) ?_ ?_
         rotate_left
         ·intro w'
          go_simp
          with_reducible rfl
         rotate_left
         ·simp only [Gtr.ps]
          rfl
         refine done_ (done_of HT_.out (by kernel_rfl)) ?_
         try go_wp2
         go_roundg k2
         case measure => have := HJ2.out; have := HK2.out; omega
         case rel => exact ⟨(x6_2), (wrap64 (x22_2 + 1)), (by first | rfl | (simp; done) | (simp [*]; done)), H', ⟨by have := HJ2.out; have := HK2.out; omega⟩, ⟨by (with_reducible repeat (first | apply Kd.R_alloc | apply Kd.R_drewN | apply Kd.R_drew)); exact HO_6.out⟩, ⟨(Gtr.bw HB.out)⟩⟩
      ·rw [if_neg c11] at H
       have c11b0 : decide (x22_2 < (l0.length : Int)) = false := decide_eq_false c11
       clear c11
       have H' := Aside0.mk H
       clear H
       go_wp2
       go_loopg [6, 64] k2 (fun kq v6 v64 w' => ∃ (x6_3 : List (S104)) (x64_3 : Int), v64 = .int .i64 x64_3 ∧ Aside0 (spec_DiffItems.l1 kq l0 x6_3 l1 (l1.length : Int) x64_3 = some (r1, r2)) ∧ Aside0 (kq ≤ k2) ∧ Aside0 (Kd.R k104 104 w' w.heap.size (fun _ => True) v6 x6_3) ∧ Aside0 (Below w.heap.size w w'))
       case atStart => exact ⟨(x6_2), (0), (by first | rfl | (simp; done) | (simp [*]; done)), H', ⟨Nat.le_refl _⟩, ⟨by (with_reducible repeat (first | apply Kd.R_alloc | apply Kd.R_drewN | apply Kd.R_drew)); exact HO_6.out⟩, ⟨(Gtr.bw HB.out)⟩⟩
       case round =>
        clear H'
        (try clear c1);(try clear c2);(try clear p2);(try clear q2);(try clear hx2);(try clear p6);(try clear c7);(try clear c11);(try clear c11b0);(try clear c12);(try clear c13);(try clear c15);(try clear c15b0);(try clear p24);(try clear q24);(try clear hx24);(try clear c26);(try clear c26b0);(try clear p26);(try clear q26);(try clear hx26);(try clear c27);(try clear c27b0);(try clear p28);(try clear q28);(try clear hx28);(try clear c29);(try clear c29b0);(try clear hcz34_0);(try clear hcz34_1);(try clear hcz34_2);(try clear hcz34_3);(try clear hcz34_4);(try clear hcz34_5);(try clear hcz34_6);(try clear hcz34_7);(try clear hcz45_0);(try clear hcz45_1);(try clear hcz45_2);(try clear hcz45_3);(try clear hcz45_4);(try clear hcz45_5);(try clear hcz45_6);(try clear hcz45_7);(try clear hfz34_0);(try clear hfz34_1);(try clear hfz34_2);(try clear hfz34_3);(try clear hfz34_4);(try clear hfz34_5);(try clear hfz34_6);(try clear hfz34_7);(try clear hfz45_0);(try clear hfz45_1);(try clear hfz45_2);(try clear hfz45_3);(try clear hfz45_4);(try clear hfz45_5);(try clear hfz45_6);(try clear hfz45_7);(try clear hx247_0);(try clear hx247_1);(try clear hx247_2);(try clear hx247_3);(try clear hx247_4);(try clear hx247_5);(try clear hx247_6);(try clear hx247_7);(try clear hx269_0);(try clear hx269_1);(try clear hx269_2);(try clear hx269_3);(try clear hx269_4);(try clear hx269_5);(try clear hx269_6);(try clear hx269_7);(try clear hx286_0);(try clear hx286_1);(try clear hx286_2);(try clear hx286_3);(try clear hx286_4);(try clear hx286_5);(try clear hx286_6);(try clear hx286_7);(try clear p247);(try clear p269);(try clear p286);(try clear q247);(try clear q269);(try clear q286)
        obtain ⟨x6_3, x64_3, rfl, HA, HK3, HO_6, HB⟩ := hrel
        cases gk with
        | zero => exact absurd HA.out (by simp [spec_DiffItems.l1])
        | succ k3 =>
         have H := HA.out
         clear HA
         simp only [spec_DiffItems.l1] at H
         by_cases c50 : x64_3 < (l1.length : Int)
         ·rw [if_pos c50] at H
          have c50b0 : decide (x64_3 < (l1.length : Int)) = true := decide_eq_true c50
          clear c50
          refine Or.elim (Classical.em (0 ≤ x64_3)) (fun c51 => ?_) (fun c51 => by rw [if_neg c51] at H; exact absurd H (by simp))
          rw [if_pos c51] at H
          have c51b0 : decide (0 ≤ x64_3) = true := decide_eq_true c51
          clear c51
          refine Or.elim (Classical.em (x64_3 < (l1.length : Int))) (fun c52 => ?_) (fun c52 => by rw [if_neg c52] at H; exact absurd H (by simp))
          rw [if_pos c52] at H
          have c52b0 : decide (x64_3 < (l1.length : Int)) = true := decide_eq_true c52
          clear c52
          replace H := Option.bind_eq_some_iff.mp H
          obtain ⟨t300, A530, H⟩ := H
          try dsimp only at H
          have A53 := Aside0.mk A530
          clear A530
          by_cases c54 : t300 < 0
          ·rw [if_pos c54] at H
           have c54b0 : decide (t300 < 0) = true := decide_eq_true c54
           clear c54
           replace H := Option.bind_eq_some_iff.mp H
           obtain ⟨⟨t301, t302, t303, t304, t305, t306, t307, t308⟩, A550, H⟩ := H
           try dsimp only at H
           have A55 := Aside0.mk A550
           clear A550
           replace H := Option.bind_eq_some_iff.mp H
           obtain ⟨t309, A560, H⟩ := H
           try dsimp only at H
           have A56 := Aside0.mk A560
           clear A560
           have H' := Aside0.mk H
           clear H
           have p298 : 0 ≤ (x64_3 : Int) := of_decide_eq_true (by first | (with_reducible assumption) | assumption)
           have q298 : x64_3 < (l1.length : Int) := of_decide_eq_true (by first | (with_reducible assumption) | assumption)
           obtain ⟨ad298, e298, hx298_0, hx298_1, hx298_2, hx298_3, hx298_4, hx298_5, hx298_6, hx298_7⟩ := at_T74 HR1.out x64_3 p298 q298
           cases e298
           replace hx298_0 := (HB.out.cell (World.block_lt_of_cell? w _ hx298_0)).trans hx298_0
           replace hx298_1 := (HB.out.cell (World.block_lt_of_cell? w _ hx298_1)).trans hx298_1
           replace hx298_2 := (HB.out.cell (World.block_lt_of_cell? w _ hx298_2)).trans hx298_2
           replace hx298_3 := (HB.out.cell (World.block_lt_of_cell? w _ hx298_3)).trans hx298_3
           replace hx298_4 := (HB.out.cell (World.block_lt_of_cell? w _ hx298_4)).trans hx298_4
           replace hx298_5 := (HB.out.cell (World.block_lt_of_cell? w _ hx298_5)).trans hx298_5
           replace hx298_6 := (HB.out.cell (World.block_lt_of_cell? w _ hx298_6)).trans hx298_6
           replace hx298_7 := (HB.out.cell (World.block_lt_of_cell? w _ hx298_7)).trans hx298_7
           replace p298 := eq_true p298
           replace q298 := eq_true q298
           try go_wp2_with (first | ((with_reducible refine gate_dst (N := 11) rfl ?_); refine box_event ?hg (N := 11) ?hd (cs := #[.string (⟨#[]⟩ : ByteArray), .int .i64 0, .int .i64 0, .int .i64 0, .int .i64 0, .int .i64 0, .int .i64 0, .string (⟨#[]⟩ : ByteArray)]) (t := 74) ?hr ?_; (case hd => rfl); (case hg => rfl); (case hr => first | (go_simp; done) | (go_simp; rfl)); intro gb299 hg w57 hbox hb; have n0_ := Aside0.mk (Kd.R_below (by (with_reducible repeat (first | apply Kd.R_alloc | apply Kd.R_drewN | apply Kd.R_drew)); exact HO_6.out) hb); have n1_ := Aside0.mk (below_step (Gtr.bw HB.out) hb); have n2_ := Aside0.mk (hbox); have n3_ := Aside0.mk ((by rw [hg]; exact (below_size (Gtr.bw HB.out)) : w.heap.size ≤ gb299)); have n4_ := Aside0.mk ((by rw [hg]; exact (below_size (Gtr.bw HB.out)) : w.heap.size ≤ gb299)); clear HO_6; clear HB; have HO_6 := n0_; have HB := n1_; have BK299 := n2_; have GW299 := n3_; have GE299 := n4_; clear n0_ n1_ n2_ n3_ n4_; clear hb hbox hg; have hcz58_0 : w57.cell? ⟨gb299, 0, none⟩ = some (.string (⟨#[]⟩ : ByteArray)) := (blk_cell BK299.out 0).trans rfl; have hcz58_1 : w57.cell? ⟨gb299, 1, none⟩ = some (.int .i64 0) := (blk_cell BK299.out 1).trans rfl; have hcz58_2 : w57.cell? ⟨gb299, 2, none⟩ = some (.int .i64 0) := (blk_cell BK299.out 2).trans rfl; have hcz58_3 : w57.cell? ⟨gb299, 3, none⟩ = some (.int .i64 0) := (blk_cell BK299.out 3).trans rfl; have hcz58_4 : w57.cell? ⟨gb299, 4, none⟩ = some (.int .i64 0) := (blk_cell BK299.out 4).trans rfl; have hcz58_5 : w57.cell? ⟨gb299, 5, none⟩ = some (.int .i64 0) := (blk_cell BK299.out 5).trans rfl; have hcz58_6 : w57.cell? ⟨gb299, 6, none⟩ = some (.int .i64 0) := (blk_cell BK299.out 6).trans rfl; have hcz58_7 : w57.cell? ⟨gb299, 7, none⟩ = some (.string (⟨#[]⟩ : ByteArray)) := (blk_cell BK299.out 7).trans rfl; have hfz58_0 := blk_frozen BK299.out 0; have hfz58_1 := blk_frozen BK299.out 1; have hfz58_2 := blk_frozen BK299.out 2; have hfz58_3 := blk_frozen BK299.out 3; have hfz58_4 := blk_frozen BK299.out 4; have hfz58_5 := blk_frozen BK299.out 5; have hfz58_6 := blk_frozen BK299.out 6; have hfz58_7 := blk_frozen BK299.out 7) | ((with_reducible refine gate_callee (f := 76) rfl ?_); refine goesL_ (some 71) rfl rfl Tryz.func76 (by kernel_rfl) rfl #[.slice A0 l0.length c0, .string ((rd_T74 l1 x64_3).f0)] rfl (by (try simp only [List.map_toArray, List.map_cons, List.map_nil]); first | done | rfl | (simp only [List.length_drop, List.length_take]; rfl)) ?_; (with_reducible refine (spec_l18At.calls k3 _ _ l0 ((rd_T74 l1 x64_3).f0) t300 _ ?side1 ?side2 A53.out).mono ?_); (case side1 => exact Kd.C_below HR0.out (Gtr.bw HB.out)); (case side2 => exact HC0.out); rintro e w59 ⟨rfl, hb⟩; refine ⟨_, rfl, ?_⟩; have n0_ := Aside0.mk (Kd.R_below (by (with_reducible repeat (first | apply Kd.R_alloc | apply Kd.R_drewN | apply Kd.R_drew)); exact (Kd.R_mono (Kd.R_far (p := ⟨gb299, 7, none⟩) (Kd.R_far (p := ⟨gb299, 6, none⟩) (Gtr.far6 (Kd.R_types HO_6.out BK299.out (by decide)) (fun _ hk => hk.2)) (fun _ hk => hk.2) (.int .i64 ((rd_T74 l1 x64_3).f6))) (fun _ hk => hk.2) (.string ((rd_T74 l1 x64_3).f7))) (fun _ h_ => h_.1))) hb); have n1_ := Aside0.mk (blk_below (g := gb299) (o := .cells #[.string ((rd_T74 l1 x64_3).f0), .int .i64 ((rd_T74 l1 x64_3).f1), .int .i64 ((rd_T74 l1 x64_3).f2), .int .i64 ((rd_T74 l1 x64_3).f3), .int .i64 ((rd_T74 l1 x64_3).f4), .int .i64 ((rd_T74 l1 x64_3).f5), .int .i64 ((rd_T74 l1 x64_3).f6), .string ((rd_T74 l1 x64_3).f7)] 74 (0, 0)) (by (with_reducible repeat (first | refine blk_drewN ?_ _ | refine blk_drew ?_ | refine blk_alloc ?_ _)); refine blk_put (cs := #[.string ((rd_T74 l1 x64_3).f0), .int .i64 ((rd_T74 l1 x64_3).f1), .int .i64 ((rd_T74 l1 x64_3).f2), .int .i64 ((rd_T74 l1 x64_3).f3), .int .i64 ((rd_T74 l1 x64_3).f4), .int .i64 ((rd_T74 l1 x64_3).f5), .int .i64 ((rd_T74 l1 x64_3).f6), .string (⟨#[]⟩ : ByteArray)]) ?_ 7 _ rfl; (with_reducible repeat (first | refine blk_drewN ?_ _ | refine blk_drew ?_ | refine blk_alloc ?_ _)); refine blk_put (cs := #[.string ((rd_T74 l1 x64_3).f0), .int .i64 ((rd_T74 l1 x64_3).f1), .int .i64 ((rd_T74 l1 x64_3).f2), .int .i64 ((rd_T74 l1 x64_3).f3), .int .i64 ((rd_T74 l1 x64_3).f4), .int .i64 ((rd_T74 l1 x64_3).f5), .int .i64 0, .string (⟨#[]⟩ : ByteArray)]) ?_ 6 _ rfl; (with_reducible repeat (first | refine blk_drewN ?_ _ | refine blk_drew ?_ | refine blk_alloc ?_ _)); refine blk_put (cs := #[.string ((rd_T74 l1 x64_3).f0), .int .i64 ((rd_T74 l1 x64_3).f1), .int .i64 ((rd_T74 l1 x64_3).f2), .int .i64 ((rd_T74 l1 x64_3).f3), .int .i64 ((rd_T74 l1 x64_3).f4), .int .i64 0, .int .i64 0, .string (⟨#[]⟩ : ByteArray)]) ?_ 5 _ rfl; (with_reducible repeat (first | refine blk_drewN ?_ _ | refine blk_drew ?_ | refine blk_alloc ?_ _)); refine blk_put (cs := #[.string ((rd_T74 l1 x64_3).f0), .int .i64 ((rd_T74 l1 x64_3).f1), .int .i64 ((rd_T74 l1 x64_3).f2), .int .i64 ((rd_T74 l1 x64_3).f3), .int .i64 0, .int .i64 0, .int .i64 0, .string (⟨#[]⟩ : ByteArray)]) ?_ 4 _ rfl; (with_reducible repeat (first | refine blk_drewN ?_ _ | refine blk_drew ?_ | refine blk_alloc ?_ _)); refine blk_put (cs := #[.string ((rd_T74 l1 x64_3).f0), .int .i64 ((rd_T74 l1 x64_3).f1), .int .i64 ((rd_T74 l1 x64_3).f2), .int .i64 0, .int .i64 0, .int .i64 0, .int .i64 0, .string (⟨#[]⟩ : ByteArray)]) ?_ 3 _ rfl; (with_reducible repeat (first | refine blk_drewN ?_ _ | refine blk_drew ?_ | refine blk_alloc ?_ _)); refine blk_put (cs := #[.string ((rd_T74 l1 x64_3).f0), .int .i64 ((rd_T74 l1 x64_3).f1), .int .i64 0, .int .i64 0, .int .i64 0, .int .i64 0, .int .i64 0, .string (⟨#[]⟩ : ByteArray)]) ?_ 2 _ rfl; (with_reducible repeat (first | refine blk_drewN ?_ _ | refine blk_drew ?_ | refine blk_alloc ?_ _)); refine blk_put (cs := #[.string ((rd_T74 l1 x64_3).f0), .int .i64 0, .int .i64 0, .int .i64 0, .int .i64 0, .int .i64 0, .int .i64 0, .string (⟨#[]⟩ : ByteArray)]) ?_ 1 _ rfl; (with_reducible repeat (first | refine blk_drewN ?_ _ | refine blk_drew ?_ | refine blk_alloc ?_ _)); refine blk_put (cs := #[.string (⟨#[]⟩ : ByteArray), .int .i64 0, .int .i64 0, .int .i64 0, .int .i64 0, .int .i64 0, .int .i64 0, .string (⟨#[]⟩ : ByteArray)]) ?_ 0 _ rfl; (with_reducible repeat (first | refine blk_drewN ?_ _ | refine blk_drew ?_ | refine blk_alloc ?_ _)); exact BK299.out) hb); have n2_ := Aside0.mk (below_step (Gtr.bw HB.out) hb); clear HO_6; clear BK299; clear HB; have HO_6 := n0_; have BK299 := n1_; have HB := n2_; clear n0_ n1_ n2_; (try clear hb); (try clear hb2); (try clear hk); (try clear hi)))
           have n0_ := Aside0.mk (Kd.R_drew HO_6.out)
           have n1_ := Aside0.mk (blk_drew BK299.out)
           have n2_ := Aside0.mk (below_drew1 HB.out)
           clear HO_6
           clear BK299
           clear HB
           have HO_6 := n0_
           have BK299 := n1_
           have HB := n2_
           clear n0_ n1_ n2_
           refine start_ (n := 8) (S := fun w' => w'.cell? ⟨gb299, 0, none⟩ = some (.string ((rd_T74 l1 x64_3).f0)) ∧ w'.cell? ⟨gb299, 1, none⟩ = some (.int .i64 ((rd_T74 l1 x64_3).f1)) ∧ w'.cell? ⟨gb299, 2, none⟩ = some (.int .i64 ((rd_T74 l1 x64_3).f2)) ∧ w'.cell? ⟨gb299, 3, none⟩ = some (.int .i64 ((rd_T74 l1 x64_3).f3)) ∧ w'.cell? ⟨gb299, 4, none⟩ = some (.int .i64 ((rd_T74 l1 x64_3).f4)) ∧ w'.cell? ⟨gb299, 5, none⟩ = some (.int .i64 ((rd_T74 l1 x64_3).f5)) ∧ w'.cell? ⟨gb299, 6, none⟩ = some (.int .i64 ((rd_T74 l1 x64_3).f6)) ∧ w'.cell? ⟨gb299, 7, none⟩ = some (.string ((rd_T74 l1 x64_3).f7))) (ds := []) (Gtr.bb 8 0) (by kernel_rfl) rfl rfl ⟨(blk_cell BK299.out 0).trans rfl, (blk_cell BK299.out 1).trans rfl, (blk_cell BK299.out 2).trans rfl, (blk_cell BK299.out 3).trans rfl, (blk_cell BK299.out 4).trans rfl, (blk_cell BK299.out 5).trans rfl, (blk_cell BK299.out 6).trans rfl, (blk_cell BK299.out 7).trans rfl⟩ (fun hHeld => ?_); refine with_tabW spec_DiffItems.tab17 spec_DiffItems.bits17 (fun HT_ HW_ => ?_)
           generalize w59.drew = w60 at HO_6 BK299 HB hHeld ⊢
           refine pure_ (i := 0) (N := some 73) (v := ?_) (a' := ?_) (Gtr.bb 8 1) rfl rfl (any_of HT_.out (by kernel_rfl)) (fun _ _ _ h => h) (Or.inl ⟨by rfl, ?_⟩) ?_ ?_
           rotate_left
           ·intro w'
            go_simp
            with_reducible rfl
           rotate_left
           ·simp only [Gtr.ps]
            rfl
           refine pure_ (i := 1) (N := some 74) (v := ?_) (a' := ?_) (Gtr.bb 8 3) rfl rfl (any_of HT_.out (by kernel_rfl)) (fun _ _ _ h => h) (Or.inl ⟨by rfl, ?_⟩) ?_ ?_
           rotate_left
           ·intro w'
            go_simp
            with_reducible rfl
           rotate_left
           ·simp only [Gtr.ps]
            rfl
           refine take_ (i := 2) (N := some 75) (v := ?_) (a' := ?_) (Gtr.bb 8 7) rfl rfl (take_ofW HT_.out HW_.out (by kernel_rfl)) (fun _ _ _ h => h) (Or.inl ⟨by rfl, ?_⟩) hHeld ?_ ?_
           rotate_left
           ·rintro w' ⟨s0, s1, s2, s3, s4, s5, s6, s7⟩
            go_simp
            with_reducible rfl
           rotate_left
           ·simp only [Gtr.ps]
            rfl
           refine take_ (i := 3) (N := some 76) (v := ?_) (a' := ?_) (Gtr.bb 8 15) rfl rfl (take_ofW HT_.out HW_.out (by kernel_rfl)) (fun _ _ _ h => h) (Or.inl ⟨by rfl, ?_⟩) hHeld ?_ ?_
           rotate_left
           ·rintro w' ⟨s0, s1, s2, s3, s4, s5, s6, s7⟩
            go_simp
            with_reducible rfl
           rotate_left
           ·simp only [Gtr.ps]
            rfl
           refine one_ (i := 4) (N := some 77) (Gtr.bb 8 31) rfl rfl (one_of HT_.out (by kernel_rfl)) (by decide) (fun K hK => ?_)
           refine goes_ Tryz.func78 (by kernel_rfl) rfl #[.agg #[.string ((rd_T74 l1 x64_3).f0), .int .i64 ((rd_T74 l1 x64_3).f1), .int .i64 ((rd_T74 l1 x64_3).f2), .int .i64 ((rd_T74 l1 x64_3).f3), .int .i64 ((rd_T74 l1 x64_3).f4), .int .i64 ((rd_T74 l1 x64_3).f5), .int .i64 ((rd_T74 l1 x64_3).f6), .string ((rd_T74 l1 x64_3).f7)]] (by rfl) rfl rfl (by (try simp only [List.map_toArray, List.map_cons, List.map_nil]); first | done | rfl | (simp only [List.length_drop, List.length_take]; rfl)) ?_
           with_reducible refine (spec_l18Bare.calls ((rd_T74 l1 x64_3).f0) ((rd_T74 l1 x64_3).f1) ((rd_T74 l1 x64_3).f2) ((rd_T74 l1 x64_3).f3) ((rd_T74 l1 x64_3).f4) ((rd_T74 l1 x64_3).f5) ((rd_T74 l1 x64_3).f6) ((rd_T74 l1 x64_3).f7) t301 t302 t303 t304 t305 t306 t307 t308 _ A55.out).mono ?_
           rintro e w61 ⟨rfl, hb⟩
           refine ⟨_, rfl, ?_⟩
           have n0_ := Aside0.mk (Kd.R_below (by (with_reducible repeat (first | apply Kd.R_alloc | apply Kd.R_drewN | apply Kd.R_drew)); exact HO_6.out) hb)
           have n1_ := Aside0.mk (blk_below (g := gb299) (o := .cells #[.string ((rd_T74 l1 x64_3).f0), .int .i64 ((rd_T74 l1 x64_3).f1), .int .i64 ((rd_T74 l1 x64_3).f2), .int .i64 ((rd_T74 l1 x64_3).f3), .int .i64 ((rd_T74 l1 x64_3).f4), .int .i64 ((rd_T74 l1 x64_3).f5), .int .i64 ((rd_T74 l1 x64_3).f6), .string ((rd_T74 l1 x64_3).f7)] 74 (0, 0)) (by (with_reducible repeat (first | refine blk_drewN ?_ _ | refine blk_drew ?_ | refine blk_alloc ?_ _)); exact BK299.out) hb)
           have n2_ := Aside0.mk (below_step (Gtr.bw HB.out) hb)
           clear HO_6
           clear BK299
           clear HB
           have HO_6 := n0_
           have BK299 := n1_
           have HB := n2_
           clear n0_ n1_ n2_
           (try clear hb);(try clear hb2);(try clear hk);(try clear hi)
           obtain ⟨Ao62, co62, eo62⟩ := Kd.R_slice HO_6.out
           (first | subst eo62 | (injection eo62 with f1_ f2_ f3_; have f4_ := f1_.symm; have f5_ := f3_.symm; clear f1_ f2_ f3_; subst f4_; subst f5_))
           refine hK.out _ _ ⟨(blk_cell BK299.out 0).trans rfl, (blk_cell BK299.out 1).trans rfl, (blk_cell BK299.out 2).trans rfl, (blk_cell BK299.out 3).trans rfl, (blk_cell BK299.out 4).trans rfl, (blk_cell BK299.out 5).trans rfl, (blk_cell BK299.out 6).trans rfl, (blk_cell BK299.out 7).trans rfl⟩ (fun hHeld => ?_)
           clear hK K
           refine norm_ (a' := ?_) ?_ ?_
           rotate_left
           ·show Act.put _ (some 77) _ = _
            simp only [Gtr.ps]
            rfl
           refine pure_ (i := 5) (N := some 78) (v := ?_) (a' := ?_) (Gtr.bb 8 63) rfl rfl (any_of HT_.out (by kernel_rfl)) (fun _ _ _ h => h) (Or.inl ⟨by rfl, ?_⟩) ?_ ?_
           rotate_left
           ·intro w'
            go_simp
            with_reducible rfl
           rotate_left
           ·simp only [Gtr.ps]
            rfl
           refine one_ (i := 6) (N := some 79) (Gtr.bb 8 127) rfl rfl (one_of HT_.out (by kernel_rfl)) (by decide) (fun K hK => ?_)
           refine goes_ Tryz.func77 (by kernel_rfl) rfl #[.slice Ao62 x6_3.length co62, .agg #[.int .i64 1, .string ((rd_T74 l1 x64_3).f0), .string (⟨#[]⟩ : ByteArray), .int .i64 0, .int .i64 0, .int .i64 0, .int .i64 0, .int .i64 0, .int .i64 0, .string (⟨#[]⟩ : ByteArray), .string t301, .int .i64 t302, .int .i64 t303, .int .i64 t304, .int .i64 t305, .int .i64 t306, .int .i64 t307, .string t308]] (by rfl) rfl rfl (by (try simp only [List.map_toArray, List.map_cons, List.map_nil]); first | done | rfl | (simp only [List.length_drop, List.length_take]; rfl)) ?_
           with_reducible refine (spec_l18Put.calls _ _ x6_3 1 ((rd_T74 l1 x64_3).f0) (⟨#[]⟩ : ByteArray) 0 0 0 0 0 0 (⟨#[]⟩ : ByteArray) t301 t302 t303 t304 t305 t306 t307 t308 t309 _ ?side1 ?side2 A56.out).mono ?_
           (case side1 => repeat (first | exact (Kd.R_reads' HO_6.out).2.2 | (with_reducible refine Kd.C_alloc ?_ _) | (with_reducible refine Kd.C_drewN ?_ _) | (with_reducible refine Kd.C_drew ?_)))
           (case side2 => exact (Kd.R_reads' HO_6.out).2.1)
           rintro e w63 ⟨v310, rfl, ho0, hb⟩
           refine ⟨_, rfl, ?_⟩
           have n0_ := Aside0.mk (Kd.R_elder' (by (with_reducible repeat (first | apply Kd.R_alloc | apply Kd.R_drewN | apply Kd.R_drew)); exact HO_6.out) (Kd.R_base ho0) hb)
           have n1_ := Aside0.mk (Kd.R_lower (Kd.R_new' ho0 (Kd.R_lt (by (with_reducible repeat (first | apply Kd.R_alloc | apply Kd.R_drewN | apply Kd.R_drew)); exact HO_6.out))) (below_size (Gtr.bw HB.out)))
           have n2_ := Aside0.mk (blk_below (g := gb299) (o := .cells #[.string ((rd_T74 l1 x64_3).f0), .int .i64 ((rd_T74 l1 x64_3).f1), .int .i64 ((rd_T74 l1 x64_3).f2), .int .i64 ((rd_T74 l1 x64_3).f3), .int .i64 ((rd_T74 l1 x64_3).f4), .int .i64 ((rd_T74 l1 x64_3).f5), .int .i64 ((rd_T74 l1 x64_3).f6), .string ((rd_T74 l1 x64_3).f7)] 74 (0, 0)) (by (with_reducible repeat (first | refine blk_drewN ?_ _ | refine blk_drew ?_ | refine blk_alloc ?_ _)); exact BK299.out) hb)
           have n3_ := Aside0.mk (below_step (Gtr.bw HB.out) hb)
           clear HO_6
           clear BK299
           clear HB
           have HO_6 := n0_
           have HO311 := n1_
           have BK299 := n2_
           have HB := n3_
           clear n0_ n1_ n2_ n3_
           (try clear hb);(try clear hb2);(try clear hk);(try clear hi);(try clear ho0)
           refine hK.out _ _ ⟨(blk_cell BK299.out 0).trans rfl, (blk_cell BK299.out 1).trans rfl, (blk_cell BK299.out 2).trans rfl, (blk_cell BK299.out 3).trans rfl, (blk_cell BK299.out 4).trans rfl, (blk_cell BK299.out 5).trans rfl, (blk_cell BK299.out 6).trans rfl, (blk_cell BK299.out 7).trans rfl⟩ (fun hHeld => ?_)
           clear hK K
           refine norm_ (a' := ?_) ?_ ?_
           rotate_left
           ·show Act.put _ (some 79) _ = _
            simp only [Gtr.ps]
            rfl
           refine pure_ (i := 7) (N := some 6) (v := ?_) (a' := ?_) (Gtr.bb 8 255) rfl rfl (any_of HT_.out (by kernel_rfl)) (fun _ _ _ h => h) (Or.inl ⟨by rfl, ?_⟩) ?_ ?_
           rotate_left
           ·intro w'
            go_simp
            with_reducible rfl
           rotate_left
           ·simp only [Gtr.ps]
            rfl
           refine done_ (done_of HT_.out (by kernel_rfl)) ?_
           try go_wp2
           go_roundg k3
           case measure => have := HJ2.out; have := HK2.out; have := HK3.out; omega
           case rel => exact ⟨(t309), (wrap64 (x64_3 + 1)), (by first | rfl | (simp; done) | (simp [*]; done)), H', ⟨by have := HJ2.out; have := HK2.out; have := HK3.out; omega⟩, ⟨by (with_reducible repeat (first | apply Kd.R_alloc | apply Kd.R_drewN | apply Kd.R_drew)); exact Kd.R_mono HO311.out (fun _ hk => trivial)⟩, ⟨(Gtr.bw HB.out)⟩⟩
          ·rw [if_neg c54] at H
           have c54b0 : decide (t300 < 0) = false := decide_eq_false c54
           clear c54
           have H' := Aside0.mk H
           clear H
           have p298 : 0 ≤ (x64_3 : Int) := of_decide_eq_true (by first | (with_reducible assumption) | assumption)
           have q298 : x64_3 < (l1.length : Int) := of_decide_eq_true (by first | (with_reducible assumption) | assumption)
           obtain ⟨ad298, e298, hx298_0, hx298_1, hx298_2, hx298_3, hx298_4, hx298_5, hx298_6, hx298_7⟩ := at_T74 HR1.out x64_3 p298 q298
           cases e298
           replace hx298_0 := (HB.out.cell (World.block_lt_of_cell? w _ hx298_0)).trans hx298_0
           replace hx298_1 := (HB.out.cell (World.block_lt_of_cell? w _ hx298_1)).trans hx298_1
           replace hx298_2 := (HB.out.cell (World.block_lt_of_cell? w _ hx298_2)).trans hx298_2
           replace hx298_3 := (HB.out.cell (World.block_lt_of_cell? w _ hx298_3)).trans hx298_3
           replace hx298_4 := (HB.out.cell (World.block_lt_of_cell? w _ hx298_4)).trans hx298_4
           replace hx298_5 := (HB.out.cell (World.block_lt_of_cell? w _ hx298_5)).trans hx298_5
           replace hx298_6 := (HB.out.cell (World.block_lt_of_cell? w _ hx298_6)).trans hx298_6
           replace hx298_7 := (HB.out.cell (World.block_lt_of_cell? w _ hx298_7)).trans hx298_7
           replace p298 := eq_true p298
           replace q298 := eq_true q298
           go_wp2_with (first | ((with_reducible refine gate_dst (N := 11) rfl ?_); refine box_event ?hg (N := 11) ?hd (cs := #[.string (⟨#[]⟩ : ByteArray), .int .i64 0, .int .i64 0, .int .i64 0, .int .i64 0, .int .i64 0, .int .i64 0, .string (⟨#[]⟩ : ByteArray)]) (t := 74) ?hr ?_; (case hd => rfl); (case hg => rfl); (case hr => first | (go_simp; done) | (go_simp; rfl)); intro gb299 hg w64 hbox hb; have n0_ := Aside0.mk (Kd.R_below (by (with_reducible repeat (first | apply Kd.R_alloc | apply Kd.R_drewN | apply Kd.R_drew)); exact HO_6.out) hb); have n1_ := Aside0.mk (below_step (Gtr.bw HB.out) hb); have n2_ := Aside0.mk (hbox); have n3_ := Aside0.mk ((by rw [hg]; exact (below_size (Gtr.bw HB.out)) : w.heap.size ≤ gb299)); have n4_ := Aside0.mk ((by rw [hg]; exact (below_size (Gtr.bw HB.out)) : w.heap.size ≤ gb299)); clear HO_6; clear HB; have HO_6 := n0_; have HB := n1_; have BK299 := n2_; have GW299 := n3_; have GE299 := n4_; clear n0_ n1_ n2_ n3_ n4_; clear hb hbox hg; have hcz65_0 : w64.cell? ⟨gb299, 0, none⟩ = some (.string (⟨#[]⟩ : ByteArray)) := (blk_cell BK299.out 0).trans rfl; have hcz65_1 : w64.cell? ⟨gb299, 1, none⟩ = some (.int .i64 0) := (blk_cell BK299.out 1).trans rfl; have hcz65_2 : w64.cell? ⟨gb299, 2, none⟩ = some (.int .i64 0) := (blk_cell BK299.out 2).trans rfl; have hcz65_3 : w64.cell? ⟨gb299, 3, none⟩ = some (.int .i64 0) := (blk_cell BK299.out 3).trans rfl; have hcz65_4 : w64.cell? ⟨gb299, 4, none⟩ = some (.int .i64 0) := (blk_cell BK299.out 4).trans rfl; have hcz65_5 : w64.cell? ⟨gb299, 5, none⟩ = some (.int .i64 0) := (blk_cell BK299.out 5).trans rfl; have hcz65_6 : w64.cell? ⟨gb299, 6, none⟩ = some (.int .i64 0) := (blk_cell BK299.out 6).trans rfl; have hcz65_7 : w64.cell? ⟨gb299, 7, none⟩ = some (.string (⟨#[]⟩ : ByteArray)) := (blk_cell BK299.out 7).trans rfl; have hfz65_0 := blk_frozen BK299.out 0; have hfz65_1 := blk_frozen BK299.out 1; have hfz65_2 := blk_frozen BK299.out 2; have hfz65_3 := blk_frozen BK299.out 3; have hfz65_4 := blk_frozen BK299.out 4; have hfz65_5 := blk_frozen BK299.out 5; have hfz65_6 := blk_frozen BK299.out 6; have hfz65_7 := blk_frozen BK299.out 7) | ((with_reducible refine gate_callee (f := 76) rfl ?_); refine goesL_ (some 71) rfl rfl Tryz.func76 (by kernel_rfl) rfl #[.slice A0 l0.length c0, .string ((rd_T74 l1 x64_3).f0)] rfl (by (try simp only [List.map_toArray, List.map_cons, List.map_nil]); first | done | rfl | (simp only [List.length_drop, List.length_take]; rfl)) ?_; (with_reducible refine (spec_l18At.calls k3 _ _ l0 ((rd_T74 l1 x64_3).f0) t300 _ ?side1 ?side2 A53.out).mono ?_); (case side1 => exact Kd.C_below HR0.out (Gtr.bw HB.out)); (case side2 => exact HC0.out); rintro e w66 ⟨rfl, hb⟩; refine ⟨_, rfl, ?_⟩; have n0_ := Aside0.mk (Kd.R_below (by (with_reducible repeat (first | apply Kd.R_alloc | apply Kd.R_drewN | apply Kd.R_drew)); exact (Kd.R_mono (Kd.R_far (p := ⟨gb299, 7, none⟩) (Kd.R_far (p := ⟨gb299, 6, none⟩) (Gtr.far6 (Kd.R_types HO_6.out BK299.out (by decide)) (fun _ hk => hk.2)) (fun _ hk => hk.2) (.int .i64 ((rd_T74 l1 x64_3).f6))) (fun _ hk => hk.2) (.string ((rd_T74 l1 x64_3).f7))) (fun _ h_ => h_.1))) hb); have n1_ := Aside0.mk (blk_below (g := gb299) (o := .cells #[.string ((rd_T74 l1 x64_3).f0), .int .i64 ((rd_T74 l1 x64_3).f1), .int .i64 ((rd_T74 l1 x64_3).f2), .int .i64 ((rd_T74 l1 x64_3).f3), .int .i64 ((rd_T74 l1 x64_3).f4), .int .i64 ((rd_T74 l1 x64_3).f5), .int .i64 ((rd_T74 l1 x64_3).f6), .string ((rd_T74 l1 x64_3).f7)] 74 (0, 0)) (by (with_reducible repeat (first | refine blk_drewN ?_ _ | refine blk_drew ?_ | refine blk_alloc ?_ _)); refine blk_put (cs := #[.string ((rd_T74 l1 x64_3).f0), .int .i64 ((rd_T74 l1 x64_3).f1), .int .i64 ((rd_T74 l1 x64_3).f2), .int .i64 ((rd_T74 l1 x64_3).f3), .int .i64 ((rd_T74 l1 x64_3).f4), .int .i64 ((rd_T74 l1 x64_3).f5), .int .i64 ((rd_T74 l1 x64_3).f6), .string (⟨#[]⟩ : ByteArray)]) ?_ 7 _ rfl; (with_reducible repeat (first | refine blk_drewN ?_ _ | refine blk_drew ?_ | refine blk_alloc ?_ _)); refine blk_put (cs := #[.string ((rd_T74 l1 x64_3).f0), .int .i64 ((rd_T74 l1 x64_3).f1), .int .i64 ((rd_T74 l1 x64_3).f2), .int .i64 ((rd_T74 l1 x64_3).f3), .int .i64 ((rd_T74 l1 x64_3).f4), .int .i64 ((rd_T74 l1 x64_3).f5), .int .i64 0, .string (⟨#[]⟩ : ByteArray)]) ?_ 6 _ rfl; (with_reducible repeat (first | refine blk_drewN ?_ _ | refine blk_drew ?_ | refine blk_alloc ?_ _)); refine blk_put (cs := #[.string ((rd_T74 l1 x64_3).f0), .int .i64 ((rd_T74 l1 x64_3).f1), .int .i64 ((rd_T74 l1 x64_3).f2), .int .i64 ((rd_T74 l1 x64_3).f3), .int .i64 ((rd_T74 l1 x64_3).f4), .int .i64 0, .int .i64 0, .string (⟨#[]⟩ : ByteArray)]) ?_ 5 _ rfl; (with_reducible repeat (first | refine blk_drewN ?_ _ | refine blk_drew ?_ | refine blk_alloc ?_ _)); refine blk_put (cs := #[.string ((rd_T74 l1 x64_3).f0), .int .i64 ((rd_T74 l1 x64_3).f1), .int .i64 ((rd_T74 l1 x64_3).f2), .int .i64 ((rd_T74 l1 x64_3).f3), .int .i64 0, .int .i64 0, .int .i64 0, .string (⟨#[]⟩ : ByteArray)]) ?_ 4 _ rfl; (with_reducible repeat (first | refine blk_drewN ?_ _ | refine blk_drew ?_ | refine blk_alloc ?_ _)); refine blk_put (cs := #[.string ((rd_T74 l1 x64_3).f0), .int .i64 ((rd_T74 l1 x64_3).f1), .int .i64 ((rd_T74 l1 x64_3).f2), .int .i64 0, .int .i64 0, .int .i64 0, .int .i64 0, .string (⟨#[]⟩ : ByteArray)]) ?_ 3 _ rfl; (with_reducible repeat (first | refine blk_drewN ?_ _ | refine blk_drew ?_ | refine blk_alloc ?_ _)); refine blk_put (cs := #[.string ((rd_T74 l1 x64_3).f0), .int .i64 ((rd_T74 l1 x64_3).f1), .int .i64 0, .int .i64 0, .int .i64 0, .int .i64 0, .int .i64 0, .string (⟨#[]⟩ : ByteArray)]) ?_ 2 _ rfl; (with_reducible repeat (first | refine blk_drewN ?_ _ | refine blk_drew ?_ | refine blk_alloc ?_ _)); refine blk_put (cs := #[.string ((rd_T74 l1 x64_3).f0), .int .i64 0, .int .i64 0, .int .i64 0, .int .i64 0, .int .i64 0, .int .i64 0, .string (⟨#[]⟩ : ByteArray)]) ?_ 1 _ rfl; (with_reducible repeat (first | refine blk_drewN ?_ _ | refine blk_drew ?_ | refine blk_alloc ?_ _)); refine blk_put (cs := #[.string (⟨#[]⟩ : ByteArray), .int .i64 0, .int .i64 0, .int .i64 0, .int .i64 0, .int .i64 0, .int .i64 0, .string (⟨#[]⟩ : ByteArray)]) ?_ 0 _ rfl; (with_reducible repeat (first | refine blk_drewN ?_ _ | refine blk_drew ?_ | refine blk_alloc ?_ _)); exact BK299.out) hb); have n2_ := Aside0.mk (below_step (Gtr.bw HB.out) hb); clear HO_6; clear BK299; clear HB; have HO_6 := n0_; have BK299 := n1_; have HB := n2_; clear n0_ n1_ n2_; (try clear hb); (try clear hb2); (try clear hk); (try clear hi)))
           go_roundg k3
           case measure => have := HJ2.out; have := HK2.out; have := HK3.out; omega
           case rel => exact ⟨(x6_3), (wrap64 (x64_3 + 1)), (by first | rfl | (simp; done) | (simp [*]; done)), H', ⟨by have := HJ2.out; have := HK2.out; have := HK3.out; omega⟩, ⟨by (with_reducible repeat (first | apply Kd.R_alloc | apply Kd.R_drewN | apply Kd.R_drew)); exact HO_6.out⟩, ⟨(Gtr.bw HB.out)⟩⟩
         ·rw [if_neg c50] at H
          have c50b0 : decide (x64_3 < (l1.length : Int)) = false := decide_eq_false c50
          clear c50
          simp only [Option.some.injEq, Prod.mk.injEq] at H
          obtain ⟨rfl, rfl⟩ := H
          go_wp2
          go_ret2
          exact ⟨_, by first | rfl | (simp [errW_none, errW_some] <;> rfl) | (simp [*, errW_none, errW_some] <;> rfl), by (with_reducible repeat (first | apply Kd.R_alloc | apply Kd.R_drewN | apply Kd.R_drew)); exact HO_6.out, (Gtr.bw HB.out)⟩
end Go.Proofs.YthhmkbchdiflcaaGreatDoor.Q

-- Printed by a program of this session (wip/tools/myprint.py) that runs the kit's print, hand-proved functions among the others.
namespace Go.Proofs.YthhmkbchdiflcaaGreatDoor.Q
open Go.RowKit Go.Proofs.YthhmkbchdiflcaaGreatDoorW.PrintWords Go.Proofs.YthhmkbchdiflcaaGreatDoorW.PrintLast Go.Proofs.YthhmkbchdiflcaaGreatDoorW.PrintMore
attribute [local go_sem] max2_int min2_int max_two min_two max_three min_three max_four min_four   -- for this text's walks alone
set_option linter.unusedVariables false
set_option linter.unusedSimpArgs false

/-! ### impl_areLone: function 79 -/
def impl_areLone.l0 : Nat → List (S74) → List (S74) → Int → Int → Option (Bool)
 | 0, _, _, _, _ => none
 | k + 1, x0, x5, x6, x7 => if x7 < x6 then (if 0 ≤ x7 then (if x7 < (x5.length : Int) then (if ((rd_T74 x5 x7).f6) = x7 then (impl_areLone.l0 k x0 x5 x6 (wrap64 (x7 + 1))) else (some false)) else (none)) else (none)) else ((impl_GoodItems.f x0).bind fun t353 => (some t353))
def impl_areLone.f (k : Nat) (l0 : List (S74)) : Option (Bool) := impl_areLone.l0 k l0 l0 (l0.length : Int) 0
set_option maxHeartbeats 8000000 in
set_option maxRecDepth 100000 in
theorem impl_areLone.calls (k : Nat) (A0 : Option Addr) (c0 : Nat) (l0 : List (S74)) (r : Bool) (w : World) (hr0 : Kd.C k74 w A0 l0.length l0) (hc0 : l0.length ≤ c0) (h : impl_areLone.f k l0 = some r) :
  Calls Tryz.prog 79 #[.slice A0 l0.length c0] w fun e w' => e = .returned (.bool r) ∧ Below w.heap.size w w' := by
 have hu74 := Tryz.underlying74
 have HR0 := Aside0.mk hr0
 have HC0 := Aside0.mk hc0
 clear hr0 hc0
 have HB := Aside0.mk (Below.refl w.heap.size w)
 have H : (impl_areLone.l0 k l0 l0 (l0.length : Int) 0) = some r := h
 clear h
 have H' := Aside0.mk H
 clear H
 go_enter Tryz.func79, Tryz.ntmps79
 go_wp2
 go_loopg [7] k (fun kq v7 w' => ∃ (x7_1 : Int), v7 = .int .i64 x7_1 ∧ Aside0 (impl_areLone.l0 kq l0 l0 (l0.length : Int) x7_1 = some r) ∧ Aside0 (kq ≤ k) ∧ Aside0 (Below w.heap.size w w'))
 case atStart => exact ⟨(0), (by first | rfl | (simp; done) | (simp [*]; done)), H', ⟨Nat.le_refl _⟩, ⟨(Gtr.bw HB.out)⟩⟩
 case round =>
  clear H'
  obtain ⟨x7_1, rfl, HA, HK1, HB⟩ := hrel
  cases gk with
  | zero => exact absurd HA.out (by simp [impl_areLone.l0])
  | succ k1 =>
   have H := HA.out
   clear HA
   simp only [impl_areLone.l0] at H
   by_cases c2 : x7_1 < (l0.length : Int)
   ·rw [if_pos c2] at H
    have c2b0 : decide (x7_1 < (l0.length : Int)) = true := decide_eq_true c2
    clear c2
    refine Or.elim (Classical.em (0 ≤ x7_1)) (fun c3 => ?_) (fun c3 => by rw [if_neg c3] at H; exact absurd H (by simp))
    rw [if_pos c3] at H
    have c3b0 : decide (0 ≤ x7_1) = true := decide_eq_true c3
    clear c3
    refine Or.elim (Classical.em (x7_1 < (l0.length : Int))) (fun c4 => ?_) (fun c4 => by rw [if_neg c4] at H; exact absurd H (by simp))
    rw [if_pos c4] at H
    have c4b0 : decide (x7_1 < (l0.length : Int)) = true := decide_eq_true c4
    clear c4
    by_cases c5 : ((rd_T74 l0 x7_1).f6) = x7_1
    ·rw [if_pos c5] at H
     have c5b0 : (((rd_T74 l0 x7_1).f6) == x7_1) = true := beq_iff_eq.mpr c5
     have c5b1 : (((rd_T74 l0 x7_1).f6) != x7_1) = false := bne_eq_false_iff_eq.mpr c5
     clear c5
     have H' := Aside0.mk H
     clear H
     have p351 : 0 ≤ (x7_1 : Int) := of_decide_eq_true (by first | (with_reducible assumption) | assumption)
     have q351 : x7_1 < (l0.length : Int) := of_decide_eq_true (by first | (with_reducible assumption) | assumption)
     obtain ⟨ad351, e351, hx351_0, hx351_1, hx351_2, hx351_3, hx351_4, hx351_5, hx351_6, hx351_7⟩ := at_T74 HR0.out x7_1 p351 q351
     cases e351
     replace hx351_0 := (HB.out.cell (World.block_lt_of_cell? w _ hx351_0)).trans hx351_0
     replace hx351_1 := (HB.out.cell (World.block_lt_of_cell? w _ hx351_1)).trans hx351_1
     replace hx351_2 := (HB.out.cell (World.block_lt_of_cell? w _ hx351_2)).trans hx351_2
     replace hx351_3 := (HB.out.cell (World.block_lt_of_cell? w _ hx351_3)).trans hx351_3
     replace hx351_4 := (HB.out.cell (World.block_lt_of_cell? w _ hx351_4)).trans hx351_4
     replace hx351_5 := (HB.out.cell (World.block_lt_of_cell? w _ hx351_5)).trans hx351_5
     replace hx351_6 := (HB.out.cell (World.block_lt_of_cell? w _ hx351_6)).trans hx351_6
     replace hx351_7 := (HB.out.cell (World.block_lt_of_cell? w _ hx351_7)).trans hx351_7
     replace p351 := eq_true p351
     replace q351 := eq_true q351
     go_wp2_with (first | ((with_reducible refine gate_dst (N := 4) rfl ?_); refine box_event ?hg (N := 4) ?hd (cs := #[.string (⟨#[]⟩ : ByteArray), .int .i64 0, .int .i64 0, .int .i64 0, .int .i64 0, .int .i64 0, .int .i64 0, .string (⟨#[]⟩ : ByteArray)]) (t := 74) ?hr ?_; (case hd => rfl); (case hg => rfl); (case hr => first | (go_simp; done) | (go_simp; rfl)); intro gb352 hg w6 hbox hb; have n0_ := Aside0.mk (below_step (Gtr.bw HB.out) hb); have n1_ := Aside0.mk (hbox); have n2_ := Aside0.mk ((by rw [hg]; exact (below_size (Gtr.bw HB.out)) : w.heap.size ≤ gb352)); have n3_ := Aside0.mk ((by rw [hg]; exact (below_size (Gtr.bw HB.out)) : w.heap.size ≤ gb352)); clear HB; have HB := n0_; have BK352 := n1_; have GW352 := n2_; have GE352 := n3_; clear n0_ n1_ n2_ n3_; clear hb hbox hg; have hcz7_0 : w6.cell? ⟨gb352, 0, none⟩ = some (.string (⟨#[]⟩ : ByteArray)) := (blk_cell BK352.out 0).trans rfl; have hcz7_1 : w6.cell? ⟨gb352, 1, none⟩ = some (.int .i64 0) := (blk_cell BK352.out 1).trans rfl; have hcz7_2 : w6.cell? ⟨gb352, 2, none⟩ = some (.int .i64 0) := (blk_cell BK352.out 2).trans rfl; have hcz7_3 : w6.cell? ⟨gb352, 3, none⟩ = some (.int .i64 0) := (blk_cell BK352.out 3).trans rfl; have hcz7_4 : w6.cell? ⟨gb352, 4, none⟩ = some (.int .i64 0) := (blk_cell BK352.out 4).trans rfl; have hcz7_5 : w6.cell? ⟨gb352, 5, none⟩ = some (.int .i64 0) := (blk_cell BK352.out 5).trans rfl; have hcz7_6 : w6.cell? ⟨gb352, 6, none⟩ = some (.int .i64 0) := (blk_cell BK352.out 6).trans rfl; have hcz7_7 : w6.cell? ⟨gb352, 7, none⟩ = some (.string (⟨#[]⟩ : ByteArray)) := (blk_cell BK352.out 7).trans rfl; have hfz7_0 := blk_frozen BK352.out 0; have hfz7_1 := blk_frozen BK352.out 1; have hfz7_2 := blk_frozen BK352.out 2; have hfz7_3 := blk_frozen BK352.out 3; have hfz7_4 := blk_frozen BK352.out 4; have hfz7_5 := blk_frozen BK352.out 5; have hfz7_6 := blk_frozen BK352.out 6; have hfz7_7 := blk_frozen BK352.out 7))
     go_roundg k1
     case measure => have := HK1.out; omega
     case rel => exact ⟨(wrap64 (x7_1 + 1)), (by first | rfl | (simp; done) | (simp [*]; done)), H', ⟨by have := HK1.out; omega⟩, ⟨(Gtr.bw HB.out)⟩⟩
    ·rw [if_neg c5] at H
     have c5b0 : (((rd_T74 l0 x7_1).f6) == x7_1) = false := beq_eq_false_iff_ne.mpr c5
     have c5b1 : (((rd_T74 l0 x7_1).f6) != x7_1) = true := bne_iff_ne.mpr c5
     obtain rfl := Option.some.inj H
     have p351 : 0 ≤ (x7_1 : Int) := of_decide_eq_true (by first | (with_reducible assumption) | assumption)
     have q351 : x7_1 < (l0.length : Int) := of_decide_eq_true (by first | (with_reducible assumption) | assumption)
     obtain ⟨ad351, e351, hx351_0, hx351_1, hx351_2, hx351_3, hx351_4, hx351_5, hx351_6, hx351_7⟩ := at_T74 HR0.out x7_1 p351 q351
     cases e351
     replace hx351_0 := (HB.out.cell (World.block_lt_of_cell? w _ hx351_0)).trans hx351_0
     replace hx351_1 := (HB.out.cell (World.block_lt_of_cell? w _ hx351_1)).trans hx351_1
     replace hx351_2 := (HB.out.cell (World.block_lt_of_cell? w _ hx351_2)).trans hx351_2
     replace hx351_3 := (HB.out.cell (World.block_lt_of_cell? w _ hx351_3)).trans hx351_3
     replace hx351_4 := (HB.out.cell (World.block_lt_of_cell? w _ hx351_4)).trans hx351_4
     replace hx351_5 := (HB.out.cell (World.block_lt_of_cell? w _ hx351_5)).trans hx351_5
     replace hx351_6 := (HB.out.cell (World.block_lt_of_cell? w _ hx351_6)).trans hx351_6
     replace hx351_7 := (HB.out.cell (World.block_lt_of_cell? w _ hx351_7)).trans hx351_7
     replace p351 := eq_true p351
     replace q351 := eq_true q351
     go_wp2_with (first | ((with_reducible refine gate_dst (N := 4) rfl ?_); refine box_event ?hg (N := 4) ?hd (cs := #[.string (⟨#[]⟩ : ByteArray), .int .i64 0, .int .i64 0, .int .i64 0, .int .i64 0, .int .i64 0, .int .i64 0, .string (⟨#[]⟩ : ByteArray)]) (t := 74) ?hr ?_; (case hd => rfl); (case hg => rfl); (case hr => first | (go_simp; done) | (go_simp; rfl)); intro gb352 hg w8 hbox hb; have n0_ := Aside0.mk (below_step (Gtr.bw HB.out) hb); have n1_ := Aside0.mk (hbox); have n2_ := Aside0.mk ((by rw [hg]; exact (below_size (Gtr.bw HB.out)) : w.heap.size ≤ gb352)); have n3_ := Aside0.mk ((by rw [hg]; exact (below_size (Gtr.bw HB.out)) : w.heap.size ≤ gb352)); clear HB; have HB := n0_; have BK352 := n1_; have GW352 := n2_; have GE352 := n3_; clear n0_ n1_ n2_ n3_; clear hb hbox hg; have hcz9_0 : w8.cell? ⟨gb352, 0, none⟩ = some (.string (⟨#[]⟩ : ByteArray)) := (blk_cell BK352.out 0).trans rfl; have hcz9_1 : w8.cell? ⟨gb352, 1, none⟩ = some (.int .i64 0) := (blk_cell BK352.out 1).trans rfl; have hcz9_2 : w8.cell? ⟨gb352, 2, none⟩ = some (.int .i64 0) := (blk_cell BK352.out 2).trans rfl; have hcz9_3 : w8.cell? ⟨gb352, 3, none⟩ = some (.int .i64 0) := (blk_cell BK352.out 3).trans rfl; have hcz9_4 : w8.cell? ⟨gb352, 4, none⟩ = some (.int .i64 0) := (blk_cell BK352.out 4).trans rfl; have hcz9_5 : w8.cell? ⟨gb352, 5, none⟩ = some (.int .i64 0) := (blk_cell BK352.out 5).trans rfl; have hcz9_6 : w8.cell? ⟨gb352, 6, none⟩ = some (.int .i64 0) := (blk_cell BK352.out 6).trans rfl; have hcz9_7 : w8.cell? ⟨gb352, 7, none⟩ = some (.string (⟨#[]⟩ : ByteArray)) := (blk_cell BK352.out 7).trans rfl; have hfz9_0 := blk_frozen BK352.out 0; have hfz9_1 := blk_frozen BK352.out 1; have hfz9_2 := blk_frozen BK352.out 2; have hfz9_3 := blk_frozen BK352.out 3; have hfz9_4 := blk_frozen BK352.out 4; have hfz9_5 := blk_frozen BK352.out 5; have hfz9_6 := blk_frozen BK352.out 6; have hfz9_7 := blk_frozen BK352.out 7))
     go_ret
     exact ⟨by first | rfl | (simp [errW_none, errW_some] <;> rfl) | (simp [*, errW_none, errW_some] <;> rfl), (Gtr.bw HB.out)⟩
   ·rw [if_neg c2] at H
    have c2b0 : decide (x7_1 < (l0.length : Int)) = false := decide_eq_false c2
    clear c2
    replace H := Option.bind_eq_some_iff.mp H
    obtain ⟨t353, A100, H⟩ := H
    try dsimp only at H
    have A10 := Aside0.mk A100
    clear A100
    obtain rfl := Option.some.inj H
    go_wp2_with (first | ((with_reducible refine gate_callee (f := 38) rfl ?_); refine goesL_ (some 18) rfl rfl Tryz.func38 (by kernel_rfl) rfl #[.slice A0 l0.length c0] rfl (by (try simp only [List.map_toArray, List.map_cons, List.map_nil]); first | done | rfl | (simp only [List.length_drop, List.length_take]; rfl)) ?_; (with_reducible refine (impl_GoodItems.calls _ _ l0 t353 _ ?side1 ?side2 A10.out).mono ?_); (case side1 => repeat (first | exact (Kd.C_below HR0.out HB.out) | (with_reducible refine Kd.C_alloc ?_ _) | (with_reducible refine Kd.C_drewN ?_ _) | (with_reducible refine Kd.C_drew ?_))); (case side2 => exact HC0.out); rintro e w11 ⟨rfl, hb⟩; refine ⟨_, rfl, ?_⟩; have n0_ := Aside0.mk (below_step (Gtr.bw HB.out) hb); clear HB; have HB := n0_; clear n0_; (try clear hb); (try clear hb2); (try clear hk); (try clear hi)))
    go_ret
    exact ⟨by first | rfl | (simp [errW_none, errW_some] <;> rfl) | (simp [*, errW_none, errW_some] <;> rfl), (Gtr.bw HB.out)⟩
end Go.Proofs.YthhmkbchdiflcaaGreatDoor.Q

/- Items compared. -/
namespace Go.Proofs.YthhmkbchdiflcaaGreatDoor.Q
open Go.RowKit Go.Proofs.YthhmkbchdiflcaaGreatDoorW.PrintWords Go.Proofs.YthhmkbchdiflcaaGreatDoorW.PrintLast Go.Proofs.YthhmkbchdiflcaaGreatDoorW.PrintMore
attribute [local go_sem] max2_int min2_int max_two min_two max_three min_three max_four min_four   -- for this text's walks alone
set_option linter.unusedVariables false
set_option linter.unusedSimpArgs false

theorem toList_inj {a b : ByteArray} (h : a.toList = b.toList) : a = b := by
  rw [ByteArray.toList_eq, ByteArray.toList_eq] at h
  exact data_inj h
set_option maxRecDepth 100000 in
theorem neq_same (w : World) (x0 : ByteArray) (x1 x2 x3 x4 x5 x6 : Int) (x7 : ByteArray) : (binOp .neq 74 (.agg #[.string x0, .int .i64 x1, .int .i64 x2, .int .i64 x3, .int .i64 x4, .int .i64 x5, .int .i64 x6, .string x7]) (.agg #[.string x0, .int .i64 x1, .int .i64 x2, .int .i64 x3, .int .i64 x4, .int .i64 x5, .int .i64 x6, .string x7])).run Tryz.prog w = .ok (.bool false) w := by
  simp [go_sem]
set_option maxRecDepth 100000 in
theorem neq_other (w : World) {x0 : ByteArray} {x1 x2 x3 x4 x5 x6 : Int} {x7 : ByteArray} {y0 : ByteArray} {y1 y2 y3 y4 y5 y6 : Int} {y7 : ByteArray} (h : (⟨x0, x1, x2, x3, x4, x5, x6, x7⟩ : It) ≠ ⟨y0, y1, y2, y3, y4, y5, y6, y7⟩) : (binOp .neq 74 (.agg #[.string x0, .int .i64 x1, .int .i64 x2, .int .i64 x3, .int .i64 x4, .int .i64 x5, .int .i64 x6, .string x7]) (.agg #[.string y0, .int .i64 y1, .int .i64 y2, .int .i64 y3, .int .i64 y4, .int .i64 y5, .int .i64 y6, .string y7])).run Tryz.prog w = .ok (.bool true) w := by
  by_cases h0 : x0.toList = y0.toList
  case neg => simp [go_sem, h0]
  by_cases h1 : x1 = y1
  case neg => simp [go_sem, h1, h0]
  by_cases h2 : x2 = y2
  case neg => simp [go_sem, h2, h0, h1]
  by_cases h3 : x3 = y3
  case neg => simp [go_sem, h3, h0, h1, h2]
  by_cases h4 : x4 = y4
  case neg => simp [go_sem, h4, h0, h1, h2, h3]
  by_cases h5 : x5 = y5
  case neg => simp [go_sem, h5, h0, h1, h2, h3, h4]
  by_cases h6 : x6 = y6
  case neg => simp [go_sem, h6, h0, h1, h2, h3, h4, h5]
  by_cases h7 : x7.toList = y7.toList
  case neg => simp [go_sem, h7, h0, h1, h2, h3, h4, h5, h6]
  have e0 := toList_inj h0
  have e7 := toList_inj h7
  subst e0 e7 h1 h2 h3 h4 h5 h6
  exact absurd rfl h

end Go.Proofs.YthhmkbchdiflcaaGreatDoor.Q

/- slices.SortFunc of changes by way. -/
namespace Go.Proofs.YthhmkbchdiflcaaGreatDoor.Q
open Go.RowKit Go.Proofs.YthhmkbchdiflcaaGreatDoorW.PrintWords Go.Proofs.YthhmkbchdiflcaaGreatDoorW.PrintLast Go.Proofs.YthhmkbchdiflcaaGreatDoorW.PrintMore
attribute [local go_sem] max2_int min2_int max_two min_two max_three min_three max_four min_four   -- for this text's walks alone
set_option linter.unusedVariables false
set_option linter.unusedSimpArgs false

open Go.Shelf Go.RowKit Go.Lib
open Go.Sort hiding Below
instance : Inhabited Ch := ⟨mkCh 1 ⟨#[]⟩ zI zI⟩
/-- A change as its cells. -/
def encIt (x : It) : List Value := [.string x.f0, .int .i64 x.f1, .int .i64 x.f2, .int .i64 x.f3, .int .i64 x.f4, .int .i64 x.f5, .int .i64 x.f6, .string x.f7]
def encCh (c : Ch) : List Value := .int .i64 c.f0 :: .string c.f1 :: (encIt c.f2 ++ encIt c.f3)
def encChs (l : List Ch) : List Value := l.flatMap encCh
theorem encChs_length (l : List Ch) : (encChs l).length = l.length * 18 := by
  unfold encChs
  induction l with
  | nil => rfl
  | cons c r ih => rw [List.flatMap_cons, List.length_append, ih]; simp [encCh, encIt]; omega
theorem flat_get {α : Type} [Inhabited α] (enc : α → List Value) (k : Nat) (hk : ∀ x, (enc x).length = k) (h0 : 0 < k) : ∀ (l : List α) (t : Nat), t < l.length * k → (l.flatMap enc)[t]? = some ((enc (l[t / k]!))[t % k]!)
  | [], t, h => by simp at h
  | a :: r, t, h => by
    rw [List.flatMap_cons]
    by_cases ht : t < k
    · rw [List.getElem?_append_left (by rw [hk]; exact ht), Nat.div_eq_of_lt ht, Nat.mod_eq_of_lt ht]
      simp [hk, ht]
    · rw [List.getElem?_append_right (by rw [hk]; omega), hk]
      have h2 : t - k < r.length * k := by rw [List.length_cons, Nat.add_mul] at h; omega
      rw [flat_get enc k hk h0 r (t - k) h2]
      have e1 : t / k = (t - k) / k + 1 := by rw [Nat.div_eq_sub_div h0 (by omega)]
      have e2 : t % k = (t - k) % k := Nat.mod_eq_sub_mod (by omega)
      rw [e1, ← e2]; simp
theorem flatK_list {α : Type} [Inhabited α] (enc : α → List Value) (k : Nat) (hk : ∀ x, (enc x).length = k) (h0 : 0 < k) (l : List α) : (flatK enc k l.toArray).toList = l.flatMap enc := by
  apply List.ext_getElem?
  intro t
  by_cases h : t < l.length * k
  · rw [flat_get enc k hk h0 l t h]
    have hs : t < (flatK enc k l.toArray).size := by simpa using h
    rw [Array.getElem?_toList, Array.getElem?_eq_getElem hs, ← getElem!_pos _ t hs, get_flatK enc k l.toArray t (by simpa using h)]
    simp
  · have hl : (l.flatMap enc).length = l.length * k := by
      clear h
      induction l with
      | nil => simp
      | cons a r ih => rw [List.flatMap_cons, List.length_append, ih, hk, List.length_cons, Nat.add_mul]; omega
    rw [List.getElem?_eq_none (by rw [Array.length_toList]; simpa using h), List.getElem?_eq_none (by omega)]
theorem cmp_less : ∀ a b : List UInt8, decide (compareBytes a b < 0) = Op.bytesLess a b
  | [], [] => by simp [compareBytes, Op.bytesLess]
  | [], _ :: _ => by simp [compareBytes, Op.bytesLess]
  | _ :: _, [] => by simp [compareBytes, Op.bytesLess]
  | a :: r, b :: s => by
    have ih := cmp_less r s
    unfold compareBytes Op.bytesLess
    by_cases h1 : a < b
    · simp [h1]
    · by_cases h2 : b < a
      · simp [h1, h2]
        intro e; subst e; exact absurd h2 h1
      · simp [h1, h2, ih]
        exact fun _ => UInt8.le_antisymm (UInt8.not_lt.mp h2) (UInt8.not_lt.mp h1)
def cfCh (x y : Ch) : Int := compareBytes x.f1.data.toList y.f1.data.toList
theorem lt_cfCh (x y : Ch) : ltOf cfCh x y = Op.bytesLess x.f1.toList y.f1.toList := by
  unfold ltOf cfCh
  rw [cmp_less, ByteArray.toList_eq, ByteArray.toList_eq]
theorem swo_cfCh : SWO (ltOf cfCh) where
  irrefl x := by rw [lt_cfCh]; exact less_irrefl _
  trans x y z h1 h2 := by rw [lt_cfCh] at *; exact less_trans _ _ _ h1 h2
  ntrans x y z h1 h2 := by
    rw [lt_cfCh] at *
    cases h : Op.bytesLess x.f1.toList z.f1.toList with
    | false => rfl
    | true =>
      cases h3 : Op.bytesLess y.f1.toList x.f1.toList with
      | true => rw [less_trans _ _ _ h3 h] at h2; cases h2
      | false =>
        have e := less_tri h1 h3
        rw [e, h2] at h; cases h
set_option maxHeartbeats 1000000 in
theorem cmpWays (x y : Ch) (W : World) : Calls Tryz.prog 82 #[.agg (encCh x).toArray, .agg (encCh y).toArray] W fun e w' => e = .returned (.int .i64 (cfCh x y)) ∧ ∃ q os', w' = grow (W.drewN q) os' := by
  have hcon := fun W' => Any.strings_Compare Tryz.lays106 x.f1 y.f1 W'
  change ∀ W', Calls Tryz.prog 83 _ _ _ at hcon
  change Calls Tryz.prog 82 _ _ (fun e w' => e = .returned (.int .i64 (compareBytes x.f1.data.toList y.f1.data.toList)) ∧ _)
  generalize compareBytes x.f1.data.toList y.f1.data.toList = r at hcon ⊢
  obtain ⟨x0, x1, ⟨a0, a1, a2, a3, a4, a5, a6, a7⟩, ⟨b0, b1, b2, b3, b4, b5, b6, b7⟩⟩ := x
  obtain ⟨y0, y1, ⟨c0, c1, c2, c3, c4, c5, c6, c7⟩, ⟨d0, d1, d2, d3, d4, d5, d6, d7⟩⟩ := y
  change Calls Tryz.prog 82 #[.agg #[.int .i64 x0, .string x1, .string a0, .int .i64 a1, .int .i64 a2, .int .i64 a3, .int .i64 a4, .int .i64 a5, .int .i64 a6, .string a7, .string b0, .int .i64 b1, .int .i64 b2, .int .i64 b3, .int .i64 b4, .int .i64 b5, .int .i64 b6, .string b7],
    .agg #[.int .i64 y0, .string y1, .string c0, .int .i64 c1, .int .i64 c2, .int .i64 c3, .int .i64 c4, .int .i64 c5, .int .i64 c6, .string c7, .string d0, .int .i64 d1, .int .i64 d2, .int .i64 d3, .int .i64 d4, .int .i64 d5, .int .i64 d6, .string d7]] _ _
  have hu2 := Tryz.underlying104
  go_enter Tryz.func82, Tryz.ntmps82
  go_wp2_with (go_at_call 83; refine (hcon _).mono ?_; rintro e w' ⟨rfl, rfl⟩)
  go_ret
  exact ⟨rfl, 0, _, by rw [alloc_eq_grow, alloc_eq_grow, grow_grow]; rfl⟩
theorem sort_list {l : List Ch} (hn : (l.map (·.f1)).Nodup) {d' : Array Ch} (hp : PermIn 0 l.toArray.size l.toArray d') (hs : SortedIn (ltOf cfCh) 0 l.toArray.size d') : d'.toList.Perm l ∧ d'.toList.Pairwise ltW := by
  obtain ⟨h1, _, h3⟩ := hp
  have e1 : (d'.extract 0 l.toArray.size) = d' := by rw [← h1]; simp
  have e2 : (l.toArray.extract 0 l.toArray.size) = l.toArray := by simp
  rw [e1, e2] at h3
  have hperm : d'.toList.Perm l := by simpa using h3
  refine ⟨hperm, ?_⟩
  have hn' : (d'.toList.map (·.f1)).Nodup := (hperm.map _).nodup_iff.mpr hn
  rw [List.pairwise_iff_getElem]
  intro i j hi hj hij
  have hi' : i < d'.size := by simpa using hi
  have hj' : j < d'.size := by simpa using hj
  have h := hs i j (Nat.zero_le _) hij (by rw [← h1]; exact hj')
  rw [getElem!_pos d' i hi', getElem!_pos d' j hj', lt_cfCh] at h
  unfold ltW
  cases h4 : Op.bytesLess d'.toList[i].f1.toList d'.toList[j].f1.toList with
  | true => rfl
  | false =>
    have e : d'.toList[i].f1.toList = d'.toList[j].f1.toList := less_tri h4 (by simpa using h)
    have e' : d'.toList[i].f1 = d'.toList[j].f1 := by
      rw [ByteArray.toList_eq, ByteArray.toList_eq] at e
      exact data_inj e
    have hne := (List.pairwise_iff_getElem.mp hn') i j (by simpa using hi) (by simpa using hj) hij
    simp at hne
    exact absurd (by simpa using e') hne
set_option maxHeartbeats 1000000 in
theorem sort_walk (w : World) (base : Nat) (v : Value) (l : List Ch) (hb : base ≤ w.heap.size) (h : w.ownsRow base 104 18 v l.length (encChs l)) (hn : (l.map (·.f1)).Nodup) (hl : l.length < 1000) :
    Calls Tryz.prog 81 #[v, .func (.func 82) #[] #[]] w fun e w' => e = .returned (.tuple #[]) ∧ ∃ L : List Ch, L.Perm l ∧ L.Pairwise ltW ∧ w'.ownsRow base 104 18 v l.length (encChs L) ∧ Below base w w' := by
  rcases h.2 with ⟨rfl, h0⟩ | ⟨g, cap, cur, rfl, hbg, hblk, hc1, hc2, hc3, hc4⟩
  · have e0 : l = [] := List.length_eq_zero_iff.mp h0
    subst e0
    have := AnyF.slices_SortFunc_none Tryz.lSortC none 0 (.func (.func 82) #[] #[]) w
    refine this.mono ?_
    rintro e w' ⟨rfl, rfl⟩
    exact ⟨rfl, [], .nil, .nil, h, Below.refl _ _⟩
  · have eg : ∀ args w, (callFunc 82 args).run Tryz.prog w = .ok (.enter 82 args) w := enters_of Tryz.func82 (by kernel_rfl) rfl
    have hk : ∀ x, (encCh x).length = 18 := fun x => by simp [encCh, encIt]
    have hflat : ∀ l : List Ch, (flatK encCh 18 l.toArray).toList = encChs l := fun l => flatK_list encCh 18 hk (by decide) l
    have hH : HoldsK encCh 18 w g 0 l.toArray := by
      intro j hj
      have hj' : j < l.length * 18 := by simpa using hj
      refine ⟨?_, by simp [World.frozen?, hblk]⟩
      have h1 : (encChs l)[j]? = some ((flatK encCh 18 l.toArray)[j]!) := by
        rw [← hflat, Array.getElem?_toList, Array.getElem?_eq_getElem hj, getElem!_pos _ j hj]
      rw [← hc4, List.getElem?_take_of_lt hj'] at h1
      simp only [World.cell?, hblk, Nat.zero_add]
      simp only [Option.isSome_none, Bool.false_eq_true, if_false]
      rw [← Array.getElem?_toList, h1]
      rfl
    have := AnyQ.slices_SortFunc Tryz.lSortC 18 Tryz.isAgg104 Tryz.sizeOf104 encCh hk (fun x u hu => by
      simp only [encCh, encIt, List.mem_cons, List.mem_append, List.not_mem_nil, or_false] at hu
      rcases hu with rfl | rfl | (rfl | rfl | rfl | rfl | rfl | rfl | rfl | rfl) | (rfl | rfl | rfl | rfl | rfl | rfl | rfl | rfl) <;> rfl) cfCh swo_cfCh 82 #[] g 0 cap l.toArray w eg (fun m os dk _ x y => cmpWays x y _) hH (Array.getElem?_eq_some_iff.1 hblk).1 (by simp; omega)
    simp only [List.size_toArray] at this
    refine this.mono ?_
    rintro e w' ⟨rfl, d', n, os, hp, hs, rfl⟩
    obtain ⟨hq1, hq2⟩ := sort_list hn (by simpa using hp) (by simpa using hs)
    refine ⟨rfl, d'.toList, hq1, hq2, ?_, ?_⟩
    · refine ⟨by rw [encChs_length, hq1.length_eq], .inr ⟨g, cap, putCells id 0 (flatK encCh 18 d') cur, rfl, hbg, ?_, hc1, hc2, by simp [putCells, hc3], ?_⟩⟩
      · unfold sortWorldK putRowK putRow mapBlock
        rw [heap_grow_old _ _ (by simpa [Sort.ahead] using (Array.getElem?_eq_some_iff.1 hblk).1)]
        simp [Sort.ahead, Array.getElem?_modify, hblk, onCells]
      · have hd : (flatK encCh 18 d').toList = encChs d'.toList := by have := hflat d'.toList; simpa using this
        have hdl : d'.size = l.length := by have := hq1.length_eq; simpa using this
        rw [← hd]
        apply List.ext_getElem?
        intro j
        by_cases hj : j < l.length * 18
        · have hcs : j < cur.size := by rw [hc3]; exact Nat.lt_of_lt_of_le hj (Nat.mul_le_mul_right _ hc1)
          have hfs : j < (flatK encCh 18 d').size := by simp [hdl, hj]
          rw [List.getElem?_take_of_lt hj, Array.getElem?_toList, Array.getElem?_toList, Array.getElem?_eq_getElem hfs]
          simp [putCells, hcs, hdl, hj]
        · rw [List.getElem?_take_eq_none (by omega), List.getElem?_eq_none (by simp [hdl]; omega)]
    · refine ⟨rfl, rfl, rfl, by simp [sortWorldK, putRowK, putRow, mapBlock, Sort.ahead], fun k hk => ?_⟩
      unfold sortWorldK putRowK putRow mapBlock
      rw [heap_grow_old _ _ (by simp [Sort.ahead]; omega)]
      have : g ≠ k := by omega
      simp [Sort.ahead, Array.getElem?_modify, this]

end Go.Proofs.YthhmkbchdiflcaaGreatDoor.Q
