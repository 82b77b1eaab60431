/- Texts of this claim, merged by a program (wip/tools/merge.py): Q36, Q30, Q95, Q96, Q23, Q24, Q43, Q44. -/
import Derived.Test.YthhmkbchdiflcaaGreatDoorR1
import Derived.Test.YthhmkbchdiflcaaGreatDoorR4
-- Printed by a program of this session (wip/tools/myprint.py) that runs the kit's print, hand-proved functions among the others.
namespace Go.Proofs.YthhmkbchdiflcaaGreatDoor.Q
open Go.RowKit Go.Proofs.YthhmkbchdiflcaaGreatDoorW.PrintWords Go.Proofs.YthhmkbchdiflcaaGreatDoorW.PrintLast Go.Proofs.YthhmkbchdiflcaaGreatDoorW.PrintMore
attribute [local go_sem] max2_int min2_int max_two min_two max_three min_three max_four min_four   -- for this text's walks alone
set_option linter.unusedVariables false
set_option linter.unusedSimpArgs false

/-! ### spec_l17Next: function 127 -/
mutual
def spec_l17Next.l0 : Nat → ByteArray → ByteArray → List ByteArray → List ByteArray → List (S74) → Int → Int → Option (Bool)
 | 0, _, _, _, _, _, _, _ => none
 | k + 1, x5, x6, x7, x8, x28, x29, x30 => if x30 < x29 then (if 0 ≤ x30 then (if x30 < (x28.length : Int) then ((spec_l17Split.f k ((rd_T74 x28 x30).f0)).bind fun bt171 => (spec_l17Next.l1 k x5 x6 x7 x8 bt171.1 bt171.2 x28 x29 x30 ((rd_T74 x28 x30).f0) ((rd_T74 x28 x30).f1) ((rd_T74 x28 x30).f2) ((rd_T74 x28 x30).f3) ((rd_T74 x28 x30).f4) ((rd_T74 x28 x30).f5) ((rd_T74 x28 x30).f6) ((rd_T74 x28 x30).f7))) else (none)) else (none)) else (spec_l17Next.l2 k x5 x6 x8 x7 (x7.length : Int) 0)
def spec_l17Next.l1 : Nat → ByteArray → ByteArray → List ByteArray → List ByteArray → ByteArray → ByteArray → List (S74) → Int → Int → ByteArray → Int → Int → Int → Int → Int → Int → ByteArray → Option (Bool)
 | 0, _, _, _, _, _, _, _, _, _, _, _, _, _, _, _, _, _ => none
 | k + 1, x5, x6, x7, x8, x11, x12, x28, x29, x30, x171000, x171001, x171002, x171003, x171004, x171005, x171006, x171007 => if 0 ≤ (wrap64 ((x7.length : Int) - 1)) then (if (wrap64 ((x7.length : Int) - 1)) < (x7.length : Int) then (if (rdOf ByteArray.empty x7 (wrap64 ((x7.length : Int) - 1))).toList = x11.toList then (if 0 ≤ (wrap64 ((x8.length : Int) - 1)) then (if (wrap64 ((x8.length : Int) - 1)) < (x8.length : Int) then ((some (x8.set ((wrap64 ((x8.length : Int) - 1)) : Int).toNat x12 : List ByteArray)).bind fun y174 => (if x171001 = 2 then (if x7.length < 8796093022208 then (if y174.length < 8796093022208 then (spec_l17Next.l0 k x5 x6 (x7 ++ [x171000]) (y174 ++ [(⟨#[]⟩ : ByteArray)]) x28 x29 (wrap64 (x30 + 1))) else (none)) else (none)) else (spec_l17Next.l0 k x5 x6 x7 y174 x28 x29 (wrap64 (x30 + 1))))) else (none)) else (none)) else (if (wrap64 ((x7.length : Int) - 1)) ≤ (x7.length : Int) then (if 0 ≤ (wrap64 ((x8.length : Int) - 1)) then (if (wrap64 ((x8.length : Int) - 1)) ≤ (x8.length : Int) then (spec_l17Next.l1 k x5 x6 (x7.take ((wrap64 ((x7.length : Int) - 1)) : Int).toNat) (x8.take ((wrap64 ((x8.length : Int) - 1)) : Int).toNat) x11 x12 x28 x29 x30 x171000 x171001 x171002 x171003 x171004 x171005 x171006 x171007) else (none)) else (none)) else (none))) else (none)) else (none)
def spec_l17Next.l2 : Nat → ByteArray → ByteArray → List ByteArray → List ByteArray → Int → Int → Option (Bool)
 | 0, _, _, _, _, _, _ => none
 | k + 1, x5, x6, x8, x76, x77, x78 => if x78 < x77 then (if 0 ≤ x78 then (if x78 < (x76.length : Int) then (if (rdOf ByteArray.empty x76 x78).toList = x5.toList then (if x78 < (x8.length : Int) then (some (Op.bytesLess ((rdOf ByteArray.empty x8 x78).toList) x6.toList)) else (none)) else (spec_l17Next.l2 k x5 x6 x8 x76 x77 (wrap64 (x78 + 1)))) else (none)) else (none)) else (some false)
end
def spec_l17Next.f (k : Nat) (l0 : List (S74)) (a1_0 : ByteArray) (a1_1 : Int) (a1_2 : Int) (a1_3 : Int) (a1_4 : Int) (a1_5 : Int) (a1_6 : Int) (a1_7 : ByteArray) : Option (Bool) := (spec_l17Way.f k a1_0).bind fun t156 => (if t156 = true then ((spec_l17Split.f k a1_0).bind fun bt157 => (if 1 ≤ (l0.length : Int) then ((some (l0.drop 1 : List (S74))).bind fun y165 => (spec_l17Next.l0 k bt157.1 bt157.2 (([(⟨#[46]⟩ : ByteArray)] : List ByteArray)) (([(⟨#[]⟩ : ByteArray)] : List ByteArray)) y165 (y165.length : Int) 0)) else (none))) else (some false))
set_option maxHeartbeats 8000000 in
set_option maxRecDepth 100000 in
theorem spec_l17Next.calls (k : Nat) (A0 : Option Addr) (c0 : Nat) (l0 : List (S74)) (a1_0 : ByteArray) (a1_1 : Int) (a1_2 : Int) (a1_3 : Int) (a1_4 : Int) (a1_5 : Int) (a1_6 : Int) (a1_7 : ByteArray) (r : Bool) (w : World) (hr0 : Kd.C k74 w A0 l0.length l0) (hc0 : l0.length ≤ c0) (h : spec_l17Next.f k l0 a1_0 a1_1 a1_2 a1_3 a1_4 a1_5 a1_6 a1_7 = some r) :
  Calls Tryz.prog 127 #[.slice A0 l0.length c0, .agg #[.string a1_0, .int .i64 a1_1, .int .i64 a1_2, .int .i64 a1_3, .int .i64 a1_4, .int .i64 a1_5, .int .i64 a1_6, .string a1_7]] w fun e w' => e = .returned (.bool r) ∧ Below w.heap.size w w' := by
 have hu74 := Tryz.underlying74
 have HR0 := Aside0.mk hr0
 have HC0 := Aside0.mk hc0
 clear hr0 hc0
 have HB := Aside0.mk (Below.refl w.heap.size w)
 have H : ((spec_l17Way.f k a1_0).bind fun t156 => (if t156 = true then ((spec_l17Split.f k a1_0).bind fun bt157 => (if 1 ≤ (l0.length : Int) then ((some (l0.drop 1 : List (S74))).bind fun y165 => (spec_l17Next.l0 k bt157.1 bt157.2 (([(⟨#[46]⟩ : ByteArray)] : List ByteArray)) (([(⟨#[]⟩ : ByteArray)] : List ByteArray)) y165 (y165.length : Int) 0)) else (none))) else (some false))) = some r := h
 clear h
 replace H := Option.bind_eq_some_iff.mp H
 obtain ⟨t156, A30, H⟩ := H
 replace H : (if t156 = true then ((spec_l17Split.f k a1_0).bind fun bt157 => (if 1 ≤ (l0.length : Int) then ((some (l0.drop 1 : List (S74))).bind fun y165 => (spec_l17Next.l0 k bt157.1 bt157.2 (([(⟨#[46]⟩ : ByteArray)] : List ByteArray)) (([(⟨#[]⟩ : ByteArray)] : List ByteArray)) y165 (y165.length : Int) 0)) else (none))) else (some false)) = some r := H
 have A3 := Aside0.mk A30
 clear A30
 by_cases c4 : t156 = true
 ·subst c4
  have H1 : ((spec_l17Split.f k a1_0).bind fun bt157 => (if 1 ≤ (l0.length : Int) then ((some (l0.drop 1 : List (S74))).bind fun y165 => (spec_l17Next.l0 k bt157.1 bt157.2 (([(⟨#[46]⟩ : ByteArray)] : List ByteArray)) (([(⟨#[]⟩ : ByteArray)] : List ByteArray)) y165 (y165.length : Int) 0)) else (none))) = some r := by rw [if_pos rfl] at H; exact H
  clear H
  have H := H1
  clear H1
  replace H := Option.bind_eq_some_iff.mp H
  obtain ⟨⟨t157, t158⟩, A50, H⟩ := H
  replace H : (if 1 ≤ (l0.length : Int) then ((some (l0.drop 1 : List (S74))).bind fun y165 => (spec_l17Next.l0 k t157 t158 (([(⟨#[46]⟩ : ByteArray)] : List ByteArray)) (([(⟨#[]⟩ : ByteArray)] : List ByteArray)) y165 (y165.length : Int) 0)) else (none)) = some r := H
  have A5 := Aside0.mk A50
  clear A50
  obtain ⟨y159, hy159⟩ : ∃ y_ : List ByteArray, y_ = (([(⟨#[46]⟩ : ByteArray)] : List ByteArray)) := ⟨_, rfl⟩
  replace H : (if 1 ≤ (l0.length : Int) then ((some (l0.drop 1 : List (S74))).bind fun y165 => (spec_l17Next.l0 k t157 t158 y159 (([(⟨#[]⟩ : ByteArray)] : List ByteArray)) y165 (y165.length : Int) 0)) else (none)) = some r := by first | (rw [hy159]; with_reducible exact H) | (have H2_ := (Option.bind_some _ _).symm.trans H; rw [hy159]; with_reducible exact H2_) | (have H2_ := (Option.bind_some _ _).symm.trans H; with_reducible exact H2_) | with_reducible exact H | (rw [hy159]; exact H) | exact H
  have Ny159 := Aside0.mk hy159
  clear hy159
  obtain ⟨y162, hy162⟩ : ∃ y_ : List ByteArray, y_ = (([(⟨#[]⟩ : ByteArray)] : List ByteArray)) := ⟨_, rfl⟩
  replace H : (if 1 ≤ (l0.length : Int) then ((some (l0.drop 1 : List (S74))).bind fun y165 => (spec_l17Next.l0 k t157 t158 y159 y162 y165 (y165.length : Int) 0)) else (none)) = some r := by first | (rw [hy162]; with_reducible exact H) | (have H2_ := (Option.bind_some _ _).symm.trans H; rw [hy162]; with_reducible exact H2_) | (have H2_ := (Option.bind_some _ _).symm.trans H; with_reducible exact H2_) | with_reducible exact H | (rw [hy162]; exact H) | exact H
  have Ny162 := Aside0.mk hy162
  clear hy162
  refine Or.elim (Classical.em (1 ≤ (l0.length : Int))) (fun c6 => ?_) (fun c6 => by rw [if_neg c6] at H; exact absurd H (by simp))
  rw [if_pos c6] at H
  have c6b0 := eq_true c6
  have c6b1 : decide (1 ≤ (l0.length : Int)) = true := decide_eq_true c6
  clear c6
  obtain ⟨y165, hy165⟩ : ∃ y_ : List (S74), y_ = (l0.drop 1) := ⟨_, rfl⟩
  replace H : (spec_l17Next.l0 k t157 t158 y159 y162 y165 (y165.length : Int) 0) = some r := by first | (rw [hy165]; with_reducible exact H) | (have H2_ := (Option.bind_some _ _).symm.trans H; rw [hy165]; with_reducible exact H2_) | (have H2_ := (Option.bind_some _ _).symm.trans H; with_reducible exact H2_) | with_reducible exact H | (rw [hy165]; exact H) | exact H
  have Ny165 := Aside0.mk hy165
  clear hy165
  have H' := Aside0.mk H
  clear H
  go_enter Tryz.func127, Tryz.ntmps127
  go_wp2_with (first | ((with_reducible refine gate_dst (N := 3) rfl ?_); refine box_event ?hg (N := 3) ?hd (cs := #[.string a1_0, .int .i64 a1_1, .int .i64 a1_2, .int .i64 a1_3, .int .i64 a1_4, .int .i64 a1_5, .int .i64 a1_6, .string a1_7]) (t := 74) ?hr ?_; (case hd => rfl); (case hg => rfl); (case hr => first | (go_simp; done) | (go_simp; rfl)); intro gb155 hg w7 hbox hb; have n0_ := Aside0.mk (below_step (by repeat (first | (with_reducible first | exact HB.out | apply below_alloc | apply pw_below_drewN | apply below_drew1) | exact HB.out)) hb); have n1_ := Aside0.mk (hbox); have n2_ := Aside0.mk ((by rw [hg]; exact (below_size (by repeat (first | (with_reducible first | exact HB.out | apply below_alloc | apply pw_below_drewN | apply below_drew1) | exact HB.out))) : w.heap.size ≤ gb155)); have n3_ := Aside0.mk ((by rw [hg]; exact (below_size (by repeat (first | (with_reducible first | exact HB.out | apply below_alloc | apply pw_below_drewN | apply below_drew1) | exact HB.out))) : w.heap.size ≤ gb155)); clear HB; have HB := n0_; have BK155 := n1_; have GW155 := n2_; have GE155 := n3_; clear n0_ n1_ n2_ n3_; clear hb hbox hg; have hcz8_0 : w7.cell? ⟨gb155, 0, none⟩ = some (.string a1_0) := (blk_cell BK155.out 0).trans rfl; have hcz8_1 : w7.cell? ⟨gb155, 1, none⟩ = some (.int .i64 a1_1) := (blk_cell BK155.out 1).trans rfl; have hcz8_2 : w7.cell? ⟨gb155, 2, none⟩ = some (.int .i64 a1_2) := (blk_cell BK155.out 2).trans rfl; have hcz8_3 : w7.cell? ⟨gb155, 3, none⟩ = some (.int .i64 a1_3) := (blk_cell BK155.out 3).trans rfl; have hcz8_4 : w7.cell? ⟨gb155, 4, none⟩ = some (.int .i64 a1_4) := (blk_cell BK155.out 4).trans rfl; have hcz8_5 : w7.cell? ⟨gb155, 5, none⟩ = some (.int .i64 a1_5) := (blk_cell BK155.out 5).trans rfl; have hcz8_6 : w7.cell? ⟨gb155, 6, none⟩ = some (.int .i64 a1_6) := (blk_cell BK155.out 6).trans rfl; have hcz8_7 : w7.cell? ⟨gb155, 7, none⟩ = some (.string a1_7) := (blk_cell BK155.out 7).trans rfl; have hfz8_0 := blk_frozen BK155.out 0; have hfz8_1 := blk_frozen BK155.out 1; have hfz8_2 := blk_frozen BK155.out 2; have hfz8_3 := blk_frozen BK155.out 3; have hfz8_4 := blk_frozen BK155.out 4; have hfz8_5 := blk_frozen BK155.out 5; have hfz8_6 := blk_frozen BK155.out 6; have hfz8_7 := blk_frozen BK155.out 7) | ((with_reducible refine gate_callee (f := 177) rfl ?_); refine goesL_ (some 17) rfl rfl Tryz.func177 (by kernel_rfl) rfl #[.string a1_0] rfl (by (try simp only [List.map_toArray, List.map_cons, List.map_nil]); first | done | rfl | (simp only [List.length_drop, List.length_take]; rfl)) ?_; (with_reducible refine (spec_l17Way.calls k a1_0 true _ A3.out).mono ?_); rintro e w9 ⟨rfl, hb⟩; refine ⟨_, rfl, ?_⟩; have n0_ := Aside0.mk (blk_below (g := gb155) (o := .cells #[.string a1_0, .int .i64 a1_1, .int .i64 a1_2, .int .i64 a1_3, .int .i64 a1_4, .int .i64 a1_5, .int .i64 a1_6, .string a1_7] 74 (0, 0)) (by (with_reducible repeat (first | refine blk_drewN ?_ _ | refine blk_drew ?_ | refine blk_alloc ?_ _)); exact BK155.out) hb); have n1_ := Aside0.mk (below_step (by repeat (first | (with_reducible first | exact HB.out | apply below_alloc | apply pw_below_drewN | apply below_drew1 | refine below_set ?_ GE155.out) | exact HB.out)) hb); clear BK155; clear HB; have BK155 := n0_; have HB := n1_; clear n0_ n1_; (try clear hb); (try clear hb2); (try clear hk); (try clear hi); have hcz10_0 : w9.cell? ⟨gb155, 0, none⟩ = some (.string a1_0) := (blk_cell BK155.out 0).trans rfl; have hcz10_1 : w9.cell? ⟨gb155, 1, none⟩ = some (.int .i64 a1_1) := (blk_cell BK155.out 1).trans rfl; have hcz10_2 : w9.cell? ⟨gb155, 2, none⟩ = some (.int .i64 a1_2) := (blk_cell BK155.out 2).trans rfl; have hcz10_3 : w9.cell? ⟨gb155, 3, none⟩ = some (.int .i64 a1_3) := (blk_cell BK155.out 3).trans rfl; have hcz10_4 : w9.cell? ⟨gb155, 4, none⟩ = some (.int .i64 a1_4) := (blk_cell BK155.out 4).trans rfl; have hcz10_5 : w9.cell? ⟨gb155, 5, none⟩ = some (.int .i64 a1_5) := (blk_cell BK155.out 5).trans rfl; have hcz10_6 : w9.cell? ⟨gb155, 6, none⟩ = some (.int .i64 a1_6) := (blk_cell BK155.out 6).trans rfl; have hcz10_7 : w9.cell? ⟨gb155, 7, none⟩ = some (.string a1_7) := (blk_cell BK155.out 7).trans rfl; have hfz10_0 := blk_frozen BK155.out 0; have hfz10_1 := blk_frozen BK155.out 1; have hfz10_2 := blk_frozen BK155.out 2; have hfz10_3 := blk_frozen BK155.out 3; have hfz10_4 := blk_frozen BK155.out 4; have hfz10_5 := blk_frozen BK155.out 5; have hfz10_6 := blk_frozen BK155.out 6; have hfz10_7 := blk_frozen BK155.out 7) | ((with_reducible refine gate_callee (f := 178) rfl ?_); refine goesL_ (some 22) rfl rfl Tryz.func178 (by kernel_rfl) rfl #[.string a1_0] rfl (by (try simp only [List.map_toArray, List.map_cons, List.map_nil]); first | done | rfl | (simp only [List.length_drop, List.length_take]; rfl)) ?_; (with_reducible refine (spec_l17Split.calls k a1_0 t157 t158 _ A5.out).mono ?_); rintro e w11 ⟨rfl, hb⟩; refine ⟨_, rfl, ?_⟩; have n0_ := Aside0.mk (blk_below (g := gb155) (o := .cells #[.string a1_0, .int .i64 a1_1, .int .i64 a1_2, .int .i64 a1_3, .int .i64 a1_4, .int .i64 a1_5, .int .i64 a1_6, .string a1_7] 74 (0, 0)) (by (with_reducible repeat (first | refine blk_drewN ?_ _ | refine blk_drew ?_ | refine blk_alloc ?_ _)); exact BK155.out) hb); have n1_ := Aside0.mk (below_step (by repeat (first | (with_reducible first | exact HB.out | apply below_alloc | apply pw_below_drewN | apply below_drew1 | refine below_set ?_ GE155.out) | exact HB.out)) hb); clear BK155; clear HB; have BK155 := n0_; have HB := n1_; clear n0_ n1_; (try clear hb); (try clear hb2); (try clear hk); (try clear hi)) | ((with_reducible refine gate_dst (N := 25) rfl ?_); refine Kd.R_lit Kd.string _ 9 ?hg (N := 25) ?hd (xs := ([(⟨#[46]⟩ : ByteArray)] : List ByteArray)) (inner := [.string (⟨#[46]⟩ : ByteArray)]) (ok := fun _ => True) (okp := fun _ => True) ?hr ?hp (fun _ hk => hk) trivial (Below.refl _ _) (Nat.le_refl _) (by simp) ?_; (case hd => rfl); (case hg => rfl); (case hr => first | (go_simp; done) | (go_simp; rfl)); (case hp => exact (Reps.one (show Kd.M Kd.string _ _ _ (⟨#[46]⟩ : ByteArray) [.string (⟨#[46]⟩ : ByteArray)] from rfl) (Reps.none _ _))); intro v160 w12 ho13 hb hg_ hnew_; clear hg_ hnew_; (first | rw [← Ny159.out] at ho13 | (simp only [Int.reduceToNat] at ho13; rw [← Ny159.out] at ho13)); have n0_ := Aside0.mk (Kd.R_lower ho13 (below_size (by repeat (first | (with_reducible first | exact HB.out | apply below_alloc | apply pw_below_drewN | apply below_drew1 | refine below_set ?_ GE155.out) | exact HB.out)))); have n1_ := Aside0.mk (blk_below (g := gb155) (o := .cells #[.string a1_0, .int .i64 a1_1, .int .i64 a1_2, .int .i64 a1_3, .int .i64 a1_4, .int .i64 a1_5, .int .i64 a1_6, .string a1_7] 74 (0, 0)) (by (with_reducible repeat (first | refine blk_drewN ?_ _ | refine blk_drew ?_ | refine blk_alloc ?_ _)); exact BK155.out) hb); have n2_ := Aside0.mk (below_step (by repeat (first | (with_reducible first | exact HB.out | apply below_alloc | apply pw_below_drewN | apply below_drew1 | refine below_set ?_ GE155.out) | exact HB.out)) hb); clear BK155; clear HB; have HO161 := n0_; have BK155 := n1_; have HB := n2_; clear n0_ n1_ n2_; clear hb ho13) | ((with_reducible refine gate_dst (N := 26) rfl ?_); refine Kd.R_lit Kd.string _ 9 ?hg (N := 26) ?hd (xs := ([(⟨#[]⟩ : ByteArray)] : List ByteArray)) (inner := [.string (⟨#[]⟩ : ByteArray)]) (ok := fun _ => True) (okp := fun _ => True) ?hr ?hp (fun _ hk => hk) trivial (Below.refl _ _) (Nat.le_refl _) (by simp) ?_; (case hd => rfl); (case hg => rfl); (case hr => first | (go_simp; done) | (go_simp; rfl)); (case hp => exact (Reps.one (show Kd.M Kd.string _ _ _ (⟨#[]⟩ : ByteArray) [.string (⟨#[]⟩ : ByteArray)] from rfl) (Reps.none _ _))); intro v163 w14 ho15 hb hg_ hnew_; clear hg_ hnew_; (first | rw [← Ny162.out] at ho15 | (simp only [Int.reduceToNat] at ho15; rw [← Ny162.out] at ho15)); have n0_ := Aside0.mk (Kd.R_elder' (by (with_reducible repeat (first | apply Kd.R_alloc | apply Kd.R_drewN | apply Kd.R_drew)); exact HO161.out) (Kd.R_base ho15) hb); have n1_ := Aside0.mk (Kd.R_lower (Kd.R_new' ho15 (Kd.R_lt (by (with_reducible repeat (first | apply Kd.R_alloc | apply Kd.R_drewN | apply Kd.R_drew)); exact HO161.out))) (below_size (by repeat (first | (with_reducible first | exact HB.out | apply below_alloc | apply pw_below_drewN | apply below_drew1 | refine below_set ?_ GE155.out) | exact HB.out)))); have n2_ := Aside0.mk (blk_below (g := gb155) (o := .cells #[.string a1_0, .int .i64 a1_1, .int .i64 a1_2, .int .i64 a1_3, .int .i64 a1_4, .int .i64 a1_5, .int .i64 a1_6, .string a1_7] 74 (0, 0)) (by (with_reducible repeat (first | refine blk_drewN ?_ _ | refine blk_drew ?_ | refine blk_alloc ?_ _)); exact BK155.out) hb); have n3_ := Aside0.mk (below_step (by repeat (first | (with_reducible first | exact HB.out | apply below_alloc | apply pw_below_drewN | apply below_drew1 | refine below_set ?_ GE155.out) | exact HB.out)) hb); clear HO161; clear BK155; clear HB; have HO161 := n0_; have HO164 := n1_; have BK155 := n2_; have HB := n3_; clear n0_ n1_ n2_ n3_; clear hb ho15; have q16 : (1 : Int) ≤ ((l0.length : Int) : Int) := of_decide_eq_true (by first | (with_reducible assumption) | assumption); obtain ⟨i016, hi016, _, hsz16, _⟩ := info_parts info74; have hroom16 : l0.length ≤ c0 := HC0.out; have hC16 : Kd.C k74 _ A0 l0.length l0 := HR0.out; have hcut16 := cut_from (P := Tryz.prog) 26 74 .i64 Tryz.underlying26 hi016 8 hsz16 A0 l0.length c0 1 (by omega) q16; have hr16 := Kd.C_drop (m := (1 : Int).toNat) (c := c0) hC16 (by omega) hroom16; obtain ⟨A16, hA16⟩ : ∃ A1, A1 = (if c0 = (1 : Int).toNat then A0 else (A0 : Option Addr).map (·.add ((1 : Int).toNat * 8))) := ⟨_, rfl⟩; obtain ⟨c16, hc16⟩ : ∃ c1, c1 = c0 - (1 : Int).toNat := ⟨_, rfl⟩; have hy16 : y165.length = l0.length - (1 : Int).toNat := (by rw [Ny165.out, List.length_drop] <;> omega); rw [show (l0).drop (1 : Int).toNat = y165 from Ny165.out.symm] at hr16; replace hr16 : Kd.C k74 _ A16 y165.length y165 := (by rw [hA16]; exact hr16); rw [← hy16, ← hA16, ← hc16] at hcut16; have HR168 := Aside0.mk hr16; have HC168 := Aside0.mk (show y165.length ≤ c16 from by rw [hy16, hc16]; exact Nat.sub_le_sub_right hroom16 _); clear hr16 hC16 hroom16 hi016 hsz16 hc16; have KY16 := Aside0.mk hy16; have KA16 := Aside0.mk hA16; clear hy16 hA16; replace q16 := eq_true q16))
  go_loopg [7, 8, 30] k (fun kq v7 v8 v30 w' => ∃ (x7_1 : List ByteArray) (x8_1 : List ByteArray) (x30_1 : Int), v30 = .int .i64 x30_1 ∧ Aside0 (spec_l17Next.l0 kq t157 t158 x7_1 x8_1 y165 (y165.length : Int) x30_1 = some r) ∧ Aside0 (kq ≤ k) ∧ Aside0 (Kd.R Kd.string 9 w' w.heap.size (fun k_ => some k_ ≠ (v8 : Value).ownBlock) v7 x7_1) ∧ Aside0 (Kd.R Kd.string 9 w' w.heap.size (fun k_ => some k_ ≠ (v7 : Value).ownBlock) v8 x8_1) ∧ Aside0 (w'.heap[gb155]? = some (.cells #[.string a1_0, .int .i64 a1_1, .int .i64 a1_2, .int .i64 a1_3, .int .i64 a1_4, .int .i64 a1_5, .int .i64 a1_6, .string a1_7] 74 (0, 0))) ∧ Aside0 (Below w.heap.size w w'))
  case atStart => exact ⟨(y159), (y162), (0), (by first | rfl | (simp; done) | (simp [*]; done)), H', ⟨Nat.le_refl _⟩, ⟨by (with_reducible repeat (first | apply Kd.R_alloc | apply Kd.R_drewN | apply Kd.R_drew)); exact Kd.R_mono HO161.out (fun _ hk => hk.2)⟩, ⟨by (with_reducible repeat (first | apply Kd.R_alloc | apply Kd.R_drewN | apply Kd.R_drew)); exact Kd.R_mono HO164.out (fun _ hk => hk.2)⟩, ⟨by (with_reducible repeat (first | refine blk_drewN ?_ _ | refine blk_drew ?_ | refine blk_alloc ?_ _)); exact BK155.out⟩, ⟨by repeat (first | (with_reducible first | exact HB.out | apply below_alloc | apply pw_below_drewN | apply below_drew1 | refine below_set ?_ GE155.out) | exact HB.out)⟩⟩
  case round =>
   clear H'
   (try clear c1);(try clear q1);(try clear p2);(try clear c4);(try clear c6);(try clear c6b0);(try clear c6b1);(try clear c12);(try clear c16);(try clear q16);(try clear hcz10_0);(try clear hcz10_1);(try clear hcz10_2);(try clear hcz10_3);(try clear hcz10_4);(try clear hcz10_5);(try clear hcz10_6);(try clear hcz10_7);(try clear hcz8_0);(try clear hcz8_1);(try clear hcz8_2);(try clear hcz8_3);(try clear hcz8_4);(try clear hcz8_5);(try clear hcz8_6);(try clear hcz8_7);(try clear hfz10_0);(try clear hfz10_1);(try clear hfz10_2);(try clear hfz10_3);(try clear hfz10_4);(try clear hfz10_5);(try clear hfz10_6);(try clear hfz10_7);(try clear hfz8_0);(try clear hfz8_1);(try clear hfz8_2);(try clear hfz8_3);(try clear hfz8_4);(try clear hfz8_5);(try clear hfz8_6);(try clear hfz8_7);(try clear q16)
   obtain ⟨x7_1, x8_1, x30_1, rfl, HA, HK1, HO_7, HO_8, BK155, HB⟩ := hrel
   cases gk with
   | zero => exact absurd HA.out (by simp [spec_l17Next.l0])
   | succ k1 =>
    have H := HA.out
    clear HA
    simp only [spec_l17Next.l0] at H
    by_cases c17 : x30_1 < (y165.length : Int)
    ·rw [if_pos c17] at H
     have c17b0 : decide (x30_1 < (y165.length : Int)) = true := decide_eq_true c17
     clear c17
     refine Or.elim (Classical.em (0 ≤ x30_1)) (fun c18 => ?_) (fun c18 => by rw [if_neg c18] at H; exact absurd H (by simp))
     rw [if_pos c18] at H
     have c18b0 : decide (0 ≤ x30_1) = true := decide_eq_true c18
     clear c18
     refine Or.elim (Classical.em (x30_1 < (y165.length : Int))) (fun c19 => ?_) (fun c19 => by rw [if_neg c19] at H; exact absurd H (by simp))
     rw [if_pos c19] at H
     have c19b0 : decide (x30_1 < (y165.length : Int)) = true := decide_eq_true c19
     clear c19
     replace H := Option.bind_eq_some_iff.mp H
     obtain ⟨⟨t171, t172⟩, A200, H⟩ := H
     replace H : (spec_l17Next.l1 k1 t157 t158 x7_1 x8_1 t171 t172 y165 (y165.length : Int) x30_1 ((rd_T74 y165 x30_1).f0) ((rd_T74 y165 x30_1).f1) ((rd_T74 y165 x30_1).f2) ((rd_T74 y165 x30_1).f3) ((rd_T74 y165 x30_1).f4) ((rd_T74 y165 x30_1).f5) ((rd_T74 y165 x30_1).f6) ((rd_T74 y165 x30_1).f7)) = some r := H
     have A20 := Aside0.mk A200
     clear A200
     have H' := Aside0.mk H
     clear H
     have p169 : 0 ≤ (x30_1 : Int) := of_decide_eq_true (by first | (with_reducible assumption) | assumption)
     have q169 : x30_1 < (y165.length : Int) := of_decide_eq_true (by first | (with_reducible assumption) | assumption)
     obtain ⟨ad169, e169, hx169_0, hx169_1, hx169_2, hx169_3, hx169_4, hx169_5, hx169_6, hx169_7⟩ := at_T74 HR168.out x30_1 p169 q169
     cases e169
     replace hx169_0 := (HB.out.cell (World.block_lt_of_cell? w _ hx169_0)).trans hx169_0
     replace hx169_1 := (HB.out.cell (World.block_lt_of_cell? w _ hx169_1)).trans hx169_1
     replace hx169_2 := (HB.out.cell (World.block_lt_of_cell? w _ hx169_2)).trans hx169_2
     replace hx169_3 := (HB.out.cell (World.block_lt_of_cell? w _ hx169_3)).trans hx169_3
     replace hx169_4 := (HB.out.cell (World.block_lt_of_cell? w _ hx169_4)).trans hx169_4
     replace hx169_5 := (HB.out.cell (World.block_lt_of_cell? w _ hx169_5)).trans hx169_5
     replace hx169_6 := (HB.out.cell (World.block_lt_of_cell? w _ hx169_6)).trans hx169_6
     replace hx169_7 := (HB.out.cell (World.block_lt_of_cell? w _ hx169_7)).trans hx169_7
     replace p169 := eq_true p169
     replace q169 := eq_true q169
     go_wp2_with (first | ((with_reducible refine gate_dst (N := 10) rfl ?_); refine box_event ?hg (N := 10) ?hd (cs := #[.string (⟨#[]⟩ : ByteArray), .int .i64 0, .int .i64 0, .int .i64 0, .int .i64 0, .int .i64 0, .int .i64 0, .string (⟨#[]⟩ : ByteArray)]) (t := 74) ?hr ?_; (case hd => rfl); (case hg => rfl); (case hr => first | (go_simp; done) | (go_simp; rfl)); intro gb170 hg w21 hbox hb; have n0_ := Aside0.mk (Kd.R_below (by (with_reducible repeat (first | apply Kd.R_alloc | apply Kd.R_drewN | apply Kd.R_drew)); exact HO_7.out) hb); have n1_ := Aside0.mk (Kd.R_below (by (with_reducible repeat (first | apply Kd.R_alloc | apply Kd.R_drewN | apply Kd.R_drew)); exact HO_8.out) hb); have n2_ := Aside0.mk (blk_below (g := gb155) (o := .cells #[.string a1_0, .int .i64 a1_1, .int .i64 a1_2, .int .i64 a1_3, .int .i64 a1_4, .int .i64 a1_5, .int .i64 a1_6, .string a1_7] 74 (0, 0)) (by (with_reducible repeat (first | refine blk_drewN ?_ _ | refine blk_drew ?_ | refine blk_alloc ?_ _)); exact BK155.out) hb); have n3_ := Aside0.mk (below_step (by repeat (first | (with_reducible first | exact HB.out | apply below_alloc | apply pw_below_drewN | apply below_drew1 | refine below_set ?_ GE155.out) | exact HB.out)) hb); have n4_ := Aside0.mk (hbox); have n5_ := Aside0.mk ((by rw [hg]; exact (below_size (by repeat (first | (with_reducible first | exact HB.out | apply below_alloc | apply pw_below_drewN | apply below_drew1 | refine below_set ?_ GE155.out) | exact HB.out))) : w.heap.size ≤ gb170)); have n6_ := Aside0.mk ((by rw [hg]; exact (below_size (by repeat (first | (with_reducible first | exact HB.out | apply below_alloc | apply pw_below_drewN | apply below_drew1 | refine below_set ?_ GE155.out) | exact HB.out))) : w.heap.size ≤ gb170)); have n7_ := Aside0.mk ((by rw [hg]; exact Nat.ne_of_lt (blk_lt (g := gb155) (o := .cells #[.string a1_0, .int .i64 a1_1, .int .i64 a1_2, .int .i64 a1_3, .int .i64 a1_4, .int .i64 a1_5, .int .i64 a1_6, .string a1_7] 74 (0, 0)) (by (with_reducible repeat (first | refine blk_drewN ?_ _ | refine blk_drew ?_ | refine blk_alloc ?_ _)); exact BK155.out)) : gb155 ≠ gb170)); have n8_ := Aside0.mk ((by rw [hg]; exact Nat.ne_of_gt (blk_lt (g := gb155) (o := .cells #[.string a1_0, .int .i64 a1_1, .int .i64 a1_2, .int .i64 a1_3, .int .i64 a1_4, .int .i64 a1_5, .int .i64 a1_6, .string a1_7] 74 (0, 0)) (by (with_reducible repeat (first | refine blk_drewN ?_ _ | refine blk_drew ?_ | refine blk_alloc ?_ _)); exact BK155.out)) : gb170 ≠ gb155)); clear HO_7; clear HO_8; clear BK155; clear HB; have HO_7 := n0_; have HO_8 := n1_; have BK155 := n2_; have HB := n3_; have BK170 := n4_; have GW170 := n5_; have GE170 := n6_; have NB155_170 := n7_; have NB170_155 := n8_; clear n0_ n1_ n2_ n3_ n4_ n5_ n6_ n7_ n8_; clear hb hbox hg; have hnb22 := NB170_155.out; have hnc22 := NB155_170.out; have hcz23_0 : w21.cell? ⟨gb170, 0, none⟩ = some (.string (⟨#[]⟩ : ByteArray)) := (blk_cell BK170.out 0).trans rfl; have hcz23_1 : w21.cell? ⟨gb170, 1, none⟩ = some (.int .i64 0) := (blk_cell BK170.out 1).trans rfl; have hcz23_2 : w21.cell? ⟨gb170, 2, none⟩ = some (.int .i64 0) := (blk_cell BK170.out 2).trans rfl; have hcz23_3 : w21.cell? ⟨gb170, 3, none⟩ = some (.int .i64 0) := (blk_cell BK170.out 3).trans rfl; have hcz23_4 : w21.cell? ⟨gb170, 4, none⟩ = some (.int .i64 0) := (blk_cell BK170.out 4).trans rfl; have hcz23_5 : w21.cell? ⟨gb170, 5, none⟩ = some (.int .i64 0) := (blk_cell BK170.out 5).trans rfl; have hcz23_6 : w21.cell? ⟨gb170, 6, none⟩ = some (.int .i64 0) := (blk_cell BK170.out 6).trans rfl; have hcz23_7 : w21.cell? ⟨gb170, 7, none⟩ = some (.string (⟨#[]⟩ : ByteArray)) := (blk_cell BK170.out 7).trans rfl; have hfz23_0 := blk_frozen BK170.out 0; have hfz23_1 := blk_frozen BK170.out 1; have hfz23_2 := blk_frozen BK170.out 2; have hfz23_3 := blk_frozen BK170.out 3; have hfz23_4 := blk_frozen BK170.out 4; have hfz23_5 := blk_frozen BK170.out 5; have hfz23_6 := blk_frozen BK170.out 6; have hfz23_7 := blk_frozen BK170.out 7) | ((with_reducible refine gate_callee (f := 178) rfl ?_); refine goesL_ (some 37) rfl rfl Tryz.func178 (by kernel_rfl) rfl #[.string ((rd_T74 y165 x30_1).f0)] rfl (by (try simp only [List.map_toArray, List.map_cons, List.map_nil]); first | done | rfl | (simp only [List.length_drop, List.length_take]; rfl)) ?_; (with_reducible refine (spec_l17Split.calls k1 ((rd_T74 y165 x30_1).f0) t171 t172 _ A20.out).mono ?_); rintro e w24 ⟨rfl, hb⟩; refine ⟨_, rfl, ?_⟩; have n0_ := Aside0.mk (Kd.R_below (by (with_reducible repeat (first | apply Kd.R_alloc | apply Kd.R_drewN | apply Kd.R_drew)); exact (Kd.R_mono (Kd.R_far (p := ⟨gb170, 7, none⟩) (Kd.R_far (p := ⟨gb170, 6, none⟩) (Kd.R_far (p := ⟨gb170, 5, none⟩) (Kd.R_far (p := ⟨gb170, 4, none⟩) (Kd.R_far (p := ⟨gb170, 3, none⟩) (Kd.R_far (p := ⟨gb170, 2, none⟩) (Kd.R_far (p := ⟨gb170, 1, none⟩) (Kd.R_far (p := ⟨gb170, 0, none⟩) (Kd.R_types HO_7.out BK170.out (by decide)) (fun _ hk => hk.2) (.string ((rd_T74 y165 x30_1).f0))) (fun _ hk => hk.2) (.int .i64 ((rd_T74 y165 x30_1).f1))) (fun _ hk => hk.2) (.int .i64 ((rd_T74 y165 x30_1).f2))) (fun _ hk => hk.2) (.int .i64 ((rd_T74 y165 x30_1).f3))) (fun _ hk => hk.2) (.int .i64 ((rd_T74 y165 x30_1).f4))) (fun _ hk => hk.2) (.int .i64 ((rd_T74 y165 x30_1).f5))) (fun _ hk => hk.2) (.int .i64 ((rd_T74 y165 x30_1).f6))) (fun _ hk => hk.2) (.string ((rd_T74 y165 x30_1).f7))) (fun _ h_ => h_.1))) hb); have n1_ := Aside0.mk (Kd.R_below (by (with_reducible repeat (first | apply Kd.R_alloc | apply Kd.R_drewN | apply Kd.R_drew)); exact (Kd.R_mono (Kd.R_far (p := ⟨gb170, 7, none⟩) (Kd.R_far (p := ⟨gb170, 6, none⟩) (Kd.R_far (p := ⟨gb170, 5, none⟩) (Kd.R_far (p := ⟨gb170, 4, none⟩) (Kd.R_far (p := ⟨gb170, 3, none⟩) (Kd.R_far (p := ⟨gb170, 2, none⟩) (Kd.R_far (p := ⟨gb170, 1, none⟩) (Kd.R_far (p := ⟨gb170, 0, none⟩) (Kd.R_types HO_8.out BK170.out (by decide)) (fun _ hk => hk.2) (.string ((rd_T74 y165 x30_1).f0))) (fun _ hk => hk.2) (.int .i64 ((rd_T74 y165 x30_1).f1))) (fun _ hk => hk.2) (.int .i64 ((rd_T74 y165 x30_1).f2))) (fun _ hk => hk.2) (.int .i64 ((rd_T74 y165 x30_1).f3))) (fun _ hk => hk.2) (.int .i64 ((rd_T74 y165 x30_1).f4))) (fun _ hk => hk.2) (.int .i64 ((rd_T74 y165 x30_1).f5))) (fun _ hk => hk.2) (.int .i64 ((rd_T74 y165 x30_1).f6))) (fun _ hk => hk.2) (.string ((rd_T74 y165 x30_1).f7))) (fun _ h_ => h_.1))) hb); have n2_ := Aside0.mk (blk_below (g := gb155) (o := .cells #[.string a1_0, .int .i64 a1_1, .int .i64 a1_2, .int .i64 a1_3, .int .i64 a1_4, .int .i64 a1_5, .int .i64 a1_6, .string a1_7] 74 (0, 0)) (by (with_reducible repeat (first | refine blk_drewN ?_ _ | refine blk_drew ?_ | refine blk_alloc ?_ _)); refine blk_far ?_ NB155_170.out _; (with_reducible repeat (first | refine blk_drewN ?_ _ | refine blk_drew ?_ | refine blk_alloc ?_ _)); refine blk_far ?_ NB155_170.out _; (with_reducible repeat (first | refine blk_drewN ?_ _ | refine blk_drew ?_ | refine blk_alloc ?_ _)); refine blk_far ?_ NB155_170.out _; (with_reducible repeat (first | refine blk_drewN ?_ _ | refine blk_drew ?_ | refine blk_alloc ?_ _)); refine blk_far ?_ NB155_170.out _; (with_reducible repeat (first | refine blk_drewN ?_ _ | refine blk_drew ?_ | refine blk_alloc ?_ _)); refine blk_far ?_ NB155_170.out _; (with_reducible repeat (first | refine blk_drewN ?_ _ | refine blk_drew ?_ | refine blk_alloc ?_ _)); refine blk_far ?_ NB155_170.out _; (with_reducible repeat (first | refine blk_drewN ?_ _ | refine blk_drew ?_ | refine blk_alloc ?_ _)); refine blk_far ?_ NB155_170.out _; (with_reducible repeat (first | refine blk_drewN ?_ _ | refine blk_drew ?_ | refine blk_alloc ?_ _)); refine blk_far ?_ NB155_170.out _; (with_reducible repeat (first | refine blk_drewN ?_ _ | refine blk_drew ?_ | refine blk_alloc ?_ _)); exact BK155.out) hb); have n3_ := Aside0.mk (blk_below (g := gb170) (o := .cells #[.string ((rd_T74 y165 x30_1).f0), .int .i64 ((rd_T74 y165 x30_1).f1), .int .i64 ((rd_T74 y165 x30_1).f2), .int .i64 ((rd_T74 y165 x30_1).f3), .int .i64 ((rd_T74 y165 x30_1).f4), .int .i64 ((rd_T74 y165 x30_1).f5), .int .i64 ((rd_T74 y165 x30_1).f6), .string ((rd_T74 y165 x30_1).f7)] 74 (0, 0)) (by (with_reducible repeat (first | refine blk_drewN ?_ _ | refine blk_drew ?_ | refine blk_alloc ?_ _)); refine blk_put (cs := #[.string ((rd_T74 y165 x30_1).f0), .int .i64 ((rd_T74 y165 x30_1).f1), .int .i64 ((rd_T74 y165 x30_1).f2), .int .i64 ((rd_T74 y165 x30_1).f3), .int .i64 ((rd_T74 y165 x30_1).f4), .int .i64 ((rd_T74 y165 x30_1).f5), .int .i64 ((rd_T74 y165 x30_1).f6), .string (⟨#[]⟩ : ByteArray)]) ?_ 7 _ rfl; (with_reducible repeat (first | refine blk_drewN ?_ _ | refine blk_drew ?_ | refine blk_alloc ?_ _)); refine blk_put (cs := #[.string ((rd_T74 y165 x30_1).f0), .int .i64 ((rd_T74 y165 x30_1).f1), .int .i64 ((rd_T74 y165 x30_1).f2), .int .i64 ((rd_T74 y165 x30_1).f3), .int .i64 ((rd_T74 y165 x30_1).f4), .int .i64 ((rd_T74 y165 x30_1).f5), .int .i64 0, .string (⟨#[]⟩ : ByteArray)]) ?_ 6 _ rfl; (with_reducible repeat (first | refine blk_drewN ?_ _ | refine blk_drew ?_ | refine blk_alloc ?_ _)); refine blk_put (cs := #[.string ((rd_T74 y165 x30_1).f0), .int .i64 ((rd_T74 y165 x30_1).f1), .int .i64 ((rd_T74 y165 x30_1).f2), .int .i64 ((rd_T74 y165 x30_1).f3), .int .i64 ((rd_T74 y165 x30_1).f4), .int .i64 0, .int .i64 0, .string (⟨#[]⟩ : ByteArray)]) ?_ 5 _ rfl; (with_reducible repeat (first | refine blk_drewN ?_ _ | refine blk_drew ?_ | refine blk_alloc ?_ _)); refine blk_put (cs := #[.string ((rd_T74 y165 x30_1).f0), .int .i64 ((rd_T74 y165 x30_1).f1), .int .i64 ((rd_T74 y165 x30_1).f2), .int .i64 ((rd_T74 y165 x30_1).f3), .int .i64 0, .int .i64 0, .int .i64 0, .string (⟨#[]⟩ : ByteArray)]) ?_ 4 _ rfl; (with_reducible repeat (first | refine blk_drewN ?_ _ | refine blk_drew ?_ | refine blk_alloc ?_ _)); refine blk_put (cs := #[.string ((rd_T74 y165 x30_1).f0), .int .i64 ((rd_T74 y165 x30_1).f1), .int .i64 ((rd_T74 y165 x30_1).f2), .int .i64 0, .int .i64 0, .int .i64 0, .int .i64 0, .string (⟨#[]⟩ : ByteArray)]) ?_ 3 _ rfl; (with_reducible repeat (first | refine blk_drewN ?_ _ | refine blk_drew ?_ | refine blk_alloc ?_ _)); refine blk_put (cs := #[.string ((rd_T74 y165 x30_1).f0), .int .i64 ((rd_T74 y165 x30_1).f1), .int .i64 0, .int .i64 0, .int .i64 0, .int .i64 0, .int .i64 0, .string (⟨#[]⟩ : ByteArray)]) ?_ 2 _ rfl; (with_reducible repeat (first | refine blk_drewN ?_ _ | refine blk_drew ?_ | refine blk_alloc ?_ _)); refine blk_put (cs := #[.string ((rd_T74 y165 x30_1).f0), .int .i64 0, .int .i64 0, .int .i64 0, .int .i64 0, .int .i64 0, .int .i64 0, .string (⟨#[]⟩ : ByteArray)]) ?_ 1 _ rfl; (with_reducible repeat (first | refine blk_drewN ?_ _ | refine blk_drew ?_ | refine blk_alloc ?_ _)); refine blk_put (cs := #[.string (⟨#[]⟩ : ByteArray), .int .i64 0, .int .i64 0, .int .i64 0, .int .i64 0, .int .i64 0, .int .i64 0, .string (⟨#[]⟩ : ByteArray)]) ?_ 0 _ rfl; (with_reducible repeat (first | refine blk_drewN ?_ _ | refine blk_drew ?_ | refine blk_alloc ?_ _)); exact BK170.out) hb); have n4_ := Aside0.mk (below_step (by repeat (first | (with_reducible first | exact HB.out | apply below_alloc | apply pw_below_drewN | apply below_drew1 | refine below_set ?_ GE155.out | refine below_set ?_ GE170.out) | exact HB.out)) hb); clear HO_7; clear HO_8; clear BK155; clear BK170; clear HB; have HO_7 := n0_; have HO_8 := n1_; have BK155 := n2_; have BK170 := n3_; have HB := n4_; clear n0_ n1_ n2_ n3_ n4_; (try clear hb); (try clear hb2); (try clear hk); (try clear hi)))
     go_loopg [7, 8] k1 (fun kq v7 v8 w' => ∃ (x7_2 : List ByteArray) (x8_2 : List ByteArray), Aside0 (spec_l17Next.l1 kq t157 t158 x7_2 x8_2 t171 t172 y165 (y165.length : Int) x30_1 ((rd_T74 y165 x30_1).f0) ((rd_T74 y165 x30_1).f1) ((rd_T74 y165 x30_1).f2) ((rd_T74 y165 x30_1).f3) ((rd_T74 y165 x30_1).f4) ((rd_T74 y165 x30_1).f5) ((rd_T74 y165 x30_1).f6) ((rd_T74 y165 x30_1).f7) = some r) ∧ Aside0 (kq ≤ k1) ∧ Aside0 (Kd.R Kd.string 9 w' w.heap.size (fun k_ => some k_ ≠ (v8 : Value).ownBlock) v7 x7_2) ∧ Aside0 (Kd.R Kd.string 9 w' w.heap.size (fun k_ => some k_ ≠ (v7 : Value).ownBlock) v8 x8_2) ∧ Aside0 (w'.heap[gb155]? = some (.cells #[.string a1_0, .int .i64 a1_1, .int .i64 a1_2, .int .i64 a1_3, .int .i64 a1_4, .int .i64 a1_5, .int .i64 a1_6, .string a1_7] 74 (0, 0))) ∧ Aside0 (w'.heap[gb170]? = some (.cells #[.string ((rd_T74 y165 x30_1).f0), .int .i64 ((rd_T74 y165 x30_1).f1), .int .i64 ((rd_T74 y165 x30_1).f2), .int .i64 ((rd_T74 y165 x30_1).f3), .int .i64 ((rd_T74 y165 x30_1).f4), .int .i64 ((rd_T74 y165 x30_1).f5), .int .i64 ((rd_T74 y165 x30_1).f6), .string ((rd_T74 y165 x30_1).f7)] 74 (0, 0))) ∧ Aside0 (Below w.heap.size w w'))
     case atStart => exact ⟨(x7_1), (x8_1), H', ⟨Nat.le_refl _⟩, ⟨by (with_reducible repeat (first | apply Kd.R_alloc | apply Kd.R_drewN | apply Kd.R_drew)); exact HO_7.out⟩, ⟨by (with_reducible repeat (first | apply Kd.R_alloc | apply Kd.R_drewN | apply Kd.R_drew)); exact HO_8.out⟩, ⟨by (with_reducible repeat (first | refine blk_drewN ?_ _ | refine blk_drew ?_ | refine blk_alloc ?_ _)); exact BK155.out⟩, ⟨by (with_reducible repeat (first | refine blk_drewN ?_ _ | refine blk_drew ?_ | refine blk_alloc ?_ _)); exact BK170.out⟩, ⟨by repeat (first | (with_reducible first | exact HB.out | apply below_alloc | apply pw_below_drewN | apply below_drew1 | refine below_set ?_ GE155.out | refine below_set ?_ GE170.out) | exact HB.out)⟩⟩
     case round =>
      clear H'
      (try clear c1);(try clear p1);(try clear q1);(try clear hx1);(try clear c2);(try clear p2);(try clear c4);(try clear c6);(try clear c6b0);(try clear c6b1);(try clear c12);(try clear c16);(try clear p16);(try clear q16);(try clear hx16);(try clear c17);(try clear c17b0);(try clear c18);(try clear c18b0);(try clear c19);(try clear c19b0);(try clear c22);(try clear hcz10_0);(try clear hcz10_1);(try clear hcz10_2);(try clear hcz10_3);(try clear hcz10_4);(try clear hcz10_5);(try clear hcz10_6);(try clear hcz10_7);(try clear hcz23_0);(try clear hcz23_1);(try clear hcz23_2);(try clear hcz23_3);(try clear hcz23_4);(try clear hcz23_5);(try clear hcz23_6);(try clear hcz23_7);(try clear hcz8_0);(try clear hcz8_1);(try clear hcz8_2);(try clear hcz8_3);(try clear hcz8_4);(try clear hcz8_5);(try clear hcz8_6);(try clear hcz8_7);(try clear hfz10_0);(try clear hfz10_1);(try clear hfz10_2);(try clear hfz10_3);(try clear hfz10_4);(try clear hfz10_5);(try clear hfz10_6);(try clear hfz10_7);(try clear hfz23_0);(try clear hfz23_1);(try clear hfz23_2);(try clear hfz23_3);(try clear hfz23_4);(try clear hfz23_5);(try clear hfz23_6);(try clear hfz23_7);(try clear hfz8_0);(try clear hfz8_1);(try clear hfz8_2);(try clear hfz8_3);(try clear hfz8_4);(try clear hfz8_5);(try clear hfz8_6);(try clear hfz8_7);(try clear hx169_0);(try clear hx169_1);(try clear hx169_2);(try clear hx169_3);(try clear hx169_4);(try clear hx169_5);(try clear hx169_6);(try clear hx169_7);(try clear p169);(try clear p2);(try clear q1);(try clear q16);(try clear q169)
      obtain ⟨x7_2, x8_2, HA, HK2, HO_7, HO_8, BK155, BK170, HB⟩ := hrel
      cases gk with
      | zero => exact absurd HA.out (by simp [spec_l17Next.l1])
      | succ k2 =>
       have H := HA.out
       clear HA
       simp only [spec_l17Next.l1] at H
       obtain ⟨ji25, hji25⟩ : ∃ j_ : Int, (wrap64 ((x7_2.length : Int) - 1)) = j_ := ⟨_, rfl⟩
       replace H : (if 0 ≤ (ji25) then (if (ji25) < (x7_2.length : Int) then (if (rdOf ByteArray.empty x7_2 (ji25)).toList = t171.toList then (if 0 ≤ (wrap64 ((x8_2.length : Int) - 1)) then (if (wrap64 ((x8_2.length : Int) - 1)) < (x8_2.length : Int) then ((some (x8_2.set ((wrap64 ((x8_2.length : Int) - 1)) : Int).toNat t172 : List ByteArray)).bind fun y174 => (if ((rd_T74 y165 x30_1).f1) = 2 then (if x7_2.length < 8796093022208 then (if y174.length < 8796093022208 then (spec_l17Next.l0 k2 t157 t158 (x7_2 ++ [((rd_T74 y165 x30_1).f0)]) (y174 ++ [(⟨#[]⟩ : ByteArray)]) y165 (y165.length : Int) (wrap64 (x30_1 + 1))) else (none)) else (none)) else (spec_l17Next.l0 k2 t157 t158 x7_2 y174 y165 (y165.length : Int) (wrap64 (x30_1 + 1))))) else (none)) else (none)) else (if (ji25) ≤ (x7_2.length : Int) then (if 0 ≤ (wrap64 ((x8_2.length : Int) - 1)) then (if (wrap64 ((x8_2.length : Int) - 1)) ≤ (x8_2.length : Int) then (spec_l17Next.l1 k2 t157 t158 (x7_2.take ((ji25) : Int).toNat) (x8_2.take ((wrap64 ((x8_2.length : Int) - 1)) : Int).toNat) t171 t172 y165 (y165.length : Int) x30_1 ((rd_T74 y165 x30_1).f0) ((rd_T74 y165 x30_1).f1) ((rd_T74 y165 x30_1).f2) ((rd_T74 y165 x30_1).f3) ((rd_T74 y165 x30_1).f4) ((rd_T74 y165 x30_1).f5) ((rd_T74 y165 x30_1).f6) ((rd_T74 y165 x30_1).f7)) else (none)) else (none)) else (none))) else (none)) else (none)) = some r := by first | (rw [hji25] at H; exact H) | (simp only [hji25] at H ⊢; exact H)
       have hji25w : (IntKind.i64.wrap ((x7_2.length : Int) - 1)) = ji25 := (i64_w _).trans hji25
       refine Or.elim (Classical.em (0 ≤ (ji25))) (fun c26 => ?_) (fun c26 => by rw [if_neg c26] at H; exact absurd H (by simp))
       rw [if_pos c26] at H
       have c26b0 : decide (0 ≤ (ji25)) = true := decide_eq_true c26
       clear c26
       refine Or.elim (Classical.em ((ji25) < (x7_2.length : Int))) (fun c27 => ?_) (fun c27 => by rw [if_neg c27] at H; exact absurd H (by simp))
       rw [if_pos c27] at H
       have c27b0 : decide ((ji25) < (x7_2.length : Int)) = true := decide_eq_true c27
       clear c27
       by_cases c28 : (rdOf ByteArray.empty x7_2 (ji25)).toList = t171.toList
       ·rw [if_pos c28] at H
        have c28b0 : ((rdOf ByteArray.empty x7_2 (ji25)).toList == t171.toList) = true := beq_iff_eq.mpr c28
        have c28b1 : ((rdOf ByteArray.empty x7_2 (ji25)).toList != t171.toList) = false := bne_eq_false_iff_eq.mpr c28
        clear c28
        obtain ⟨ji29, hji29⟩ : ∃ j_ : Int, (wrap64 ((x8_2.length : Int) - 1)) = j_ := ⟨_, rfl⟩
        replace H : (if 0 ≤ (ji29) then (if (ji29) < (x8_2.length : Int) then ((some (x8_2.set ((ji29) : Int).toNat t172 : List ByteArray)).bind fun y174 => (if ((rd_T74 y165 x30_1).f1) = 2 then (if x7_2.length < 8796093022208 then (if y174.length < 8796093022208 then (spec_l17Next.l0 k2 t157 t158 (x7_2 ++ [((rd_T74 y165 x30_1).f0)]) (y174 ++ [(⟨#[]⟩ : ByteArray)]) y165 (y165.length : Int) (wrap64 (x30_1 + 1))) else (none)) else (none)) else (spec_l17Next.l0 k2 t157 t158 x7_2 y174 y165 (y165.length : Int) (wrap64 (x30_1 + 1))))) else (none)) else (none)) = some r := by first | (rw [hji29] at H; exact H) | (simp only [hji29] at H ⊢; exact H)
        have hji29w : (IntKind.i64.wrap ((x8_2.length : Int) - 1)) = ji29 := (i64_w _).trans hji29
        refine Or.elim (Classical.em (0 ≤ (ji29))) (fun c30 => ?_) (fun c30 => by rw [if_neg c30] at H; exact absurd H (by simp))
        rw [if_pos c30] at H
        have c30b0 : decide (0 ≤ (ji29)) = true := decide_eq_true c30
        clear c30
        refine Or.elim (Classical.em ((ji29) < (x8_2.length : Int))) (fun c31 => ?_) (fun c31 => by rw [if_neg c31] at H; exact absurd H (by simp))
        rw [if_pos c31] at H
        have c31b0 : decide ((ji29) < (x8_2.length : Int)) = true := decide_eq_true c31
        clear c31
        obtain ⟨y174, hy174⟩ : ∃ y_ : List ByteArray, y_ = (x8_2.set ((ji29) : Int).toNat t172) := ⟨_, rfl⟩
        replace H : (if ((rd_T74 y165 x30_1).f1) = 2 then (if x7_2.length < 8796093022208 then (if y174.length < 8796093022208 then (spec_l17Next.l0 k2 t157 t158 (x7_2 ++ [((rd_T74 y165 x30_1).f0)]) (y174 ++ [(⟨#[]⟩ : ByteArray)]) y165 (y165.length : Int) (wrap64 (x30_1 + 1))) else (none)) else (none)) else (spec_l17Next.l0 k2 t157 t158 x7_2 y174 y165 (y165.length : Int) (wrap64 (x30_1 + 1)))) = some r := by first | (rw [hy174]; with_reducible exact H) | (have H2_ := (Option.bind_some _ _).symm.trans H; rw [hy174]; with_reducible exact H2_) | (have H2_ := (Option.bind_some _ _).symm.trans H; with_reducible exact H2_) | with_reducible exact H | (rw [hy174]; exact H) | exact H
        have Ny174 := Aside0.mk hy174
        clear hy174
        by_cases c33 : ((rd_T74 y165 x30_1).f1) = 2
        ·rw [if_pos c33] at H
         have c33b0 : (((rd_T74 y165 x30_1).f1) == 2) = true := beq_iff_eq.mpr c33
         have c33b1 : (((rd_T74 y165 x30_1).f1) != 2) = false := bne_eq_false_iff_eq.mpr c33
         clear c33
         refine Or.elim (Classical.em (x7_2.length < 8796093022208)) (fun c34 => ?_) (fun c34 => by rw [if_neg c34] at H; exact absurd H (by simp))
         rw [if_pos c34] at H
         have LMc34 := Aside0.mk c34
         clear c34
         obtain ⟨y175, hy175⟩ : ∃ y_ : List ByteArray, y_ = (x7_2 ++ [((rd_T74 y165 x30_1).f0)]) := ⟨_, rfl⟩
         replace H : (if y174.length < 8796093022208 then (spec_l17Next.l0 k2 t157 t158 y175 (y174 ++ [(⟨#[]⟩ : ByteArray)]) y165 (y165.length : Int) (wrap64 (x30_1 + 1))) else (none)) = some r := by first | (rw [hy175]; with_reducible exact H) | (have H2_ := (Option.bind_some _ _).symm.trans H; rw [hy175]; with_reducible exact H2_) | (have H2_ := (Option.bind_some _ _).symm.trans H; with_reducible exact H2_) | with_reducible exact H | (rw [hy175]; exact H) | exact H
         have Ny175 := Aside0.mk hy175
         clear hy175
         refine Or.elim (Classical.em (y174.length < 8796093022208)) (fun c35 => ?_) (fun c35 => by rw [if_neg c35] at H; exact absurd H (by simp))
         rw [if_pos c35] at H
         have LMc35 := Aside0.mk c35
         clear c35
         obtain ⟨y178, hy178⟩ : ∃ y_ : List ByteArray, y_ = (y174 ++ [(⟨#[]⟩ : ByteArray)]) := ⟨_, rfl⟩
         replace H : (spec_l17Next.l0 k2 t157 t158 y175 y178 y165 (y165.length : Int) (wrap64 (x30_1 + 1))) = some r := by first | (rw [hy178]; with_reducible exact H) | (have H2_ := (Option.bind_some _ _).symm.trans H; rw [hy178]; with_reducible exact H2_) | (have H2_ := (Option.bind_some _ _).symm.trans H; with_reducible exact H2_) | with_reducible exact H | (rw [hy178]; exact H) | exact H
         have Ny178 := Aside0.mk hy178
         clear hy178
         have H' := Aside0.mk H
         clear H
         obtain ⟨Ao36, co36, eo36⟩ := Kd.R_slice HO_7.out
         subst eo36
         have p173 : 0 ≤ ((ji25) : Int) := of_decide_eq_true (by first | (with_reducible assumption) | assumption)
         have q173 : (ji25) < (x7_2.length : Int) := of_decide_eq_true (by first | (with_reducible assumption) | assumption)
         obtain ⟨ad173, e173, hx173_0⟩ := Kd.at_string (Kd.R_reads' HO_7.out).2.2 (ji25) p173 q173
         cases e173
         replace p173 := eq_true p173
         replace q173 := eq_true q173
         obtain ⟨Ao37, co37, eo37⟩ := Kd.R_slice HO_8.out
         subst eo37
         have p32 : 0 ≤ ((ji29) : Int) := of_decide_eq_true (by first | (with_reducible assumption) | assumption)
         have q32 : ((ji29) : Int) < ((x8_2.length : Int) : Int) := of_decide_eq_true (by first | (with_reducible assumption) | assumption)
         obtain ⟨go32, co32, eo32, gb32, gl32, cl32, HG32⟩ := Kd.R_form HO_8.out (by omega)
         (first | cases eo32 | (injection eo32 with ea_ en_ ec_; (first | subst ea_ | (injection ea_ with ea_; subst ea_)); subst ec_; clear en_))
         have GB32 := Aside0.mk gb32
         have GG32 := Aside0.mk HG32
         clear gb32 gl32 HG32
         obtain ⟨hx32_0, hf32_0⟩ := Kd.R_celln (⟨#[]⟩ : ByteArray) HO_8.out ((ji29) : Int) p32 q32
         replace p32 := eq_true p32
         replace q32 := eq_true q32
         have HP38 := Kd.R_putg HO_8.out ((ji29) : Int) t172
         go_wp2_with (first | ((with_reducible refine gate_store (t := 9) (p := 63) rfl ?_); refine store_event (t := 9) (p := 63) (v := ?vo_w39) (w1 := (wr.setCell ⟨go32, ((ji29) : Int).toNat, none⟩ (.string t172))) ?hg ?ho ?hn ?hr ?_; (case ho => rfl); (case hg => rfl); (case hn => rfl); (case hr => first | (go_simp; done) | (go_simp; rfl)); intro w39 hw; have hg : wr.grownBy w39 (some go32) := (by rw [hw]; exact HP38.2); have hp_ : Kd.R Kd.string 9 w39 w.heap.size (fun k_ => some k_ ≠ (.slice (some ad173) x7_2.length co36 : Value).ownBlock) (.slice (some ⟨go32, 0, none⟩) x8_2.length co37) y174 := (by rw [hw, Ny174.out]; exact HP38.1); clear HP38; have n0_ := Aside0.mk (Kd.R_after (v := (.slice (some ⟨go32, 0, none⟩) x8_2.length co37)) (v1 := (.slice (some ⟨go32, 0, none⟩) x8_2.length co37)) (ok := (fun _ => True)) (by (with_reducible repeat (first | apply Kd.R_alloc | apply Kd.R_drewN | apply Kd.R_drew)); exact Kd.R_mono HO_7.out (fun _ hk => ⟨trivial, hk⟩)) hg (.inl rfl)); have n1_ := Aside0.mk (hp_); have n2_ := Aside0.mk (blk_grown (g := gb155) (o := .cells #[.string a1_0, .int .i64 a1_1, .int .i64 a1_2, .int .i64 a1_3, .int .i64 a1_4, .int .i64 a1_5, .int .i64 a1_6, .string a1_7] 74 (0, 0)) (by (with_reducible repeat (first | refine blk_drewN ?_ _ | refine blk_drew ?_ | refine blk_alloc ?_ _)); exact BK155.out) hg (Kd.R_ne HO_8.out BK155.out (by decide))); have n3_ := Aside0.mk (blk_grown (g := gb170) (o := .cells #[.string ((rd_T74 y165 x30_1).f0), .int .i64 ((rd_T74 y165 x30_1).f1), .int .i64 ((rd_T74 y165 x30_1).f2), .int .i64 ((rd_T74 y165 x30_1).f3), .int .i64 ((rd_T74 y165 x30_1).f4), .int .i64 ((rd_T74 y165 x30_1).f5), .int .i64 ((rd_T74 y165 x30_1).f6), .string ((rd_T74 y165 x30_1).f7)] 74 (0, 0)) (by (with_reducible repeat (first | refine blk_drewN ?_ _ | refine blk_drew ?_ | refine blk_alloc ?_ _)); exact BK170.out) hg (Kd.R_ne HO_8.out BK170.out (by decide))); have n4_ := Aside0.mk ((by rw [hw]; exact below_set (HB.out) GB32.out : Below w.heap.size w w39)); clear HO_7; clear HO_8; clear BK155; clear BK170; clear HB; have HO_7 := n0_; have HO_8 := n1_; have BK155 := n2_; have BK170 := n3_; have HB := n4_; clear n0_ n1_ n2_ n3_ n4_; clear hg hw hp_; have hnb40 := NB170_155.out; have hnc40 := NB155_170.out; have hcz41_0 : w39.cell? ⟨gb170, 0, none⟩ = some (.string ((rd_T74 y165 x30_1).f0)) := (blk_cell BK170.out 0).trans rfl; have hcz41_1 : w39.cell? ⟨gb170, 1, none⟩ = some (.int .i64 ((rd_T74 y165 x30_1).f1)) := (blk_cell BK170.out 1).trans rfl; have hcz41_2 : w39.cell? ⟨gb170, 2, none⟩ = some (.int .i64 ((rd_T74 y165 x30_1).f2)) := (blk_cell BK170.out 2).trans rfl; have hcz41_3 : w39.cell? ⟨gb170, 3, none⟩ = some (.int .i64 ((rd_T74 y165 x30_1).f3)) := (blk_cell BK170.out 3).trans rfl; have hcz41_4 : w39.cell? ⟨gb170, 4, none⟩ = some (.int .i64 ((rd_T74 y165 x30_1).f4)) := (blk_cell BK170.out 4).trans rfl; have hcz41_5 : w39.cell? ⟨gb170, 5, none⟩ = some (.int .i64 ((rd_T74 y165 x30_1).f5)) := (blk_cell BK170.out 5).trans rfl; have hcz41_6 : w39.cell? ⟨gb170, 6, none⟩ = some (.int .i64 ((rd_T74 y165 x30_1).f6)) := (blk_cell BK170.out 6).trans rfl; have hcz41_7 : w39.cell? ⟨gb170, 7, none⟩ = some (.string ((rd_T74 y165 x30_1).f7)) := (blk_cell BK170.out 7).trans rfl; have hfz41_0 := blk_frozen BK170.out 0; have hfz41_1 := blk_frozen BK170.out 1; have hfz41_2 := blk_frozen BK170.out 2; have hfz41_3 := blk_frozen BK170.out 3; have hfz41_4 := blk_frozen BK170.out 4; have hfz41_5 := blk_frozen BK170.out 5; have hfz41_6 := blk_frozen BK170.out 6; have hfz41_7 := blk_frozen BK170.out 7) | ((with_reducible refine gate_builtin (b := .append) (xs := #[.tmp 67, .tmp 70]) rfl ?_); at_builtin; refine Kd.R_append Kd.string (w0 := w) w.heap.size rfl (.tmp 67) (.tmp 70) 55 9 (.string ⟨#[]⟩) 16 rfl Tryz.underlying55 info9 rfl (by decide) (by omega) (.slice (some ad173) x7_2.length co36) x7_2 ((rd_T74 y165 x30_1).f0) [.string ((rd_T74 y165 x30_1).f0)] (fun k_ => some k_ ≠ (.slice (some ⟨go32, 0, none⟩) x8_2.length co37 : Value).ownBlock) (fun _ => False) rfl rfl ?aP (fun _ hk => hk.elim) ?aF ?aO ?aB ?aS ?aL ?_; (case aP => exact rfl); (case aB => exact (by repeat (first | (with_reducible first | exact HB.out | apply below_alloc | apply pw_below_drewN | apply below_drew1 | refine below_set ?_ GE155.out | refine below_set ?_ GE170.out) | exact HB.out))); (case aF => exact (fun k_ hk => Kd.fresh' (Kd.R_lt (by (with_reducible repeat (first | apply Kd.R_alloc | apply Kd.R_drewN | apply Kd.R_drew)); exact HO_8.out)) k_ hk)); (case aO => exact (by (with_reducible repeat (first | apply Kd.R_alloc | apply Kd.R_drewN | apply Kd.R_drew)); exact Kd.R_mono HO_7.out (fun _ hk => hk.2))); (case aS => exact (below_size (by repeat (first | (with_reducible first | exact HB.out | apply below_alloc | apply pw_below_drewN | apply below_drew1 | refine below_set ?_ GE155.out | refine below_set ?_ GE170.out) | exact HB.out)))); (case aL => have := LMc34.out; omega); intro v176 w42 ho hb hg hat; rw [← Ny175.out] at ho; have n0_ := Aside0.mk (Kd.R_after (ok := (fun _ => True)) (by (with_reducible repeat (first | apply Kd.R_alloc | apply Kd.R_drewN | apply Kd.R_drew)); exact Kd.R_mono HO_8.out (fun _ hk => ⟨trivial, hk⟩)) hg hat); have n1_ := Aside0.mk (blk_grown (g := gb155) (o := .cells #[.string a1_0, .int .i64 a1_1, .int .i64 a1_2, .int .i64 a1_3, .int .i64 a1_4, .int .i64 a1_5, .int .i64 a1_6, .string a1_7] 74 (0, 0)) (by (with_reducible repeat (first | refine blk_drewN ?_ _ | refine blk_drew ?_ | refine blk_alloc ?_ _)); exact BK155.out) hg (Kd.R_ne HO_7.out BK155.out (by decide))); have n2_ := Aside0.mk (blk_grown (g := gb170) (o := .cells #[.string ((rd_T74 y165 x30_1).f0), .int .i64 ((rd_T74 y165 x30_1).f1), .int .i64 ((rd_T74 y165 x30_1).f2), .int .i64 ((rd_T74 y165 x30_1).f3), .int .i64 ((rd_T74 y165 x30_1).f4), .int .i64 ((rd_T74 y165 x30_1).f5), .int .i64 ((rd_T74 y165 x30_1).f6), .string ((rd_T74 y165 x30_1).f7)] 74 (0, 0)) (by (with_reducible repeat (first | refine blk_drewN ?_ _ | refine blk_drew ?_ | refine blk_alloc ?_ _)); exact BK170.out) hg (Kd.R_ne HO_7.out BK170.out (by decide))); have n3_ := Aside0.mk (hb); have n4_ := Aside0.mk (ho); clear HO_8; clear BK155; clear BK170; clear HB; clear HO_7; have HO_8 := n0_; have BK155 := n1_; have BK170 := n2_; have HB := n3_; have HO177 := n4_; clear n0_ n1_ n2_ n3_ n4_; clear ho hb hg hat) | ((with_reducible refine gate_builtin (b := .append) (xs := #[.tmp 72, .tmp 73]) rfl ?_); at_builtin; refine Kd.R_append Kd.string (w0 := w) w.heap.size rfl (.tmp 72) (.tmp 73) 55 9 (.string ⟨#[]⟩) 16 rfl Tryz.underlying55 info9 rfl (by decide) (by omega) (.slice (some ⟨go32, 0, none⟩) x8_2.length co37) y174 (⟨#[]⟩ : ByteArray) [.string (⟨#[]⟩ : ByteArray)] (fun k_ => some k_ ≠ (v176 : Value).ownBlock) (fun _ => False) rfl rfl ?aP (fun _ hk => hk.elim) ?aF ?aO ?aB ?aS ?aL ?_; (case aP => exact rfl); (case aB => exact (by repeat (first | (with_reducible first | exact HB.out | apply below_alloc | apply pw_below_drewN | apply below_drew1 | refine below_set ?_ GE155.out | refine below_set ?_ GE170.out) | exact HB.out))); (case aF => exact (fun k_ hk => Kd.fresh' (Kd.R_lt (by (with_reducible repeat (first | apply Kd.R_alloc | apply Kd.R_drewN | apply Kd.R_drew)); exact HO177.out)) k_ hk)); (case aO => exact (by (with_reducible repeat (first | apply Kd.R_alloc | apply Kd.R_drewN | apply Kd.R_drew)); exact Kd.R_mono HO_8.out (fun _ hk => hk.2))); (case aS => exact (below_size (by repeat (first | (with_reducible first | exact HB.out | apply below_alloc | apply pw_below_drewN | apply below_drew1 | refine below_set ?_ GE155.out | refine below_set ?_ GE170.out) | exact HB.out)))); (case aL => have := LMc35.out; omega); intro v179 w43 ho hb hg hat; rw [← Ny178.out] at ho; have n0_ := Aside0.mk (blk_grown (g := gb155) (o := .cells #[.string a1_0, .int .i64 a1_1, .int .i64 a1_2, .int .i64 a1_3, .int .i64 a1_4, .int .i64 a1_5, .int .i64 a1_6, .string a1_7] 74 (0, 0)) (by (with_reducible repeat (first | refine blk_drewN ?_ _ | refine blk_drew ?_ | refine blk_alloc ?_ _)); exact BK155.out) hg (Kd.R_ne HO_8.out BK155.out (by decide))); have n1_ := Aside0.mk (blk_grown (g := gb170) (o := .cells #[.string ((rd_T74 y165 x30_1).f0), .int .i64 ((rd_T74 y165 x30_1).f1), .int .i64 ((rd_T74 y165 x30_1).f2), .int .i64 ((rd_T74 y165 x30_1).f3), .int .i64 ((rd_T74 y165 x30_1).f4), .int .i64 ((rd_T74 y165 x30_1).f5), .int .i64 ((rd_T74 y165 x30_1).f6), .string ((rd_T74 y165 x30_1).f7)] 74 (0, 0)) (by (with_reducible repeat (first | refine blk_drewN ?_ _ | refine blk_drew ?_ | refine blk_alloc ?_ _)); exact BK170.out) hg (Kd.R_ne HO_8.out BK170.out (by decide))); have n2_ := Aside0.mk (Kd.R_after (ok := (fun _ => True)) (by (with_reducible repeat (first | apply Kd.R_alloc | apply Kd.R_drewN | apply Kd.R_drew)); exact Kd.R_mono HO177.out (fun _ hk => ⟨trivial, hk⟩)) hg hat); have n3_ := Aside0.mk (hb); have n4_ := Aside0.mk (ho); clear BK155; clear BK170; clear HO177; clear HB; clear HO_8; have BK155 := n0_; have BK170 := n1_; have HO177 := n2_; have HB := n3_; have HO180 := n4_; clear n0_ n1_ n2_ n3_ n4_; clear ho hb hg hat))
         go_roundg k2
         case measure => have := HK1.out; have := HK2.out; omega
         case rel => exact ⟨(y175), (y178), (wrap64 (x30_1 + 1)), (by first | rfl | (simp; done) | (simp [*]; done)), H', ⟨by have := HK1.out; have := HK2.out; omega⟩, ⟨by (with_reducible repeat (first | apply Kd.R_alloc | apply Kd.R_drewN | apply Kd.R_drew)); exact Kd.R_mono HO177.out (fun _ hk => hk.2)⟩, ⟨by (with_reducible repeat (first | apply Kd.R_alloc | apply Kd.R_drewN | apply Kd.R_drew)); first | exact HO180.out | exact Kd.R_mono HO180.out (fun _ h_ => Gtr.ownlen h_)⟩, ⟨by (with_reducible repeat (first | refine blk_drewN ?_ _ | refine blk_drew ?_ | refine blk_alloc ?_ _)); exact BK155.out⟩, ⟨by repeat (first | (with_reducible first | exact HB.out | apply below_alloc | apply pw_below_drewN | apply below_drew1 | refine below_set ?_ GE155.out | refine below_set ?_ GE170.out) | exact HB.out)⟩⟩
        ·rw [if_neg c33] at H
         have c33b0 : (((rd_T74 y165 x30_1).f1) == 2) = false := beq_eq_false_iff_ne.mpr c33
         have c33b1 : (((rd_T74 y165 x30_1).f1) != 2) = true := bne_iff_ne.mpr c33
         have H' := Aside0.mk H
         clear H
         obtain ⟨Ao44, co44, eo44⟩ := Kd.R_slice HO_7.out
         subst eo44
         have p173 : 0 ≤ ((ji25) : Int) := of_decide_eq_true (by first | (with_reducible assumption) | assumption)
         have q173 : (ji25) < (x7_2.length : Int) := of_decide_eq_true (by first | (with_reducible assumption) | assumption)
         obtain ⟨ad173, e173, hx173_0⟩ := Kd.at_string (Kd.R_reads' HO_7.out).2.2 (ji25) p173 q173
         cases e173
         replace p173 := eq_true p173
         replace q173 := eq_true q173
         obtain ⟨Ao45, co45, eo45⟩ := Kd.R_slice HO_8.out
         subst eo45
         have p32 : 0 ≤ ((ji29) : Int) := of_decide_eq_true (by first | (with_reducible assumption) | assumption)
         have q32 : ((ji29) : Int) < ((x8_2.length : Int) : Int) := of_decide_eq_true (by first | (with_reducible assumption) | assumption)
         obtain ⟨go32, co32, eo32, gb32, gl32, cl32, HG32⟩ := Kd.R_form HO_8.out (by omega)
         (first | cases eo32 | (injection eo32 with ea_ en_ ec_; (first | subst ea_ | (injection ea_ with ea_; subst ea_)); subst ec_; clear en_))
         have GB32 := Aside0.mk gb32
         have GG32 := Aside0.mk HG32
         clear gb32 gl32 HG32
         obtain ⟨hx32_0, hf32_0⟩ := Kd.R_celln (⟨#[]⟩ : ByteArray) HO_8.out ((ji29) : Int) p32 q32
         replace p32 := eq_true p32
         replace q32 := eq_true q32
         have HP46 := Kd.R_putg HO_8.out ((ji29) : Int) t172
         go_wp2_with (first | ((with_reducible refine gate_store (t := 9) (p := 63) rfl ?_); refine store_event (t := 9) (p := 63) (v := ?vo_w47) (w1 := (wr.setCell ⟨go32, ((ji29) : Int).toNat, none⟩ (.string t172))) ?hg ?ho ?hn ?hr ?_; (case ho => rfl); (case hg => rfl); (case hn => rfl); (case hr => first | (go_simp; done) | (go_simp; rfl)); intro w47 hw; have hg : wr.grownBy w47 (some go32) := (by rw [hw]; exact HP46.2); have hp_ : Kd.R Kd.string 9 w47 w.heap.size (fun k_ => some k_ ≠ (.slice (some ad173) x7_2.length co44 : Value).ownBlock) (.slice (some ⟨go32, 0, none⟩) x8_2.length co45) y174 := (by rw [hw, Ny174.out]; exact HP46.1); clear HP46; have n0_ := Aside0.mk (Kd.R_after (v := (.slice (some ⟨go32, 0, none⟩) x8_2.length co45)) (v1 := (.slice (some ⟨go32, 0, none⟩) x8_2.length co45)) (ok := (fun _ => True)) (by (with_reducible repeat (first | apply Kd.R_alloc | apply Kd.R_drewN | apply Kd.R_drew)); exact Kd.R_mono HO_7.out (fun _ hk => ⟨trivial, hk⟩)) hg (.inl rfl)); have n1_ := Aside0.mk (hp_); have n2_ := Aside0.mk (blk_grown (g := gb155) (o := .cells #[.string a1_0, .int .i64 a1_1, .int .i64 a1_2, .int .i64 a1_3, .int .i64 a1_4, .int .i64 a1_5, .int .i64 a1_6, .string a1_7] 74 (0, 0)) (by (with_reducible repeat (first | refine blk_drewN ?_ _ | refine blk_drew ?_ | refine blk_alloc ?_ _)); exact BK155.out) hg (Kd.R_ne HO_8.out BK155.out (by decide))); have n3_ := Aside0.mk (blk_grown (g := gb170) (o := .cells #[.string ((rd_T74 y165 x30_1).f0), .int .i64 ((rd_T74 y165 x30_1).f1), .int .i64 ((rd_T74 y165 x30_1).f2), .int .i64 ((rd_T74 y165 x30_1).f3), .int .i64 ((rd_T74 y165 x30_1).f4), .int .i64 ((rd_T74 y165 x30_1).f5), .int .i64 ((rd_T74 y165 x30_1).f6), .string ((rd_T74 y165 x30_1).f7)] 74 (0, 0)) (by (with_reducible repeat (first | refine blk_drewN ?_ _ | refine blk_drew ?_ | refine blk_alloc ?_ _)); exact BK170.out) hg (Kd.R_ne HO_8.out BK170.out (by decide))); have n4_ := Aside0.mk ((by rw [hw]; exact below_set (HB.out) GB32.out : Below w.heap.size w w47)); clear HO_7; clear HO_8; clear BK155; clear BK170; clear HB; have HO_7 := n0_; have HO_8 := n1_; have BK155 := n2_; have BK170 := n3_; have HB := n4_; clear n0_ n1_ n2_ n3_ n4_; clear hg hw hp_; have hnb48 := NB170_155.out; have hnc48 := NB155_170.out; have hcz49_0 : w47.cell? ⟨gb170, 0, none⟩ = some (.string ((rd_T74 y165 x30_1).f0)) := (blk_cell BK170.out 0).trans rfl; have hcz49_1 : w47.cell? ⟨gb170, 1, none⟩ = some (.int .i64 ((rd_T74 y165 x30_1).f1)) := (blk_cell BK170.out 1).trans rfl; have hcz49_2 : w47.cell? ⟨gb170, 2, none⟩ = some (.int .i64 ((rd_T74 y165 x30_1).f2)) := (blk_cell BK170.out 2).trans rfl; have hcz49_3 : w47.cell? ⟨gb170, 3, none⟩ = some (.int .i64 ((rd_T74 y165 x30_1).f3)) := (blk_cell BK170.out 3).trans rfl; have hcz49_4 : w47.cell? ⟨gb170, 4, none⟩ = some (.int .i64 ((rd_T74 y165 x30_1).f4)) := (blk_cell BK170.out 4).trans rfl; have hcz49_5 : w47.cell? ⟨gb170, 5, none⟩ = some (.int .i64 ((rd_T74 y165 x30_1).f5)) := (blk_cell BK170.out 5).trans rfl; have hcz49_6 : w47.cell? ⟨gb170, 6, none⟩ = some (.int .i64 ((rd_T74 y165 x30_1).f6)) := (blk_cell BK170.out 6).trans rfl; have hcz49_7 : w47.cell? ⟨gb170, 7, none⟩ = some (.string ((rd_T74 y165 x30_1).f7)) := (blk_cell BK170.out 7).trans rfl; have hfz49_0 := blk_frozen BK170.out 0; have hfz49_1 := blk_frozen BK170.out 1; have hfz49_2 := blk_frozen BK170.out 2; have hfz49_3 := blk_frozen BK170.out 3; have hfz49_4 := blk_frozen BK170.out 4; have hfz49_5 := blk_frozen BK170.out 5; have hfz49_6 := blk_frozen BK170.out 6; have hfz49_7 := blk_frozen BK170.out 7))
         go_roundg k2
         case measure => have := HK1.out; have := HK2.out; omega
         case rel => exact ⟨(x7_2), (y174), (wrap64 (x30_1 + 1)), (by first | rfl | (simp; done) | (simp [*]; done)), H', ⟨by have := HK1.out; have := HK2.out; omega⟩, ⟨by (with_reducible repeat (first | apply Kd.R_alloc | apply Kd.R_drewN | apply Kd.R_drew)); exact Kd.R_mono HO_7.out (fun _ hk => hk.2)⟩, ⟨by (with_reducible repeat (first | apply Kd.R_alloc | apply Kd.R_drewN | apply Kd.R_drew)); exact HO_8.out⟩, ⟨by (with_reducible repeat (first | refine blk_drewN ?_ _ | refine blk_drew ?_ | refine blk_alloc ?_ _)); exact BK155.out⟩, ⟨by repeat (first | (with_reducible first | exact HB.out | apply below_alloc | apply pw_below_drewN | apply below_drew1 | refine below_set ?_ GE155.out | refine below_set ?_ GE170.out) | exact HB.out)⟩⟩
       ·rw [if_neg c28] at H
        have c28b0 : ((rdOf ByteArray.empty x7_2 (ji25)).toList == t171.toList) = false := beq_eq_false_iff_ne.mpr c28
        have c28b1 : ((rdOf ByteArray.empty x7_2 (ji25)).toList != t171.toList) = true := bne_iff_ne.mpr c28
        refine Or.elim (Classical.em ((ji25) ≤ (x7_2.length : Int))) (fun c50 => ?_) (fun c50 => by rw [if_neg c50] at H; exact absurd H (by simp))
        rw [if_pos c50] at H
        have c50b0 := eq_true c50
        have c50b1 : decide ((ji25) ≤ (x7_2.length : Int)) = true := decide_eq_true c50
        clear c50
        obtain ⟨y181, hy181⟩ : ∃ y_ : List ByteArray, y_ = (x7_2.take ((ji25) : Int).toNat) := ⟨_, rfl⟩
        replace H : (if 0 ≤ (wrap64 ((x8_2.length : Int) - 1)) then (if (wrap64 ((x8_2.length : Int) - 1)) ≤ (x8_2.length : Int) then (spec_l17Next.l1 k2 t157 t158 y181 (x8_2.take ((wrap64 ((x8_2.length : Int) - 1)) : Int).toNat) t171 t172 y165 (y165.length : Int) x30_1 ((rd_T74 y165 x30_1).f0) ((rd_T74 y165 x30_1).f1) ((rd_T74 y165 x30_1).f2) ((rd_T74 y165 x30_1).f3) ((rd_T74 y165 x30_1).f4) ((rd_T74 y165 x30_1).f5) ((rd_T74 y165 x30_1).f6) ((rd_T74 y165 x30_1).f7)) else (none)) else (none)) = some r := by first | (rw [hy181]; with_reducible exact H) | (have H2_ := (Option.bind_some _ _).symm.trans H; rw [hy181]; with_reducible exact H2_) | (have H2_ := (Option.bind_some _ _).symm.trans H; with_reducible exact H2_) | with_reducible exact H | (rw [hy181]; exact H) | exact H
        have Ny181 := Aside0.mk hy181
        clear hy181
        obtain ⟨ji51, hji51⟩ : ∃ j_ : Int, (wrap64 ((x8_2.length : Int) - 1)) = j_ := ⟨_, rfl⟩
        replace H : (if 0 ≤ (ji51) then (if (ji51) ≤ (x8_2.length : Int) then (spec_l17Next.l1 k2 t157 t158 y181 (x8_2.take ((ji51) : Int).toNat) t171 t172 y165 (y165.length : Int) x30_1 ((rd_T74 y165 x30_1).f0) ((rd_T74 y165 x30_1).f1) ((rd_T74 y165 x30_1).f2) ((rd_T74 y165 x30_1).f3) ((rd_T74 y165 x30_1).f4) ((rd_T74 y165 x30_1).f5) ((rd_T74 y165 x30_1).f6) ((rd_T74 y165 x30_1).f7)) else (none)) else (none)) = some r := by first | (rw [hji51] at H; exact H) | (simp only [hji51] at H ⊢; exact H)
        have hji51w : (IntKind.i64.wrap ((x8_2.length : Int) - 1)) = ji51 := (i64_w _).trans hji51
        refine Or.elim (Classical.em (0 ≤ (ji51))) (fun c52 => ?_) (fun c52 => by rw [if_neg c52] at H; exact absurd H (by simp))
        rw [if_pos c52] at H
        have c52b0 := eq_true c52
        have c52b1 : decide (0 ≤ (ji51)) = true := decide_eq_true c52
        clear c52
        refine Or.elim (Classical.em ((ji51) ≤ (x8_2.length : Int))) (fun c53 => ?_) (fun c53 => by rw [if_neg c53] at H; exact absurd H (by simp))
        rw [if_pos c53] at H
        have c53b0 := eq_true c53
        have c53b1 : decide ((ji51) ≤ (x8_2.length : Int)) = true := decide_eq_true c53
        clear c53
        obtain ⟨y184, hy184⟩ : ∃ y_ : List ByteArray, y_ = (x8_2.take ((ji51) : Int).toNat) := ⟨_, rfl⟩
        replace H : (spec_l17Next.l1 k2 t157 t158 y181 y184 t171 t172 y165 (y165.length : Int) x30_1 ((rd_T74 y165 x30_1).f0) ((rd_T74 y165 x30_1).f1) ((rd_T74 y165 x30_1).f2) ((rd_T74 y165 x30_1).f3) ((rd_T74 y165 x30_1).f4) ((rd_T74 y165 x30_1).f5) ((rd_T74 y165 x30_1).f6) ((rd_T74 y165 x30_1).f7)) = some r := by first | (rw [hy184]; with_reducible exact H) | (have H2_ := (Option.bind_some _ _).symm.trans H; rw [hy184]; with_reducible exact H2_) | (have H2_ := (Option.bind_some _ _).symm.trans H; with_reducible exact H2_) | with_reducible exact H | (rw [hy184]; exact H) | exact H
        have Ny184 := Aside0.mk hy184
        clear hy184
        have H' := Aside0.mk H
        clear H
        obtain ⟨Ao54, co54, eo54⟩ := Kd.R_slice HO_7.out
        subst eo54
        have p173 : 0 ≤ ((ji25) : Int) := of_decide_eq_true (by first | (with_reducible assumption) | assumption)
        have q173 : (ji25) < (x7_2.length : Int) := of_decide_eq_true (by first | (with_reducible assumption) | assumption)
        obtain ⟨ad173, e173, hx173_0⟩ := Kd.at_string (Kd.R_reads' HO_7.out).2.2 (ji25) p173 q173
        cases e173
        replace p173 := eq_true p173
        replace q173 := eq_true q173
        have q55 : ((ji25) : Int) ≤ ((x7_2.length : Int) : Int) := of_decide_eq_true (by first | (with_reducible assumption) | assumption)
        obtain ⟨i055, hi055, _, hsz55, _⟩ := info_parts info9
        have hcut55 := cut_to (P := Tryz.prog) 55 9 .i64 Tryz.underlying55 hi055 (some ad173) x7_2.length co54 (ji25) (of_decide_eq_true (by first | (with_reducible assumption) | assumption)) q55 (Kd.R_reads' HO_7.out).2.1
        have hr55 := Kd.R_take (m := ((ji25) : Int).toNat) HO_7.out (by omega)
        have hy55 : y181.length = ((ji25) : Int).toNat := (by rw [Ny181.out, List.length_take]; omega)
        rw [← Ny181.out] at hr55
        rw [← hy55] at hr55 hcut55
        clear hy55 hi055 hsz55 HO_7
        have HO183 := Aside0.mk hr55
        clear hr55
        replace q55 := eq_true q55
        obtain ⟨Ao56, co56, eo56⟩ := Kd.R_slice HO_8.out
        subst eo56
        have q57 : ((ji51) : Int) ≤ ((x8_2.length : Int) : Int) := of_decide_eq_true (by first | (with_reducible assumption) | assumption)
        obtain ⟨i057, hi057, _, hsz57, _⟩ := info_parts info9
        have hcut57 := cut_to (P := Tryz.prog) 55 9 .i64 Tryz.underlying55 hi057 Ao56 x8_2.length co56 (ji51) (of_decide_eq_true (by first | (with_reducible assumption) | assumption)) q57 (Kd.R_reads' HO_8.out).2.1
        have hr57 := Kd.R_take (m := ((ji51) : Int).toNat) HO_8.out (by omega)
        have hy57 : y184.length = ((ji51) : Int).toNat := (by rw [Ny184.out, List.length_take]; omega)
        rw [← Ny184.out] at hr57
        rw [← hy57] at hr57 hcut57
        clear hy57 hi057 hsz57 HO_8
        have HO186 := Aside0.mk hr57
        clear hr57
        replace q57 := eq_true q57
        go_wp2
        go_roundg k2
        case measure => have := HK1.out; have := HK2.out; omega
        case rel => exact ⟨(y181), (y184), H', ⟨by have := HK1.out; have := HK2.out; omega⟩, ⟨by (with_reducible repeat (first | apply Kd.R_alloc | apply Kd.R_drewN | apply Kd.R_drew)); first | exact HO183.out | exact Kd.R_mono HO183.out (fun _ h_ => Gtr.ownlen h_)⟩, ⟨by (with_reducible repeat (first | apply Kd.R_alloc | apply Kd.R_drewN | apply Kd.R_drew)); first | exact HO186.out | exact Kd.R_mono HO186.out (fun _ h_ => Gtr.ownlen h_)⟩, ⟨by (with_reducible repeat (first | refine blk_drewN ?_ _ | refine blk_drew ?_ | refine blk_alloc ?_ _)); exact BK155.out⟩, ⟨by (with_reducible repeat (first | refine blk_drewN ?_ _ | refine blk_drew ?_ | refine blk_alloc ?_ _)); exact BK170.out⟩, ⟨by repeat (first | (with_reducible first | exact HB.out | apply below_alloc | apply pw_below_drewN | apply below_drew1 | refine below_set ?_ GE155.out | refine below_set ?_ GE170.out) | exact HB.out)⟩⟩
    ·rw [if_neg c17] at H
     have c17b0 : decide (x30_1 < (y165.length : Int)) = false := decide_eq_false c17
     clear c17
     have H' := Aside0.mk H
     clear H
     obtain ⟨Ao58, co58, eo58⟩ := Kd.R_slice HO_7.out
     subst eo58
     go_wp2
     go_loopg [78] k1 (fun kq v78 w' => ∃ (x78_2 : Int), v78 = .int .i64 x78_2 ∧ Aside0 (spec_l17Next.l2 kq t157 t158 x8_1 x7_1 (x7_1.length : Int) x78_2 = some r) ∧ Aside0 (kq ≤ k1) ∧ Aside0 (Kd.R Kd.string 9 w' w.heap.size (fun k_ => some k_ ≠ ((.slice Ao58 x7_1.length co58) : Value).ownBlock) u8 x8_1) ∧ Aside0 (Kd.R Kd.string 9 w' w.heap.size (fun k_ => some k_ ≠ (u8 : Value).ownBlock) (.slice Ao58 x7_1.length co58) x7_1) ∧ Aside0 (w'.heap[gb155]? = some (.cells #[.string a1_0, .int .i64 a1_1, .int .i64 a1_2, .int .i64 a1_3, .int .i64 a1_4, .int .i64 a1_5, .int .i64 a1_6, .string a1_7] 74 (0, 0))) ∧ Aside0 (Below w.heap.size w w'))
     case atStart => exact ⟨(0), (by first | rfl | (simp; done) | (simp [*]; done)), H', ⟨Nat.le_refl _⟩, ⟨by (with_reducible repeat (first | apply Kd.R_alloc | apply Kd.R_drewN | apply Kd.R_drew)); exact HO_8.out⟩, ⟨by (with_reducible repeat (first | apply Kd.R_alloc | apply Kd.R_drewN | apply Kd.R_drew)); exact HO_7.out⟩, ⟨by (with_reducible repeat (first | refine blk_drewN ?_ _ | refine blk_drew ?_ | refine blk_alloc ?_ _)); exact BK155.out⟩, ⟨by repeat (first | (with_reducible first | exact HB.out | apply below_alloc | apply pw_below_drewN | apply below_drew1 | refine below_set ?_ GE155.out) | exact HB.out)⟩⟩
     case round =>
      clear H'
      (try clear c1);(try clear p1);(try clear q1);(try clear hx1);(try clear c2);(try clear p2);(try clear c3);(try clear p3);(try clear q3);(try clear hx3);(try clear hf3);(try clear c4);(try clear c5);(try clear q5);(try clear c6);(try clear c6b0);(try clear c6b1);(try clear p6);(try clear c12);(try clear c16);(try clear p16);(try clear q16);(try clear hx16);(try clear c17);(try clear c17b0);(try clear p17);(try clear q17);(try clear hx17);(try clear c18);(try clear c18b0);(try clear c19);(try clear c19b0);(try clear c22);(try clear c26);(try clear c26b0);(try clear c27);(try clear c27b0);(try clear c28);(try clear c28b0);(try clear c28b1);(try clear c30);(try clear c30b0);(try clear c31);(try clear c31b0);(try clear p32);(try clear q32);(try clear hx32);(try clear hf32);(try clear c33);(try clear c33b0);(try clear c33b1);(try clear c34);(try clear c35);(try clear c40);(try clear c48);(try clear c50);(try clear c50b0);(try clear c50b1);(try clear c52);(try clear c52b0);(try clear c52b1);(try clear c53);(try clear c53b0);(try clear c53b1);(try clear q55);(try clear q57);(try clear hcz10_0);(try clear hcz10_1);(try clear hcz10_2);(try clear hcz10_3);(try clear hcz10_4);(try clear hcz10_5);(try clear hcz10_6);(try clear hcz10_7);(try clear hcz23_0);(try clear hcz23_1);(try clear hcz23_2);(try clear hcz23_3);(try clear hcz23_4);(try clear hcz23_5);(try clear hcz23_6);(try clear hcz23_7);(try clear hcz41_0);(try clear hcz41_1);(try clear hcz41_2);(try clear hcz41_3);(try clear hcz41_4);(try clear hcz41_5);(try clear hcz41_6);(try clear hcz41_7);(try clear hcz49_0);(try clear hcz49_1);(try clear hcz49_2);(try clear hcz49_3);(try clear hcz49_4);(try clear hcz49_5);(try clear hcz49_6);(try clear hcz49_7);(try clear hcz8_0);(try clear hcz8_1);(try clear hcz8_2);(try clear hcz8_3);(try clear hcz8_4);(try clear hcz8_5);(try clear hcz8_6);(try clear hcz8_7);(try clear hfz10_0);(try clear hfz10_1);(try clear hfz10_2);(try clear hfz10_3);(try clear hfz10_4);(try clear hfz10_5);(try clear hfz10_6);(try clear hfz10_7);(try clear hfz23_0);(try clear hfz23_1);(try clear hfz23_2);(try clear hfz23_3);(try clear hfz23_4);(try clear hfz23_5);(try clear hfz23_6);(try clear hfz23_7);(try clear hfz41_0);(try clear hfz41_1);(try clear hfz41_2);(try clear hfz41_3);(try clear hfz41_4);(try clear hfz41_5);(try clear hfz41_6);(try clear hfz41_7);(try clear hfz49_0);(try clear hfz49_1);(try clear hfz49_2);(try clear hfz49_3);(try clear hfz49_4);(try clear hfz49_5);(try clear hfz49_6);(try clear hfz49_7);(try clear hfz8_0);(try clear hfz8_1);(try clear hfz8_2);(try clear hfz8_3);(try clear hfz8_4);(try clear hfz8_5);(try clear hfz8_6);(try clear hfz8_7);(try clear hx169_0);(try clear hx169_1);(try clear hx169_2);(try clear hx169_3);(try clear hx169_4);(try clear hx169_5);(try clear hx169_6);(try clear hx169_7);(try clear hx173_0);(try clear hx32_0);(try clear p1);(try clear p16);(try clear p169);(try clear p173);(try clear p2);(try clear p32);(try clear q1);(try clear q16);(try clear q169);(try clear q173);(try clear q32);(try clear q55);(try clear q57)
      obtain ⟨x78_2, rfl, HA, HK2, HO_8, HO_76, BK155, HB⟩ := hrel
      cases gk with
      | zero => exact absurd HA.out (by simp [spec_l17Next.l2])
      | succ k2 =>
       have H := HA.out
       clear HA
       simp only [spec_l17Next.l2] at H
       by_cases c59 : x78_2 < (x7_1.length : Int)
       ·rw [if_pos c59] at H
        have c59b0 : decide (x78_2 < (x7_1.length : Int)) = true := decide_eq_true c59
        clear c59
        refine Or.elim (Classical.em (0 ≤ x78_2)) (fun c60 => ?_) (fun c60 => by rw [if_neg c60] at H; exact absurd H (by simp))
        rw [if_pos c60] at H
        have c60b0 : decide (0 ≤ x78_2) = true := decide_eq_true c60
        clear c60
        refine Or.elim (Classical.em (x78_2 < (x7_1.length : Int))) (fun c61 => ?_) (fun c61 => by rw [if_neg c61] at H; exact absurd H (by simp))
        rw [if_pos c61] at H
        have c61b0 : decide (x78_2 < (x7_1.length : Int)) = true := decide_eq_true c61
        clear c61
        by_cases c62 : (rdOf ByteArray.empty x7_1 x78_2).toList = t157.toList
        ·rw [if_pos c62] at H
         have c62b0 : ((rdOf ByteArray.empty x7_1 x78_2).toList == t157.toList) = true := beq_iff_eq.mpr c62
         have c62b1 : ((rdOf ByteArray.empty x7_1 x78_2).toList != t157.toList) = false := bne_eq_false_iff_eq.mpr c62
         clear c62
         refine Or.elim (Classical.em (x78_2 < (x8_1.length : Int))) (fun c63 => ?_) (fun c63 => by rw [if_neg c63] at H; exact absurd H (by simp))
         rw [if_pos c63] at H
         have c63b0 : decide (x78_2 < (x8_1.length : Int)) = true := decide_eq_true c63
         clear c63
         obtain rfl := Option.some.inj H
         have p187 : 0 ≤ (x78_2 : Int) := of_decide_eq_true (by first | (with_reducible assumption) | assumption)
         have q187 : x78_2 < (x7_1.length : Int) := of_decide_eq_true (by first | (with_reducible assumption) | assumption)
         obtain ⟨ad187, e187, hx187_0⟩ := Kd.at_string (Kd.R_reads' HO_76.out).2.2 x78_2 p187 q187
         cases e187
         replace p187 := eq_true p187
         replace q187 := eq_true q187
         obtain ⟨Ao64, co64, eo64⟩ := Kd.R_slice HO_8.out
         subst eo64
         have p188 : 0 ≤ (x78_2 : Int) := of_decide_eq_true (by first | (with_reducible assumption) | assumption)
         have q188 : x78_2 < (x8_1.length : Int) := of_decide_eq_true (by first | (with_reducible assumption) | assumption)
         obtain ⟨ad188, e188, hx188_0⟩ := Kd.at_string (Kd.R_reads' HO_8.out).2.2 x78_2 p188 q188
         cases e188
         replace p188 := eq_true p188
         replace q188 := eq_true q188
         go_wp2
         go_ret
         exact ⟨by first | rfl | (simp [errW_none, errW_some] <;> rfl) | (simp [*, errW_none, errW_some] <;> rfl), by repeat (first | (with_reducible first | exact HB.out | apply below_alloc | apply pw_below_drewN | apply below_drew1 | refine below_set ?_ GE155.out) | exact HB.out)⟩
        ·rw [if_neg c62] at H
         have c62b0 : ((rdOf ByteArray.empty x7_1 x78_2).toList == t157.toList) = false := beq_eq_false_iff_ne.mpr c62
         have c62b1 : ((rdOf ByteArray.empty x7_1 x78_2).toList != t157.toList) = true := bne_iff_ne.mpr c62
         have H' := Aside0.mk H
         clear H
         have p187 : 0 ≤ (x78_2 : Int) := of_decide_eq_true (by first | (with_reducible assumption) | assumption)
         have q187 : x78_2 < (x7_1.length : Int) := of_decide_eq_true (by first | (with_reducible assumption) | assumption)
         obtain ⟨ad187, e187, hx187_0⟩ := Kd.at_string (Kd.R_reads' HO_76.out).2.2 x78_2 p187 q187
         cases e187
         replace p187 := eq_true p187
         replace q187 := eq_true q187
         go_wp2
         go_roundg k2
         case measure => have := HK1.out; have := HK2.out; omega
         case rel => exact ⟨(wrap64 (x78_2 + 1)), (by first | rfl | (simp; done) | (simp [*]; done)), H', ⟨by have := HK1.out; have := HK2.out; omega⟩, ⟨by (with_reducible repeat (first | apply Kd.R_alloc | apply Kd.R_drewN | apply Kd.R_drew)); exact HO_8.out⟩, ⟨by (with_reducible repeat (first | apply Kd.R_alloc | apply Kd.R_drewN | apply Kd.R_drew)); exact HO_76.out⟩, ⟨by (with_reducible repeat (first | refine blk_drewN ?_ _ | refine blk_drew ?_ | refine blk_alloc ?_ _)); exact BK155.out⟩, ⟨by repeat (first | (with_reducible first | exact HB.out | apply below_alloc | apply pw_below_drewN | apply below_drew1 | refine below_set ?_ GE155.out) | exact HB.out)⟩⟩
       ·rw [if_neg c59] at H
        have c59b0 : decide (x78_2 < (x7_1.length : Int)) = false := decide_eq_false c59
        clear c59
        obtain rfl := Option.some.inj H
        go_wp2
        go_ret
        exact ⟨by first | rfl | (simp [errW_none, errW_some] <;> rfl) | (simp [*, errW_none, errW_some] <;> rfl), by repeat (first | (with_reducible first | exact HB.out | apply below_alloc | apply pw_below_drewN | apply below_drew1 | refine below_set ?_ GE155.out) | exact HB.out)⟩
 ·replace c4 := Bool.eq_false_iff.mpr c4
  subst c4
  have H1 : (some false) = some r := by rw [if_neg (show ¬ (false = true) by decide)] at H; exact H
  clear H
  have H := H1
  clear H1
  obtain rfl := Option.some.inj H
  go_enter Tryz.func127, Tryz.ntmps127
  go_wp2_with (first | ((with_reducible refine gate_dst (N := 3) rfl ?_); refine box_event ?hg (N := 3) ?hd (cs := #[.string a1_0, .int .i64 a1_1, .int .i64 a1_2, .int .i64 a1_3, .int .i64 a1_4, .int .i64 a1_5, .int .i64 a1_6, .string a1_7]) (t := 74) ?hr ?_; (case hd => rfl); (case hg => rfl); (case hr => first | (go_simp; done) | (go_simp; rfl)); intro gb155 hg w65 hbox hb; have n0_ := Aside0.mk (below_step (by repeat (first | (with_reducible first | exact HB.out | apply below_alloc | apply pw_below_drewN | apply below_drew1) | exact HB.out)) hb); have n1_ := Aside0.mk (hbox); have n2_ := Aside0.mk ((by rw [hg]; exact (below_size (by repeat (first | (with_reducible first | exact HB.out | apply below_alloc | apply pw_below_drewN | apply below_drew1) | exact HB.out))) : w.heap.size ≤ gb155)); have n3_ := Aside0.mk ((by rw [hg]; exact (below_size (by repeat (first | (with_reducible first | exact HB.out | apply below_alloc | apply pw_below_drewN | apply below_drew1) | exact HB.out))) : w.heap.size ≤ gb155)); clear HB; have HB := n0_; have BK155 := n1_; have GW155 := n2_; have GE155 := n3_; clear n0_ n1_ n2_ n3_; clear hb hbox hg; have hcz66_0 : w65.cell? ⟨gb155, 0, none⟩ = some (.string a1_0) := (blk_cell BK155.out 0).trans rfl; have hcz66_1 : w65.cell? ⟨gb155, 1, none⟩ = some (.int .i64 a1_1) := (blk_cell BK155.out 1).trans rfl; have hcz66_2 : w65.cell? ⟨gb155, 2, none⟩ = some (.int .i64 a1_2) := (blk_cell BK155.out 2).trans rfl; have hcz66_3 : w65.cell? ⟨gb155, 3, none⟩ = some (.int .i64 a1_3) := (blk_cell BK155.out 3).trans rfl; have hcz66_4 : w65.cell? ⟨gb155, 4, none⟩ = some (.int .i64 a1_4) := (blk_cell BK155.out 4).trans rfl; have hcz66_5 : w65.cell? ⟨gb155, 5, none⟩ = some (.int .i64 a1_5) := (blk_cell BK155.out 5).trans rfl; have hcz66_6 : w65.cell? ⟨gb155, 6, none⟩ = some (.int .i64 a1_6) := (blk_cell BK155.out 6).trans rfl; have hcz66_7 : w65.cell? ⟨gb155, 7, none⟩ = some (.string a1_7) := (blk_cell BK155.out 7).trans rfl; have hfz66_0 := blk_frozen BK155.out 0; have hfz66_1 := blk_frozen BK155.out 1; have hfz66_2 := blk_frozen BK155.out 2; have hfz66_3 := blk_frozen BK155.out 3; have hfz66_4 := blk_frozen BK155.out 4; have hfz66_5 := blk_frozen BK155.out 5; have hfz66_6 := blk_frozen BK155.out 6; have hfz66_7 := blk_frozen BK155.out 7) | ((with_reducible refine gate_callee (f := 177) rfl ?_); refine goesL_ (some 17) rfl rfl Tryz.func177 (by kernel_rfl) rfl #[.string a1_0] rfl (by (try simp only [List.map_toArray, List.map_cons, List.map_nil]); first | done | rfl | (simp only [List.length_drop, List.length_take]; rfl)) ?_; (with_reducible refine (spec_l17Way.calls k a1_0 false _ A3.out).mono ?_); rintro e w67 ⟨rfl, hb⟩; refine ⟨_, rfl, ?_⟩; have n0_ := Aside0.mk (blk_below (g := gb155) (o := .cells #[.string a1_0, .int .i64 a1_1, .int .i64 a1_2, .int .i64 a1_3, .int .i64 a1_4, .int .i64 a1_5, .int .i64 a1_6, .string a1_7] 74 (0, 0)) (by (with_reducible repeat (first | refine blk_drewN ?_ _ | refine blk_drew ?_ | refine blk_alloc ?_ _)); exact BK155.out) hb); have n1_ := Aside0.mk (below_step (by repeat (first | (with_reducible first | exact HB.out | apply below_alloc | apply pw_below_drewN | apply below_drew1 | refine below_set ?_ GE155.out) | exact HB.out)) hb); clear BK155; clear HB; have BK155 := n0_; have HB := n1_; clear n0_ n1_; (try clear hb); (try clear hb2); (try clear hk); (try clear hi)))
  go_ret
  exact ⟨by first | rfl | (simp [errW_none, errW_some] <;> rfl) | (simp [*, errW_none, errW_some] <;> rfl), by repeat (first | (with_reducible first | exact HB.out | apply below_alloc | apply pw_below_drewN | apply below_drew1 | refine below_set ?_ GE155.out) | exact HB.out)⟩
end Go.Proofs.YthhmkbchdiflcaaGreatDoor.Q

-- Printed by a program of this session (wip/tools/myprint.py) that runs the kit's print, hand-proved functions among the others.
namespace Go.Proofs.YthhmkbchdiflcaaGreatDoor.Q
open Go.RowKit Go.Proofs.YthhmkbchdiflcaaGreatDoorW.PrintWords Go.Proofs.YthhmkbchdiflcaaGreatDoorW.PrintLast Go.Proofs.YthhmkbchdiflcaaGreatDoorW.PrintMore
attribute [local go_sem] max2_int min2_int max_two min_two max_three min_three max_four min_four   -- for this text's walks alone
set_option linter.unusedVariables false
set_option linter.unusedSimpArgs false

/-! ### spec_l1Mode: function 220 -/
def spec_l1Mode.f (a0 : Int) : Option (Bool) := (spec_l1In.f a0 0 511).bind fun t128 => (some t128)
set_option maxHeartbeats 8000000 in
set_option maxRecDepth 100000 in
theorem spec_l1Mode.calls (a0 : Int) (r : Bool) (w : World) (h : spec_l1Mode.f a0 = some r) :
  Calls Tryz.prog 220 #[.int .i64 a0] w fun e w' => e = .returned (.bool r) ∧ Drawn0 w w' := by
 have H : ((spec_l1In.f a0 0 511).bind fun t128 => (some t128)) = some r := h
 clear h
 replace H := Option.bind_eq_some_iff.mp H
 obtain ⟨t128, A20, H⟩ := H
 try dsimp only at H
 have A2 := Aside0.mk A20
 clear A20
 obtain rfl := Option.some.inj H
 go_enter Tryz.func220, Tryz.ntmps220
 go_wp2_with (first | ((with_reducible refine gate_callee (f := 108) rfl ?_); refine goesL_ (some 4) rfl rfl Tryz.func108 (by kernel_rfl) rfl #[.int .i64 a0, .int .i64 0, .int .i64 511] rfl (by (try simp only [List.map_toArray, List.map_cons, List.map_nil]); first | done | rfl | (simp only [List.length_drop, List.length_take]; rfl)) ?_; (with_reducible refine (spec_l1In.calls a0 0 511 t128 _ A2.out).mono ?_); rintro e w' ⟨rfl, ⟨nd, rfl⟩⟩; refine ⟨_, rfl, ?_⟩))
 go_ret
 exact ⟨by first | rfl | (simp; done) | (simp [*]; done), by repeat (first | exact Drawn0.refl _ | apply Drawn0.step)⟩
end Go.Proofs.YthhmkbchdiflcaaGreatDoor.Q

-- Printed by a program of this session (wip/tools/myprint.py) that runs the kit's print, hand-proved functions among the others.
namespace Go.Proofs.YthhmkbchdiflcaaGreatDoor.Q
open Go.RowKit Go.Proofs.YthhmkbchdiflcaaGreatDoorW.PrintWords Go.Proofs.YthhmkbchdiflcaaGreatDoorW.PrintLast Go.Proofs.YthhmkbchdiflcaaGreatDoorW.PrintMore
attribute [local go_sem] max2_int min2_int max_two min_two max_three min_three max_four min_four   -- for this text's walks alone
set_option linter.unusedVariables false
set_option linter.unusedSimpArgs false

/-! ### spec_l17Num: function 69 -/
mutual
def spec_l17Num.j0 : Nat → ByteArray → Bool → Option (Int)
 | 0, _, _ => none
 | k + 1, x0, x18 => if x18 = true then (some (-1)) else (spec_l17Num.l0 k x0 0 0)
def spec_l17Num.l0 : Nat → ByteArray → Int → Int → Option (Int)
 | 0, _, _, _ => none
 | k + 1, x0, x3, x4 => if x4 < (x0.size : Int) then (if 0 ≤ x4 then (if (bt x0 x4) < 48 then (some (-1)) else (if (bt x0 x4) > 57 then (some (-1)) else (spec_l17Num.l0 k x0 (wrap64 ((wrap64 (10 * x3)) + (((bt x0 x4) - 48) % 256))) (wrap64 (x4 + 1))))) else (none)) else (some x3)
end
def spec_l17Num.f (k : Nat) (a0 : ByteArray) : Option (Int) := (spec_l1In.f (a0.size : Int) 1 7).bind fun t327 => (if t327 = true then (if 0 < (a0.size : Int) then (if (bt a0 0) = 48 then (spec_l17Num.j0 k a0 (decide ((a0.size : Int) > 1))) else (spec_l17Num.j0 k a0 false)) else (none)) else (spec_l17Num.j0 k a0 true))
set_option maxHeartbeats 8000000 in
set_option maxRecDepth 100000 in
theorem spec_l17Num.calls (k : Nat) (a0 : ByteArray) (r : Int) (w : World) (h : spec_l17Num.f k a0 = some r) :
  Calls Tryz.prog 69 #[.string a0] w fun e w' => e = .returned (.int .i64 r) ∧ Drawn0 w w' := by
 have H : ((spec_l1In.f (a0.size : Int) 1 7).bind fun t327 => (if t327 = true then (if 0 < (a0.size : Int) then (if (bt a0 0) = 48 then (spec_l17Num.j0 k a0 (decide ((a0.size : Int) > 1))) else (spec_l17Num.j0 k a0 false)) else (none)) else (spec_l17Num.j0 k a0 true))) = some r := h
 clear h
 have HC2 := Aside0.mk H
 clear H
 go_enter Tryz.func69, Tryz.ntmps69
 go_upto_region 1 with (fail)
 go_cut [18] (fun v18 wc => ∃ (kq : Nat) (x18_1 : Bool), v18 = .bool x18_1 ∧ Aside0 (spec_l17Num.j0 kq a0 x18_1 = some r) ∧ Aside0 (kq ≤ k) ∧ Drawn0 w wc)
 case first =>
  have H := HC2.out
  clear HC2
  replace H := Option.bind_eq_some_iff.mp H
  obtain ⟨t327, A30, H⟩ := H
  try dsimp only at H
  have A3 := Aside0.mk A30
  clear A30
  by_cases c4 : t327 = true
  ·subst c4
   have H1 := H
   rw [if_pos rfl] at H1
   clear H
   have H := H1
   clear H1
   refine Or.elim (Classical.em (0 < (a0.size : Int))) (fun c5 => ?_) (fun c5 => by rw [if_neg c5] at H; exact absurd H (by simp))
   rw [if_pos c5] at H
   have c5b0 : decide (0 < (a0.size : Int)) = true := decide_eq_true c5
   have c5b1 : decide (0 < a0.size) = true := decide_eq_true (by omega)
   clear c5
   (first | rw [c5b0] | (simp only [i64_w, i32_w]; rw [c5b0]) | skip)
   by_cases c7 : (bt a0 0) = 48
   ·rw [if_pos c7] at H
    have c7b0 : ((bt a0 0) == 48) = true := beq_iff_eq.mpr c7
    have c7b1 : ((bt a0 0) != 48) = false := bne_eq_false_iff_eq.mpr c7
    clear c7
    have H' := Aside0.mk H
    clear H
    go_wp2_with (first | ((with_reducible refine gate_callee (f := 108) rfl ?_); refine goesL_ (some 7) rfl rfl Tryz.func108 (by kernel_rfl) rfl #[.int .i64 (a0.size : Int), .int .i64 1, .int .i64 7] rfl (by (try simp only [List.map_toArray, List.map_cons, List.map_nil]); first | done | rfl | (simp only [List.length_drop, List.length_take]; rfl)) ?_; (with_reducible refine (spec_l1In.calls (a0.size : Int) 1 7 true _ A3.out).mono ?_); rintro e w' ⟨rfl, ⟨nd, rfl⟩⟩; refine ⟨_, rfl, ?_⟩; have p6 : 0 ≤ (0 : Int) := (by omega); have q6 : 0 < a0.size := (by have : (0 : Int) < (a0.size : Int) := of_decide_eq_true (by first | (with_reducible assumption) | assumption); omega); have hx6 : ∀ h : 0 < a0.size, ((a0[0]'h).toNat : Int) = bt a0 0 := bt_at a0 0; clear p6; have qi6 : (0 < (a0.size : Int)) = True := eq_true (of_decide_eq_true (by first | (with_reducible assumption) | assumption)); replace q6 := eq_true q6))
    go_meet
    case rel => exact ⟨_, (decide ((a0.size : Int) > 1)), (by first | rfl | (simp; done) | (simp [*]; done)), H', ⟨by first | omega | exact Nat.le_refl _⟩, by repeat (first | exact Drawn0.refl _ | apply Drawn0.step)⟩
   ·rw [if_neg c7] at H
    have c7b0 : ((bt a0 0) == 48) = false := beq_eq_false_iff_ne.mpr c7
    have c7b1 : ((bt a0 0) != 48) = true := bne_iff_ne.mpr c7
    have H' := Aside0.mk H
    clear H
    go_wp2_with (first | ((with_reducible refine gate_callee (f := 108) rfl ?_); refine goesL_ (some 7) rfl rfl Tryz.func108 (by kernel_rfl) rfl #[.int .i64 (a0.size : Int), .int .i64 1, .int .i64 7] rfl (by (try simp only [List.map_toArray, List.map_cons, List.map_nil]); first | done | rfl | (simp only [List.length_drop, List.length_take]; rfl)) ?_; (with_reducible refine (spec_l1In.calls (a0.size : Int) 1 7 true _ A3.out).mono ?_); rintro e w' ⟨rfl, ⟨nd, rfl⟩⟩; refine ⟨_, rfl, ?_⟩; have p6 : 0 ≤ (0 : Int) := (by omega); have q6 : 0 < a0.size := (by have : (0 : Int) < (a0.size : Int) := of_decide_eq_true (by first | (with_reducible assumption) | assumption); omega); have hx6 : ∀ h : 0 < a0.size, ((a0[0]'h).toNat : Int) = bt a0 0 := bt_at a0 0; clear p6; have qi6 : (0 < (a0.size : Int)) = True := eq_true (of_decide_eq_true (by first | (with_reducible assumption) | assumption)); replace q6 := eq_true q6))
    go_meet
    case rel => exact ⟨_, (false), (by first | rfl | (simp; done) | (simp [*]; done)), H', ⟨by first | omega | exact Nat.le_refl _⟩, by repeat (first | exact Drawn0.refl _ | apply Drawn0.step)⟩
  ·replace c4 := Bool.eq_false_iff.mpr c4
   subst c4
   have H1 : (spec_l17Num.j0 k a0 true) = some r := by rw [if_neg (show ¬ (false = true) by decide)] at H; exact H
   clear H
   have H := H1
   clear H1
   have H' := Aside0.mk H
   clear H
   go_wp2_with (first | ((with_reducible refine gate_callee (f := 108) rfl ?_); refine goesL_ (some 7) rfl rfl Tryz.func108 (by kernel_rfl) rfl #[.int .i64 (a0.size : Int), .int .i64 1, .int .i64 7] rfl (by (try simp only [List.map_toArray, List.map_cons, List.map_nil]); first | done | rfl | (simp only [List.length_drop, List.length_take]; rfl)) ?_; (with_reducible refine (spec_l1In.calls (a0.size : Int) 1 7 false _ A3.out).mono ?_); rintro e w' ⟨rfl, ⟨nd, rfl⟩⟩; refine ⟨_, rfl, ?_⟩))
   go_meet
   case rel => exact ⟨_, (true), (by first | rfl | (simp; done) | (simp [*]; done)), H', ⟨by first | omega | exact Nat.le_refl _⟩, by repeat (first | exact Drawn0.refl _ | apply Drawn0.step)⟩
 case rest =>
  clear HC2
  (try clear c1);(try clear p2);(try clear c4);(try clear c5);(try clear c5b0);(try clear c5b1);(try clear c6);(try clear p6);(try clear q6);(try clear hx6);(try clear qi6);(try clear c7);(try clear c7b0);(try clear c7b1);(try clear p6);(try clear q6)
  obtain ⟨kq, x18_1, rfl, HA, HJ1, ⟨mc1, rfl⟩⟩ := hcut
  cases kq with
  | zero => exact absurd HA.out (by simp [spec_l17Num.j0])
  | succ kj1 =>
   have H := HA.out
   clear HA
   simp only [spec_l17Num.j0] at H
   by_cases c8 : x18_1 = true
   ·subst c8
    have H1 := H
    rw [if_pos rfl] at H1
    clear H
    have H := H1
    clear H1
    obtain rfl := Option.some.inj H
    go_wp2
    go_ret
    exact ⟨by first | rfl | (simp; done) | (simp [*]; done), by repeat (first | exact Drawn0.refl _ | apply Drawn0.step)⟩
   ·replace c8 := Bool.eq_false_iff.mpr c8
    subst c8
    have H1 : (spec_l17Num.l0 kj1 a0 0 0) = some r := by rw [if_neg (show ¬ (false = true) by decide)] at H; exact H
    clear H
    have H := H1
    clear H1
    have H' := Aside0.mk H
    clear H
    go_wp2
    go_loopg [3, 4] kj1 (fun kq v3 v4 w' => ∃ (x3_2 : Int) (x4_2 : Int), v3 = .int .i64 x3_2 ∧ v4 = .int .i64 x4_2 ∧ Aside0 (spec_l17Num.l0 kq a0 x3_2 x4_2 = some r) ∧ Aside0 (kq ≤ kj1) ∧ Drawn0 w w')
    case atStart => exact ⟨(0), (0), (by first | rfl | (simp; done) | (simp [*]; done)), (by first | rfl | (simp; done) | (simp [*]; done)), H', ⟨Nat.le_refl _⟩, by repeat (first | exact Drawn0.refl _ | apply Drawn0.step)⟩
    case round =>
     clear H'
     (try clear c1);(try clear p2);(try clear c4);(try clear c5);(try clear c5b0);(try clear c5b1);(try clear c6);(try clear p6);(try clear q6);(try clear hx6);(try clear qi6);(try clear c7);(try clear c7b0);(try clear c7b1);(try clear c8);(try clear p2);(try clear p6);(try clear q6)
     obtain ⟨x3_2, x4_2, rfl, rfl, HA, HK2, ⟨m2, rfl⟩⟩ := hrel
     cases gk with
     | zero => exact absurd HA.out (by simp [spec_l17Num.l0])
     | succ k2 =>
      have H := HA.out
      clear HA
      simp only [spec_l17Num.l0] at H
      by_cases c9 : x4_2 < (a0.size : Int)
      ·rw [if_pos c9] at H
       have c9b0 : decide (x4_2 < (a0.size : Int)) = true := decide_eq_true c9
       clear c9
       refine Or.elim (Classical.em (0 ≤ x4_2)) (fun c10 => ?_) (fun c10 => by rw [if_neg c10] at H; exact absurd H (by simp))
       rw [if_pos c10] at H
       have c10b0 : decide (0 ≤ x4_2) = true := decide_eq_true c10
       clear c10
       by_cases c12 : (bt a0 x4_2) < 48
       ·rw [if_pos c12] at H
        have c12b0 : decide ((bt a0 x4_2) < 48) = true := decide_eq_true c12
        clear c12
        obtain rfl := Option.some.inj H
        have p11 : 0 ≤ (x4_2 : Int) := of_decide_eq_true (by first | (with_reducible assumption) | assumption)
        have q11 : x4_2 < (a0.size : Int) := of_decide_eq_true (by first | (with_reducible assumption) | assumption)
        have hx11 := bt_at a0 x4_2
        replace p11 := eq_true p11
        replace q11 := eq_true q11
        go_wp2
        go_ret
        exact ⟨by first | rfl | (simp; done) | (simp [*]; done), by repeat (first | exact Drawn0.refl _ | apply Drawn0.step)⟩
       ·rw [if_neg c12] at H
        have c12b0 : decide ((bt a0 x4_2) < 48) = false := decide_eq_false c12
        clear c12
        by_cases c14 : (bt a0 x4_2) > 57
        ·rw [if_pos c14] at H
         have c14b0 : decide (57 < (bt a0 x4_2)) = true := decide_eq_true c14
         clear c14
         obtain rfl := Option.some.inj H
         have p11 : 0 ≤ (x4_2 : Int) := of_decide_eq_true (by first | (with_reducible assumption) | assumption)
         have q11 : x4_2 < (a0.size : Int) := of_decide_eq_true (by first | (with_reducible assumption) | assumption)
         have hx11 := bt_at a0 x4_2
         replace p11 := eq_true p11
         replace q11 := eq_true q11
         have p13 : 0 ≤ (x4_2 : Int) := of_decide_eq_true (by first | (with_reducible assumption) | assumption)
         have q13 : x4_2 < (a0.size : Int) := of_decide_eq_true (by first | (with_reducible assumption) | assumption)
         have hx13 := bt_at a0 x4_2
         replace p13 := eq_true p13
         replace q13 := eq_true q13
         go_wp2
         go_ret
         exact ⟨by first | rfl | (simp; done) | (simp [*]; done), by repeat (first | exact Drawn0.refl _ | apply Drawn0.step)⟩
        ·rw [if_neg c14] at H
         have c14b0 : decide (57 < (bt a0 x4_2)) = false := decide_eq_false c14
         clear c14
         have H' := Aside0.mk H
         clear H
         have p11 : 0 ≤ (x4_2 : Int) := of_decide_eq_true (by first | (with_reducible assumption) | assumption)
         have q11 : x4_2 < (a0.size : Int) := of_decide_eq_true (by first | (with_reducible assumption) | assumption)
         have hx11 := bt_at a0 x4_2
         replace p11 := eq_true p11
         replace q11 := eq_true q11
         have p13 : 0 ≤ (x4_2 : Int) := of_decide_eq_true (by first | (with_reducible assumption) | assumption)
         have q13 : x4_2 < (a0.size : Int) := of_decide_eq_true (by first | (with_reducible assumption) | assumption)
         have hx13 := bt_at a0 x4_2
         replace p13 := eq_true p13
         replace q13 := eq_true q13
         have p15 : 0 ≤ (x4_2 : Int) := of_decide_eq_true (by first | (with_reducible assumption) | assumption)
         have q15 : x4_2 < (a0.size : Int) := of_decide_eq_true (by first | (with_reducible assumption) | assumption)
         have hx15 := bt_at a0 x4_2
         replace p15 := eq_true p15
         replace q15 := eq_true q15
         go_wp2
         go_roundg k2
         case measure => have := HJ1.out; have := HK2.out; omega
         case rel => exact ⟨(wrap64 ((wrap64 (10 * x3_2)) + (((bt a0 x4_2) - 48) % 256))), (wrap64 (x4_2 + 1)), (by first | rfl | (simp; done) | (simp [*]; done)), (by first | rfl | (simp; done) | (simp [*]; done)), H', ⟨by have := HJ1.out; have := HK2.out; omega⟩, by repeat (first | exact Drawn0.refl _ | apply Drawn0.step)⟩
      ·rw [if_neg c9] at H
       have c9b0 : decide (x4_2 < (a0.size : Int)) = false := decide_eq_false c9
       clear c9
       obtain rfl := Option.some.inj H
       go_wp2
       go_ret
       exact ⟨by first | rfl | (simp; done) | (simp [*]; done), by repeat (first | exact Drawn0.refl _ | apply Drawn0.step)⟩
end Go.Proofs.YthhmkbchdiflcaaGreatDoor.Q

-- Printed by a program of this session (wip/tools/myprint.py) that runs the kit's print, hand-proved functions among the others.
namespace Go.Proofs.YthhmkbchdiflcaaGreatDoor.Q
open Go.RowKit Go.Proofs.YthhmkbchdiflcaaGreatDoorW.PrintWords Go.Proofs.YthhmkbchdiflcaaGreatDoorW.PrintLast Go.Proofs.YthhmkbchdiflcaaGreatDoorW.PrintMore
attribute [local go_sem] max2_int min2_int max_two min_two max_three min_three max_four min_four   -- for this text's walks alone
set_option linter.unusedVariables false
set_option linter.unusedSimpArgs false

/-! ### spec_l1All: function 70 -/
def spec_l1All.l0 : Nat → Int → Int → List Int → Int → Int → Option (Bool)
 | 0, _, _, _, _, _ => none
 | k + 1, x1, x2, x9, x10, x11 => if x11 < x10 then (if 0 ≤ x11 then (if x11 < (x9.length : Int) then ((spec_l1In.f (rd x9 x11) x1 x2).bind fun t329 => (if t329 = true then (spec_l1All.l0 k x1 x2 x9 x10 (wrap64 (x11 + 1))) else (some false))) else (none)) else (none)) else (some true)
def spec_l1All.f (k : Nat) (l0 : List Int) (a1 : Int) (a2 : Int) : Option (Bool) := spec_l1All.l0 k a1 a2 l0 (l0.length : Int) 0
set_option maxHeartbeats 8000000 in
set_option maxRecDepth 100000 in
theorem spec_l1All.calls (k : Nat) (A0 : Option Addr) (c0 : Nat) (l0 : List Int) (a1 : Int) (a2 : Int) (r : Bool) (w : World) (hr0 : Kd.C (Kd.int .i64) w A0 l0.length l0) (hc0 : l0.length ≤ c0) (h : spec_l1All.f k l0 a1 a2 = some r) :
  Calls Tryz.prog 70 #[.slice A0 l0.length c0, .int .i64 a1, .int .i64 a2] w fun e w' => e = .returned (.bool r) ∧ Drawn0 w w' := by
 have HR0 := Aside0.mk hr0
 have HC0 := Aside0.mk hc0
 clear hr0 hc0
 have H : (spec_l1All.l0 k a1 a2 l0 (l0.length : Int) 0) = some r := h
 clear h
 have H' := Aside0.mk H
 clear H
 go_enter Tryz.func70, Tryz.ntmps70
 go_wp2
 go_loopg [11] k (fun kq v11 w' => ∃ (x11_1 : Int), v11 = .int .i64 x11_1 ∧ Aside0 (spec_l1All.l0 kq a1 a2 l0 (l0.length : Int) x11_1 = some r) ∧ Aside0 (kq ≤ k) ∧ Drawn0 w w')
 case atStart => exact ⟨(0), (by first | rfl | (simp; done) | (simp [*]; done)), H', ⟨Nat.le_refl _⟩, by repeat (first | exact Drawn0.refl _ | apply Drawn0.step)⟩
 case round =>
  clear H'
  try clear p2
  obtain ⟨x11_1, rfl, HA, HK1, ⟨m1, rfl⟩⟩ := hrel
  cases gk with
  | zero => exact absurd HA.out (by simp [spec_l1All.l0])
  | succ k1 =>
   have H := HA.out
   clear HA
   simp only [spec_l1All.l0] at H
   by_cases c4 : x11_1 < (l0.length : Int)
   ·rw [if_pos c4] at H
    have c4b0 : decide (x11_1 < (l0.length : Int)) = true := decide_eq_true c4
    clear c4
    refine Or.elim (Classical.em (0 ≤ x11_1)) (fun c5 => ?_) (fun c5 => by rw [if_neg c5] at H; exact absurd H (by simp))
    rw [if_pos c5] at H
    have c5b0 : decide (0 ≤ x11_1) = true := decide_eq_true c5
    clear c5
    refine Or.elim (Classical.em (x11_1 < (l0.length : Int))) (fun c6 => ?_) (fun c6 => by rw [if_neg c6] at H; exact absurd H (by simp))
    rw [if_pos c6] at H
    have c6b0 : decide (x11_1 < (l0.length : Int)) = true := decide_eq_true c6
    clear c6
    replace H := Option.bind_eq_some_iff.mp H
    obtain ⟨t329, A70, H⟩ := H
    try dsimp only at H
    have A7 := Aside0.mk A70
    clear A70
    by_cases c8 : t329 = true
    ·subst c8
     have H1 := H
     rw [if_pos rfl] at H1
     clear H
     have H := H1
     clear H1
     have H' := Aside0.mk H
     clear H
     have p328 : 0 ≤ (x11_1 : Int) := of_decide_eq_true (by first | (with_reducible assumption) | assumption)
     have q328 : x11_1 < (l0.length : Int) := of_decide_eq_true (by first | (with_reducible assumption) | assumption)
     obtain ⟨ad328, e328, hx328_0⟩ := Kd.at_int HR0.out x11_1 p328 q328
     cases e328
     replace p328 := eq_true p328
     replace q328 := eq_true q328
     go_wp2_with (first | ((with_reducible refine gate_callee (f := 108) rfl ?_); refine goesL_ (some 18) rfl rfl Tryz.func108 (by kernel_rfl) rfl #[.int .i64 (rd l0 x11_1), .int .i64 a1, .int .i64 a2] rfl (by (try simp only [List.map_toArray, List.map_cons, List.map_nil]); first | done | rfl | (simp only [List.length_drop, List.length_take]; rfl)) ?_; (with_reducible refine (spec_l1In.calls (rd l0 x11_1) a1 a2 true _ A7.out).mono ?_); rintro e w' ⟨rfl, ⟨nd, rfl⟩⟩; refine ⟨_, rfl, ?_⟩))
     go_roundg k1
     case measure => have := HK1.out; omega
     case rel => exact ⟨(wrap64 (x11_1 + 1)), (by first | rfl | (simp; done) | (simp [*]; done)), H', ⟨by have := HK1.out; omega⟩, by repeat (first | exact Drawn0.refl _ | apply Drawn0.step)⟩
    ·replace c8 := Bool.eq_false_iff.mpr c8
     subst c8
     have H1 : (some false) = some r := by rw [if_neg (show ¬ (false = true) by decide)] at H; exact H
     clear H
     have H := H1
     clear H1
     obtain rfl := Option.some.inj H
     have p328 : 0 ≤ (x11_1 : Int) := of_decide_eq_true (by first | (with_reducible assumption) | assumption)
     have q328 : x11_1 < (l0.length : Int) := of_decide_eq_true (by first | (with_reducible assumption) | assumption)
     obtain ⟨ad328, e328, hx328_0⟩ := Kd.at_int HR0.out x11_1 p328 q328
     cases e328
     replace p328 := eq_true p328
     replace q328 := eq_true q328
     go_wp2_with (first | ((with_reducible refine gate_callee (f := 108) rfl ?_); refine goesL_ (some 18) rfl rfl Tryz.func108 (by kernel_rfl) rfl #[.int .i64 (rd l0 x11_1), .int .i64 a1, .int .i64 a2] rfl (by (try simp only [List.map_toArray, List.map_cons, List.map_nil]); first | done | rfl | (simp only [List.length_drop, List.length_take]; rfl)) ?_; (with_reducible refine (spec_l1In.calls (rd l0 x11_1) a1 a2 false _ A7.out).mono ?_); rintro e w' ⟨rfl, ⟨nd, rfl⟩⟩; refine ⟨_, rfl, ?_⟩))
     go_ret
     exact ⟨by first | rfl | (simp; done) | (simp [*]; done), by repeat (first | exact Drawn0.refl _ | apply Drawn0.step)⟩
   ·rw [if_neg c4] at H
    have c4b0 : decide (x11_1 < (l0.length : Int)) = false := decide_eq_false c4
    clear c4
    obtain rfl := Option.some.inj H
    go_wp2
    go_ret
    exact ⟨by first | rfl | (simp; done) | (simp [*]; done), by repeat (first | exact Drawn0.refl _ | apply Drawn0.step)⟩
end Go.Proofs.YthhmkbchdiflcaaGreatDoor.Q

-- Printed by a program of this session (wip/tools/myprint.py) that runs the kit's print, hand-proved functions among the others.
namespace Go.Proofs.YthhmkbchdiflcaaGreatDoor.Q
open Go.RowKit Go.Proofs.YthhmkbchdiflcaaGreatDoorW.PrintWords Go.Proofs.YthhmkbchdiflcaaGreatDoorW.PrintLast Go.Proofs.YthhmkbchdiflcaaGreatDoorW.PrintMore
attribute [local go_sem] max2_int min2_int max_two min_two max_three min_three max_four min_four   -- for this text's walks alone
set_option linter.unusedVariables false
set_option linter.unusedSimpArgs false

end Go.Proofs.YthhmkbchdiflcaaGreatDoor.Q

-- Printed by a program of this session (wip/tools/myprint.py) that runs the kit's print, hand-proved functions among the others.
namespace Go.Proofs.YthhmkbchdiflcaaGreatDoor.Q
open Go.RowKit Go.Proofs.YthhmkbchdiflcaaGreatDoorW.PrintWords Go.Proofs.YthhmkbchdiflcaaGreatDoorW.PrintLast Go.Proofs.YthhmkbchdiflcaaGreatDoorW.PrintMore
attribute [local go_sem] max2_int min2_int max_two min_two max_three min_three max_four min_four   -- for this text's walks alone
set_option linter.unusedVariables false
set_option linter.unusedSimpArgs false

end Go.Proofs.YthhmkbchdiflcaaGreatDoor.Q

-- Printed by a program of this session (wip/tools/myprint.py) that runs the kit's print, hand-proved functions among the others.
namespace Go.Proofs.YthhmkbchdiflcaaGreatDoor.Q
open Go.RowKit Go.Proofs.YthhmkbchdiflcaaGreatDoorW.PrintWords Go.Proofs.YthhmkbchdiflcaaGreatDoorW.PrintLast Go.Proofs.YthhmkbchdiflcaaGreatDoorW.PrintMore
attribute [local go_sem] max2_int min2_int max_two min_two max_three min_three max_four min_four   -- for this text's walks alone
set_option linter.unusedVariables false
set_option linter.unusedSimpArgs false

end Go.Proofs.YthhmkbchdiflcaaGreatDoor.Q

-- Printed by a program of this session (wip/tools/myprint.py) that runs the kit's print, hand-proved functions among the others.
namespace Go.Proofs.YthhmkbchdiflcaaGreatDoor.Q
open Go.RowKit Go.Proofs.YthhmkbchdiflcaaGreatDoorW.PrintWords Go.Proofs.YthhmkbchdiflcaaGreatDoorW.PrintLast Go.Proofs.YthhmkbchdiflcaaGreatDoorW.PrintMore
attribute [local go_sem] max2_int min2_int max_two min_two max_three min_three max_four min_four   -- for this text's walks alone
set_option linter.unusedVariables false
set_option linter.unusedSimpArgs false

end Go.Proofs.YthhmkbchdiflcaaGreatDoor.Q
