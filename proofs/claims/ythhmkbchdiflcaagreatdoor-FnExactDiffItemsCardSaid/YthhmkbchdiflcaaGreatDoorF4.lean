/- Texts of this claim, merged by a program (wip/tools/merge.py): Q43, Q36, Q37, Q2, Q49, Q59, Q60, Q61, Q56, Q46, Q47, Q68, Q50, Q51, Q52. -/
import Derived.Test.YthhmkbchdiflcaaGreatDoorF2
import Derived.Test.YthhmkbchdiflcaaGreatDoorF3
-- Printed by a program of this session (wip/tools/myprint.py) that runs the kit's print, hand-proved functions among the others.
namespace Go.Proofs.YthhmkbchdiflcaaGreatDoor.Q
open Go.RowKit Go.Proofs.YthhmkbchdiflcaaGreatDoorW.PrintWords Go.Proofs.YthhmkbchdiflcaaGreatDoorW.PrintLast Go.Proofs.YthhmkbchdiflcaaGreatDoorW.PrintMore
attribute [local go_sem] max2_int min2_int max_two min_two max_three min_three max_four min_four   -- for this text's walks alone
set_option linter.unusedVariables false
set_option linter.unusedSimpArgs false

/-! ### spec_l17Next: function 127 -/
mutual
def spec_l17Next.l0 : Nat → ByteArray → ByteArray → List ByteArray → List ByteArray → List (S74) → Int → Int → Option (Bool)
 | 0, _, _, _, _, _, _, _ => none
 | k + 1, x5, x6, x7, x8, x28, x29, x30 => if x30 < x29 then (if 0 ≤ x30 then (if x30 < (x28.length : Int) then ((spec_l17Split.f k ((rd_T74 x28 x30).f0)).bind fun bt207 => (spec_l17Next.l1 k x5 x6 x7 x8 bt207.1 bt207.2 x28 x29 x30 ((rd_T74 x28 x30).f0) ((rd_T74 x28 x30).f1) ((rd_T74 x28 x30).f2) ((rd_T74 x28 x30).f3) ((rd_T74 x28 x30).f4) ((rd_T74 x28 x30).f5) ((rd_T74 x28 x30).f6) ((rd_T74 x28 x30).f7))) else (none)) else (none)) else (spec_l17Next.l2 k x5 x6 x8 x7 (x7.length : Int) 0)
def spec_l17Next.l1 : Nat → ByteArray → ByteArray → List ByteArray → List ByteArray → ByteArray → ByteArray → List (S74) → Int → Int → ByteArray → Int → Int → Int → Int → Int → Int → ByteArray → Option (Bool)
 | 0, _, _, _, _, _, _, _, _, _, _, _, _, _, _, _, _, _ => none
 | k + 1, x5, x6, x7, x8, x11, x12, x28, x29, x30, x207000, x207001, x207002, x207003, x207004, x207005, x207006, x207007 => if 0 ≤ (wrap64 ((x7.length : Int) - 1)) then (if (wrap64 ((x7.length : Int) - 1)) < (x7.length : Int) then (if (rdOf ByteArray.empty x7 (wrap64 ((x7.length : Int) - 1))).toList = x11.toList then (if 0 ≤ (wrap64 ((x8.length : Int) - 1)) then (if (wrap64 ((x8.length : Int) - 1)) < (x8.length : Int) then ((some (x8.set ((wrap64 ((x8.length : Int) - 1)) : Int).toNat x12 : List ByteArray)).bind fun y210 => (if x207001 = 2 then (if x7.length < 8796093022208 then (if y210.length < 8796093022208 then (spec_l17Next.l0 k x5 x6 (x7 ++ [x207000]) (y210 ++ [(⟨#[]⟩ : ByteArray)]) x28 x29 (wrap64 (x30 + 1))) else (none)) else (none)) else (spec_l17Next.l0 k x5 x6 x7 y210 x28 x29 (wrap64 (x30 + 1))))) else (none)) else (none)) else (if (wrap64 ((x7.length : Int) - 1)) ≤ (x7.length : Int) then (if 0 ≤ (wrap64 ((x8.length : Int) - 1)) then (if (wrap64 ((x8.length : Int) - 1)) ≤ (x8.length : Int) then (spec_l17Next.l1 k x5 x6 (x7.take ((wrap64 ((x7.length : Int) - 1)) : Int).toNat) (x8.take ((wrap64 ((x8.length : Int) - 1)) : Int).toNat) x11 x12 x28 x29 x30 x207000 x207001 x207002 x207003 x207004 x207005 x207006 x207007) else (none)) else (none)) else (none))) else (none)) else (none)
def spec_l17Next.l2 : Nat → ByteArray → ByteArray → List ByteArray → List ByteArray → Int → Int → Option (Bool)
 | 0, _, _, _, _, _, _ => none
 | k + 1, x5, x6, x8, x76, x77, x78 => if x78 < x77 then (if 0 ≤ x78 then (if x78 < (x76.length : Int) then (if (rdOf ByteArray.empty x76 x78).toList = x5.toList then (if x78 < (x8.length : Int) then (some (Op.bytesLess ((rdOf ByteArray.empty x8 x78).toList) x6.toList)) else (none)) else (spec_l17Next.l2 k x5 x6 x8 x76 x77 (wrap64 (x78 + 1)))) else (none)) else (none)) else (some false)
end
def spec_l17Next.f (k : Nat) (l0 : List (S74)) (a1_0 : ByteArray) (a1_1 : Int) (a1_2 : Int) (a1_3 : Int) (a1_4 : Int) (a1_5 : Int) (a1_6 : Int) (a1_7 : ByteArray) : Option (Bool) := (spec_l17Way.f k a1_0).bind fun t192 => (if t192 = true then ((spec_l17Split.f k a1_0).bind fun bt193 => (if 1 ≤ (l0.length : Int) then ((some (l0.drop 1 : List (S74))).bind fun y201 => (spec_l17Next.l0 k bt193.1 bt193.2 (([(⟨#[46]⟩ : ByteArray)] : List ByteArray)) (([(⟨#[]⟩ : ByteArray)] : List ByteArray)) y201 (y201.length : Int) 0)) else (none))) else (some false))
set_option maxHeartbeats 8000000 in
set_option maxRecDepth 100000 in
theorem spec_l17Next.calls (k : Nat) (A0 : Option Addr) (c0 : Nat) (l0 : List (S74)) (a1_0 : ByteArray) (a1_1 : Int) (a1_2 : Int) (a1_3 : Int) (a1_4 : Int) (a1_5 : Int) (a1_6 : Int) (a1_7 : ByteArray) (r : Bool) (w : World) (hr0 : Kd.C k74 w A0 l0.length l0) (hc0 : l0.length ≤ c0) (h : spec_l17Next.f k l0 a1_0 a1_1 a1_2 a1_3 a1_4 a1_5 a1_6 a1_7 = some r) :
  Calls Tryz.prog 127 #[.slice A0 l0.length c0, .agg #[.string a1_0, .int .i64 a1_1, .int .i64 a1_2, .int .i64 a1_3, .int .i64 a1_4, .int .i64 a1_5, .int .i64 a1_6, .string a1_7]] w fun e w' => e = .returned (.bool r) ∧ Below w.heap.size w w' := by
 have hu74 := Tryz.underlying74
 have HR0 := Aside0.mk hr0
 have HC0 := Aside0.mk hc0
 clear hr0 hc0
 have HB := Aside0.mk (Below.refl w.heap.size w)
 have H : ((spec_l17Way.f k a1_0).bind fun t192 => (if t192 = true then ((spec_l17Split.f k a1_0).bind fun bt193 => (if 1 ≤ (l0.length : Int) then ((some (l0.drop 1 : List (S74))).bind fun y201 => (spec_l17Next.l0 k bt193.1 bt193.2 (([(⟨#[46]⟩ : ByteArray)] : List ByteArray)) (([(⟨#[]⟩ : ByteArray)] : List ByteArray)) y201 (y201.length : Int) 0)) else (none))) else (some false))) = some r := h
 clear h
 replace H := Option.bind_eq_some_iff.mp H
 obtain ⟨t192, A30, H⟩ := H
 replace H : (if t192 = true then ((spec_l17Split.f k a1_0).bind fun bt193 => (if 1 ≤ (l0.length : Int) then ((some (l0.drop 1 : List (S74))).bind fun y201 => (spec_l17Next.l0 k bt193.1 bt193.2 (([(⟨#[46]⟩ : ByteArray)] : List ByteArray)) (([(⟨#[]⟩ : ByteArray)] : List ByteArray)) y201 (y201.length : Int) 0)) else (none))) else (some false)) = some r := H
 have A3 := Aside0.mk A30
 clear A30
 by_cases c4 : t192 = true
 ·subst c4
  have H1 : ((spec_l17Split.f k a1_0).bind fun bt193 => (if 1 ≤ (l0.length : Int) then ((some (l0.drop 1 : List (S74))).bind fun y201 => (spec_l17Next.l0 k bt193.1 bt193.2 (([(⟨#[46]⟩ : ByteArray)] : List ByteArray)) (([(⟨#[]⟩ : ByteArray)] : List ByteArray)) y201 (y201.length : Int) 0)) else (none))) = some r := by rw [if_pos rfl] at H; exact H
  clear H
  have H := H1
  clear H1
  replace H := Option.bind_eq_some_iff.mp H
  obtain ⟨⟨t193, t194⟩, A50, H⟩ := H
  replace H : (if 1 ≤ (l0.length : Int) then ((some (l0.drop 1 : List (S74))).bind fun y201 => (spec_l17Next.l0 k t193 t194 (([(⟨#[46]⟩ : ByteArray)] : List ByteArray)) (([(⟨#[]⟩ : ByteArray)] : List ByteArray)) y201 (y201.length : Int) 0)) else (none)) = some r := H
  have A5 := Aside0.mk A50
  clear A50
  obtain ⟨y195, hy195⟩ : ∃ y_ : List ByteArray, y_ = (([(⟨#[46]⟩ : ByteArray)] : List ByteArray)) := ⟨_, rfl⟩
  replace H : (if 1 ≤ (l0.length : Int) then ((some (l0.drop 1 : List (S74))).bind fun y201 => (spec_l17Next.l0 k t193 t194 y195 (([(⟨#[]⟩ : ByteArray)] : List ByteArray)) y201 (y201.length : Int) 0)) else (none)) = some r := by first | (rw [hy195]; with_reducible exact H) | (have H2_ := (Option.bind_some _ _).symm.trans H; rw [hy195]; with_reducible exact H2_) | (have H2_ := (Option.bind_some _ _).symm.trans H; with_reducible exact H2_) | with_reducible exact H | (rw [hy195]; exact H) | exact H
  have Ny195 := Aside0.mk hy195
  clear hy195
  obtain ⟨y198, hy198⟩ : ∃ y_ : List ByteArray, y_ = (([(⟨#[]⟩ : ByteArray)] : List ByteArray)) := ⟨_, rfl⟩
  replace H : (if 1 ≤ (l0.length : Int) then ((some (l0.drop 1 : List (S74))).bind fun y201 => (spec_l17Next.l0 k t193 t194 y195 y198 y201 (y201.length : Int) 0)) else (none)) = some r := by first | (rw [hy198]; with_reducible exact H) | (have H2_ := (Option.bind_some _ _).symm.trans H; rw [hy198]; with_reducible exact H2_) | (have H2_ := (Option.bind_some _ _).symm.trans H; with_reducible exact H2_) | with_reducible exact H | (rw [hy198]; exact H) | exact H
  have Ny198 := Aside0.mk hy198
  clear hy198
  refine Or.elim (Classical.em (1 ≤ (l0.length : Int))) (fun c6 => ?_) (fun c6 => by rw [if_neg c6] at H; exact absurd H (by simp))
  rw [if_pos c6] at H
  have c6b0 := eq_true c6
  have c6b1 : decide (1 ≤ (l0.length : Int)) = true := decide_eq_true c6
  clear c6
  obtain ⟨y201, hy201⟩ : ∃ y_ : List (S74), y_ = (l0.drop 1) := ⟨_, rfl⟩
  replace H : (spec_l17Next.l0 k t193 t194 y195 y198 y201 (y201.length : Int) 0) = some r := by first | (rw [hy201]; with_reducible exact H) | (have H2_ := (Option.bind_some _ _).symm.trans H; rw [hy201]; with_reducible exact H2_) | (have H2_ := (Option.bind_some _ _).symm.trans H; with_reducible exact H2_) | with_reducible exact H | (rw [hy201]; exact H) | exact H
  have Ny201 := Aside0.mk hy201
  clear hy201
  have H' := Aside0.mk H
  clear H
  go_enter Tryz.func127, Tryz.ntmps127
  go_wp2_with (first | ((with_reducible refine gate_dst (N := 3) rfl ?_); refine box_event ?hg (N := 3) ?hd (cs := #[.string a1_0, .int .i64 a1_1, .int .i64 a1_2, .int .i64 a1_3, .int .i64 a1_4, .int .i64 a1_5, .int .i64 a1_6, .string a1_7]) (t := 74) ?hr ?_; (case hd => rfl); (case hg => rfl); (case hr => first | (go_simp; done) | (go_simp; rfl)); intro gb191 hg w7 hbox hb; have n0_ := Aside0.mk (below_step (by repeat (first | (with_reducible first | exact HB.out | apply below_alloc | apply pw_below_drewN | apply below_drew1) | exact HB.out)) hb); have n1_ := Aside0.mk (hbox); have n2_ := Aside0.mk ((by rw [hg]; exact (below_size (by repeat (first | (with_reducible first | exact HB.out | apply below_alloc | apply pw_below_drewN | apply below_drew1) | exact HB.out))) : w.heap.size ≤ gb191)); have n3_ := Aside0.mk ((by rw [hg]; exact (below_size (by repeat (first | (with_reducible first | exact HB.out | apply below_alloc | apply pw_below_drewN | apply below_drew1) | exact HB.out))) : w.heap.size ≤ gb191)); clear HB; have HB := n0_; have BK191 := n1_; have GW191 := n2_; have GE191 := n3_; clear n0_ n1_ n2_ n3_; clear hb hbox hg; have hcz8_0 : w7.cell? ⟨gb191, 0, none⟩ = some (.string a1_0) := (blk_cell BK191.out 0).trans rfl; have hcz8_1 : w7.cell? ⟨gb191, 1, none⟩ = some (.int .i64 a1_1) := (blk_cell BK191.out 1).trans rfl; have hcz8_2 : w7.cell? ⟨gb191, 2, none⟩ = some (.int .i64 a1_2) := (blk_cell BK191.out 2).trans rfl; have hcz8_3 : w7.cell? ⟨gb191, 3, none⟩ = some (.int .i64 a1_3) := (blk_cell BK191.out 3).trans rfl; have hcz8_4 : w7.cell? ⟨gb191, 4, none⟩ = some (.int .i64 a1_4) := (blk_cell BK191.out 4).trans rfl; have hcz8_5 : w7.cell? ⟨gb191, 5, none⟩ = some (.int .i64 a1_5) := (blk_cell BK191.out 5).trans rfl; have hcz8_6 : w7.cell? ⟨gb191, 6, none⟩ = some (.int .i64 a1_6) := (blk_cell BK191.out 6).trans rfl; have hcz8_7 : w7.cell? ⟨gb191, 7, none⟩ = some (.string a1_7) := (blk_cell BK191.out 7).trans rfl; have hfz8_0 := blk_frozen BK191.out 0; have hfz8_1 := blk_frozen BK191.out 1; have hfz8_2 := blk_frozen BK191.out 2; have hfz8_3 := blk_frozen BK191.out 3; have hfz8_4 := blk_frozen BK191.out 4; have hfz8_5 := blk_frozen BK191.out 5; have hfz8_6 := blk_frozen BK191.out 6; have hfz8_7 := blk_frozen BK191.out 7) | ((with_reducible refine gate_callee (f := 177) rfl ?_); refine goesL_ (some 17) rfl rfl Tryz.func177 (by kernel_rfl) rfl #[.string a1_0] rfl (by (try simp only [List.map_toArray, List.map_cons, List.map_nil]); first | done | rfl | (simp only [List.length_drop, List.length_take]; rfl)) ?_; (with_reducible refine (spec_l17Way.calls k a1_0 true _ A3.out).mono ?_); rintro e w9 ⟨rfl, hb⟩; refine ⟨_, rfl, ?_⟩; have n0_ := Aside0.mk (blk_below (g := gb191) (o := .cells #[.string a1_0, .int .i64 a1_1, .int .i64 a1_2, .int .i64 a1_3, .int .i64 a1_4, .int .i64 a1_5, .int .i64 a1_6, .string a1_7] 74 (0, 0)) (by (with_reducible repeat (first | refine blk_drewN ?_ _ | refine blk_drew ?_ | refine blk_alloc ?_ _)); exact BK191.out) hb); have n1_ := Aside0.mk (below_step (by repeat (first | (with_reducible first | exact HB.out | apply below_alloc | apply pw_below_drewN | apply below_drew1 | refine below_set ?_ GE191.out) | exact HB.out)) hb); clear BK191; clear HB; have BK191 := n0_; have HB := n1_; clear n0_ n1_; (try clear hb); (try clear hb2); (try clear hk); (try clear hi); have hcz10_0 : w9.cell? ⟨gb191, 0, none⟩ = some (.string a1_0) := (blk_cell BK191.out 0).trans rfl; have hcz10_1 : w9.cell? ⟨gb191, 1, none⟩ = some (.int .i64 a1_1) := (blk_cell BK191.out 1).trans rfl; have hcz10_2 : w9.cell? ⟨gb191, 2, none⟩ = some (.int .i64 a1_2) := (blk_cell BK191.out 2).trans rfl; have hcz10_3 : w9.cell? ⟨gb191, 3, none⟩ = some (.int .i64 a1_3) := (blk_cell BK191.out 3).trans rfl; have hcz10_4 : w9.cell? ⟨gb191, 4, none⟩ = some (.int .i64 a1_4) := (blk_cell BK191.out 4).trans rfl; have hcz10_5 : w9.cell? ⟨gb191, 5, none⟩ = some (.int .i64 a1_5) := (blk_cell BK191.out 5).trans rfl; have hcz10_6 : w9.cell? ⟨gb191, 6, none⟩ = some (.int .i64 a1_6) := (blk_cell BK191.out 6).trans rfl; have hcz10_7 : w9.cell? ⟨gb191, 7, none⟩ = some (.string a1_7) := (blk_cell BK191.out 7).trans rfl; have hfz10_0 := blk_frozen BK191.out 0; have hfz10_1 := blk_frozen BK191.out 1; have hfz10_2 := blk_frozen BK191.out 2; have hfz10_3 := blk_frozen BK191.out 3; have hfz10_4 := blk_frozen BK191.out 4; have hfz10_5 := blk_frozen BK191.out 5; have hfz10_6 := blk_frozen BK191.out 6; have hfz10_7 := blk_frozen BK191.out 7) | ((with_reducible refine gate_callee (f := 178) rfl ?_); refine goesL_ (some 22) rfl rfl Tryz.func178 (by kernel_rfl) rfl #[.string a1_0] rfl (by (try simp only [List.map_toArray, List.map_cons, List.map_nil]); first | done | rfl | (simp only [List.length_drop, List.length_take]; rfl)) ?_; (with_reducible refine (spec_l17Split.calls k a1_0 t193 t194 _ A5.out).mono ?_); rintro e w11 ⟨rfl, hb⟩; refine ⟨_, rfl, ?_⟩; have n0_ := Aside0.mk (blk_below (g := gb191) (o := .cells #[.string a1_0, .int .i64 a1_1, .int .i64 a1_2, .int .i64 a1_3, .int .i64 a1_4, .int .i64 a1_5, .int .i64 a1_6, .string a1_7] 74 (0, 0)) (by (with_reducible repeat (first | refine blk_drewN ?_ _ | refine blk_drew ?_ | refine blk_alloc ?_ _)); exact BK191.out) hb); have n1_ := Aside0.mk (below_step (by repeat (first | (with_reducible first | exact HB.out | apply below_alloc | apply pw_below_drewN | apply below_drew1 | refine below_set ?_ GE191.out) | exact HB.out)) hb); clear BK191; clear HB; have BK191 := n0_; have HB := n1_; clear n0_ n1_; (try clear hb); (try clear hb2); (try clear hk); (try clear hi)) | ((with_reducible refine gate_dst (N := 25) rfl ?_); refine Kd.R_lit Kd.string _ 9 ?hg (N := 25) ?hd (xs := ([(⟨#[46]⟩ : ByteArray)] : List ByteArray)) (inner := [.string (⟨#[46]⟩ : ByteArray)]) (ok := fun _ => True) (okp := fun _ => True) ?hr ?hp (fun _ hk => hk) trivial (Below.refl _ _) (Nat.le_refl _) (by simp) ?_; (case hd => rfl); (case hg => rfl); (case hr => first | (go_simp; done) | (go_simp; rfl)); (case hp => exact (Reps.one (show Kd.M Kd.string _ _ _ (⟨#[46]⟩ : ByteArray) [.string (⟨#[46]⟩ : ByteArray)] from rfl) (Reps.none _ _))); intro v196 w12 ho13 hb hg_ hnew_; clear hg_ hnew_; (first | rw [← Ny195.out] at ho13 | (simp only [Int.reduceToNat] at ho13; rw [← Ny195.out] at ho13)); have n0_ := Aside0.mk (Kd.R_lower ho13 (below_size (by repeat (first | (with_reducible first | exact HB.out | apply below_alloc | apply pw_below_drewN | apply below_drew1 | refine below_set ?_ GE191.out) | exact HB.out)))); have n1_ := Aside0.mk (blk_below (g := gb191) (o := .cells #[.string a1_0, .int .i64 a1_1, .int .i64 a1_2, .int .i64 a1_3, .int .i64 a1_4, .int .i64 a1_5, .int .i64 a1_6, .string a1_7] 74 (0, 0)) (by (with_reducible repeat (first | refine blk_drewN ?_ _ | refine blk_drew ?_ | refine blk_alloc ?_ _)); exact BK191.out) hb); have n2_ := Aside0.mk (below_step (by repeat (first | (with_reducible first | exact HB.out | apply below_alloc | apply pw_below_drewN | apply below_drew1 | refine below_set ?_ GE191.out) | exact HB.out)) hb); clear BK191; clear HB; have HO197 := n0_; have BK191 := n1_; have HB := n2_; clear n0_ n1_ n2_; clear hb ho13) | ((with_reducible refine gate_dst (N := 26) rfl ?_); refine Kd.R_lit Kd.string _ 9 ?hg (N := 26) ?hd (xs := ([(⟨#[]⟩ : ByteArray)] : List ByteArray)) (inner := [.string (⟨#[]⟩ : ByteArray)]) (ok := fun _ => True) (okp := fun _ => True) ?hr ?hp (fun _ hk => hk) trivial (Below.refl _ _) (Nat.le_refl _) (by simp) ?_; (case hd => rfl); (case hg => rfl); (case hr => first | (go_simp; done) | (go_simp; rfl)); (case hp => exact (Reps.one (show Kd.M Kd.string _ _ _ (⟨#[]⟩ : ByteArray) [.string (⟨#[]⟩ : ByteArray)] from rfl) (Reps.none _ _))); intro v199 w14 ho15 hb hg_ hnew_; clear hg_ hnew_; (first | rw [← Ny198.out] at ho15 | (simp only [Int.reduceToNat] at ho15; rw [← Ny198.out] at ho15)); have n0_ := Aside0.mk (Kd.R_elder' (by (with_reducible repeat (first | apply Kd.R_alloc | apply Kd.R_drewN | apply Kd.R_drew)); exact HO197.out) (Kd.R_base ho15) hb); have n1_ := Aside0.mk (Kd.R_lower (Kd.R_new' ho15 (Kd.R_lt (by (with_reducible repeat (first | apply Kd.R_alloc | apply Kd.R_drewN | apply Kd.R_drew)); exact HO197.out))) (below_size (by repeat (first | (with_reducible first | exact HB.out | apply below_alloc | apply pw_below_drewN | apply below_drew1 | refine below_set ?_ GE191.out) | exact HB.out)))); have n2_ := Aside0.mk (blk_below (g := gb191) (o := .cells #[.string a1_0, .int .i64 a1_1, .int .i64 a1_2, .int .i64 a1_3, .int .i64 a1_4, .int .i64 a1_5, .int .i64 a1_6, .string a1_7] 74 (0, 0)) (by (with_reducible repeat (first | refine blk_drewN ?_ _ | refine blk_drew ?_ | refine blk_alloc ?_ _)); exact BK191.out) hb); have n3_ := Aside0.mk (below_step (by repeat (first | (with_reducible first | exact HB.out | apply below_alloc | apply pw_below_drewN | apply below_drew1 | refine below_set ?_ GE191.out) | exact HB.out)) hb); clear HO197; clear BK191; clear HB; have HO197 := n0_; have HO200 := n1_; have BK191 := n2_; have HB := n3_; clear n0_ n1_ n2_ n3_; clear hb ho15; have q16 : (1 : Int) ≤ ((l0.length : Int) : Int) := of_decide_eq_true (by first | (with_reducible assumption) | assumption); obtain ⟨i016, hi016, _, hsz16, _⟩ := info_parts info74; have hroom16 : l0.length ≤ c0 := HC0.out; have hC16 : Kd.C k74 _ A0 l0.length l0 := HR0.out; have hcut16 := cut_from (P := Tryz.prog) 26 74 .i64 Tryz.underlying26 hi016 8 hsz16 A0 l0.length c0 1 (by omega) q16; have hr16 := Kd.C_drop (m := (1 : Int).toNat) (c := c0) hC16 (by omega) hroom16; obtain ⟨A16, hA16⟩ : ∃ A1, A1 = (if c0 = (1 : Int).toNat then A0 else (A0 : Option Addr).map (·.add ((1 : Int).toNat * 8))) := ⟨_, rfl⟩; obtain ⟨c16, hc16⟩ : ∃ c1, c1 = c0 - (1 : Int).toNat := ⟨_, rfl⟩; have hy16 : y201.length = l0.length - (1 : Int).toNat := (by rw [Ny201.out, List.length_drop] <;> omega); rw [show (l0).drop (1 : Int).toNat = y201 from Ny201.out.symm] at hr16; replace hr16 : Kd.C k74 _ A16 y201.length y201 := (by rw [hA16]; exact hr16); rw [← hy16, ← hA16, ← hc16] at hcut16; have HR204 := Aside0.mk hr16; have HC204 := Aside0.mk (show y201.length ≤ c16 from by rw [hy16, hc16]; exact Nat.sub_le_sub_right hroom16 _); clear hr16 hC16 hroom16 hi016 hsz16 hc16; have KY16 := Aside0.mk hy16; have KA16 := Aside0.mk hA16; clear hy16 hA16; replace q16 := eq_true q16))
  go_loopg [7, 8, 30] k (fun kq v7 v8 v30 w' => ∃ (x7_1 : List ByteArray) (x8_1 : List ByteArray) (x30_1 : Int), v30 = .int .i64 x30_1 ∧ Aside0 (spec_l17Next.l0 kq t193 t194 x7_1 x8_1 y201 (y201.length : Int) x30_1 = some r) ∧ Aside0 (kq ≤ k) ∧ Aside0 (Kd.R Kd.string 9 w' w.heap.size (fun k_ => some k_ ≠ (v8 : Value).ownBlock) v7 x7_1) ∧ Aside0 (Kd.R Kd.string 9 w' w.heap.size (fun k_ => some k_ ≠ (v7 : Value).ownBlock) v8 x8_1) ∧ Aside0 (w'.heap[gb191]? = some (.cells #[.string a1_0, .int .i64 a1_1, .int .i64 a1_2, .int .i64 a1_3, .int .i64 a1_4, .int .i64 a1_5, .int .i64 a1_6, .string a1_7] 74 (0, 0))) ∧ Aside0 (Below w.heap.size w w'))
  case atStart => exact ⟨(y195), (y198), (0), (by first | rfl | (simp; done) | (simp [*]; done)), H', ⟨Nat.le_refl _⟩, ⟨by (with_reducible repeat (first | apply Kd.R_alloc | apply Kd.R_drewN | apply Kd.R_drew)); exact Kd.R_mono HO197.out (fun _ hk => hk.2)⟩, ⟨by (with_reducible repeat (first | apply Kd.R_alloc | apply Kd.R_drewN | apply Kd.R_drew)); exact Kd.R_mono HO200.out (fun _ hk => hk.2)⟩, ⟨by (with_reducible repeat (first | refine blk_drewN ?_ _ | refine blk_drew ?_ | refine blk_alloc ?_ _)); exact BK191.out⟩, ⟨by repeat (first | (with_reducible first | exact HB.out | apply below_alloc | apply pw_below_drewN | apply below_drew1 | refine below_set ?_ GE191.out) | exact HB.out)⟩⟩
  case round =>
   clear H'
   (try clear c1);(try clear q1);(try clear p2);(try clear c4);(try clear c6);(try clear c6b0);(try clear c6b1);(try clear c12);(try clear c16);(try clear q16);(try clear hcz10_0);(try clear hcz10_1);(try clear hcz10_2);(try clear hcz10_3);(try clear hcz10_4);(try clear hcz10_5);(try clear hcz10_6);(try clear hcz10_7);(try clear hcz8_0);(try clear hcz8_1);(try clear hcz8_2);(try clear hcz8_3);(try clear hcz8_4);(try clear hcz8_5);(try clear hcz8_6);(try clear hcz8_7);(try clear hfz10_0);(try clear hfz10_1);(try clear hfz10_2);(try clear hfz10_3);(try clear hfz10_4);(try clear hfz10_5);(try clear hfz10_6);(try clear hfz10_7);(try clear hfz8_0);(try clear hfz8_1);(try clear hfz8_2);(try clear hfz8_3);(try clear hfz8_4);(try clear hfz8_5);(try clear hfz8_6);(try clear hfz8_7);(try clear q16)
   obtain ⟨x7_1, x8_1, x30_1, rfl, HA, HK1, HO_7, HO_8, BK191, HB⟩ := hrel
   cases gk with
   | zero => exact absurd HA.out (by simp [spec_l17Next.l0])
   | succ k1 =>
    have H := HA.out
    clear HA
    simp only [spec_l17Next.l0] at H
    by_cases c17 : x30_1 < (y201.length : Int)
    ·rw [if_pos c17] at H
     have c17b0 : decide (x30_1 < (y201.length : Int)) = true := decide_eq_true c17
     clear c17
     refine Or.elim (Classical.em (0 ≤ x30_1)) (fun c18 => ?_) (fun c18 => by rw [if_neg c18] at H; exact absurd H (by simp))
     rw [if_pos c18] at H
     have c18b0 : decide (0 ≤ x30_1) = true := decide_eq_true c18
     clear c18
     refine Or.elim (Classical.em (x30_1 < (y201.length : Int))) (fun c19 => ?_) (fun c19 => by rw [if_neg c19] at H; exact absurd H (by simp))
     rw [if_pos c19] at H
     have c19b0 : decide (x30_1 < (y201.length : Int)) = true := decide_eq_true c19
     clear c19
     replace H := Option.bind_eq_some_iff.mp H
     obtain ⟨⟨t207, t208⟩, A200, H⟩ := H
     replace H : (spec_l17Next.l1 k1 t193 t194 x7_1 x8_1 t207 t208 y201 (y201.length : Int) x30_1 ((rd_T74 y201 x30_1).f0) ((rd_T74 y201 x30_1).f1) ((rd_T74 y201 x30_1).f2) ((rd_T74 y201 x30_1).f3) ((rd_T74 y201 x30_1).f4) ((rd_T74 y201 x30_1).f5) ((rd_T74 y201 x30_1).f6) ((rd_T74 y201 x30_1).f7)) = some r := H
     have A20 := Aside0.mk A200
     clear A200
     have H' := Aside0.mk H
     clear H
     have p205 : 0 ≤ (x30_1 : Int) := of_decide_eq_true (by first | (with_reducible assumption) | assumption)
     have q205 : x30_1 < (y201.length : Int) := of_decide_eq_true (by first | (with_reducible assumption) | assumption)
     obtain ⟨ad205, e205, hx205_0, hx205_1, hx205_2, hx205_3, hx205_4, hx205_5, hx205_6, hx205_7⟩ := at_T74 HR204.out x30_1 p205 q205
     cases e205
     replace hx205_0 := (HB.out.cell (World.block_lt_of_cell? w _ hx205_0)).trans hx205_0
     replace hx205_1 := (HB.out.cell (World.block_lt_of_cell? w _ hx205_1)).trans hx205_1
     replace hx205_2 := (HB.out.cell (World.block_lt_of_cell? w _ hx205_2)).trans hx205_2
     replace hx205_3 := (HB.out.cell (World.block_lt_of_cell? w _ hx205_3)).trans hx205_3
     replace hx205_4 := (HB.out.cell (World.block_lt_of_cell? w _ hx205_4)).trans hx205_4
     replace hx205_5 := (HB.out.cell (World.block_lt_of_cell? w _ hx205_5)).trans hx205_5
     replace hx205_6 := (HB.out.cell (World.block_lt_of_cell? w _ hx205_6)).trans hx205_6
     replace hx205_7 := (HB.out.cell (World.block_lt_of_cell? w _ hx205_7)).trans hx205_7
     replace p205 := eq_true p205
     replace q205 := eq_true q205
     go_wp2_with (first | ((with_reducible refine gate_dst (N := 10) rfl ?_); refine box_event ?hg (N := 10) ?hd (cs := #[.string (⟨#[]⟩ : ByteArray), .int .i64 0, .int .i64 0, .int .i64 0, .int .i64 0, .int .i64 0, .int .i64 0, .string (⟨#[]⟩ : ByteArray)]) (t := 74) ?hr ?_; (case hd => rfl); (case hg => rfl); (case hr => first | (go_simp; done) | (go_simp; rfl)); intro gb206 hg w21 hbox hb; have n0_ := Aside0.mk (Kd.R_below (by (with_reducible repeat (first | apply Kd.R_alloc | apply Kd.R_drewN | apply Kd.R_drew)); exact HO_7.out) hb); have n1_ := Aside0.mk (Kd.R_below (by (with_reducible repeat (first | apply Kd.R_alloc | apply Kd.R_drewN | apply Kd.R_drew)); exact HO_8.out) hb); have n2_ := Aside0.mk (blk_below (g := gb191) (o := .cells #[.string a1_0, .int .i64 a1_1, .int .i64 a1_2, .int .i64 a1_3, .int .i64 a1_4, .int .i64 a1_5, .int .i64 a1_6, .string a1_7] 74 (0, 0)) (by (with_reducible repeat (first | refine blk_drewN ?_ _ | refine blk_drew ?_ | refine blk_alloc ?_ _)); exact BK191.out) hb); have n3_ := Aside0.mk (below_step (by repeat (first | (with_reducible first | exact HB.out | apply below_alloc | apply pw_below_drewN | apply below_drew1 | refine below_set ?_ GE191.out) | exact HB.out)) hb); have n4_ := Aside0.mk (hbox); have n5_ := Aside0.mk ((by rw [hg]; exact (below_size (by repeat (first | (with_reducible first | exact HB.out | apply below_alloc | apply pw_below_drewN | apply below_drew1 | refine below_set ?_ GE191.out) | exact HB.out))) : w.heap.size ≤ gb206)); have n6_ := Aside0.mk ((by rw [hg]; exact (below_size (by repeat (first | (with_reducible first | exact HB.out | apply below_alloc | apply pw_below_drewN | apply below_drew1 | refine below_set ?_ GE191.out) | exact HB.out))) : w.heap.size ≤ gb206)); have n7_ := Aside0.mk ((by rw [hg]; exact Nat.ne_of_lt (blk_lt (g := gb191) (o := .cells #[.string a1_0, .int .i64 a1_1, .int .i64 a1_2, .int .i64 a1_3, .int .i64 a1_4, .int .i64 a1_5, .int .i64 a1_6, .string a1_7] 74 (0, 0)) (by (with_reducible repeat (first | refine blk_drewN ?_ _ | refine blk_drew ?_ | refine blk_alloc ?_ _)); exact BK191.out)) : gb191 ≠ gb206)); have n8_ := Aside0.mk ((by rw [hg]; exact Nat.ne_of_gt (blk_lt (g := gb191) (o := .cells #[.string a1_0, .int .i64 a1_1, .int .i64 a1_2, .int .i64 a1_3, .int .i64 a1_4, .int .i64 a1_5, .int .i64 a1_6, .string a1_7] 74 (0, 0)) (by (with_reducible repeat (first | refine blk_drewN ?_ _ | refine blk_drew ?_ | refine blk_alloc ?_ _)); exact BK191.out)) : gb206 ≠ gb191)); clear HO_7; clear HO_8; clear BK191; clear HB; have HO_7 := n0_; have HO_8 := n1_; have BK191 := n2_; have HB := n3_; have BK206 := n4_; have GW206 := n5_; have GE206 := n6_; have NB191_206 := n7_; have NB206_191 := n8_; clear n0_ n1_ n2_ n3_ n4_ n5_ n6_ n7_ n8_; clear hb hbox hg; have hnb22 := NB206_191.out; have hnc22 := NB191_206.out; have hcz23_0 : w21.cell? ⟨gb206, 0, none⟩ = some (.string (⟨#[]⟩ : ByteArray)) := (blk_cell BK206.out 0).trans rfl; have hcz23_1 : w21.cell? ⟨gb206, 1, none⟩ = some (.int .i64 0) := (blk_cell BK206.out 1).trans rfl; have hcz23_2 : w21.cell? ⟨gb206, 2, none⟩ = some (.int .i64 0) := (blk_cell BK206.out 2).trans rfl; have hcz23_3 : w21.cell? ⟨gb206, 3, none⟩ = some (.int .i64 0) := (blk_cell BK206.out 3).trans rfl; have hcz23_4 : w21.cell? ⟨gb206, 4, none⟩ = some (.int .i64 0) := (blk_cell BK206.out 4).trans rfl; have hcz23_5 : w21.cell? ⟨gb206, 5, none⟩ = some (.int .i64 0) := (blk_cell BK206.out 5).trans rfl; have hcz23_6 : w21.cell? ⟨gb206, 6, none⟩ = some (.int .i64 0) := (blk_cell BK206.out 6).trans rfl; have hcz23_7 : w21.cell? ⟨gb206, 7, none⟩ = some (.string (⟨#[]⟩ : ByteArray)) := (blk_cell BK206.out 7).trans rfl; have hfz23_0 := blk_frozen BK206.out 0; have hfz23_1 := blk_frozen BK206.out 1; have hfz23_2 := blk_frozen BK206.out 2; have hfz23_3 := blk_frozen BK206.out 3; have hfz23_4 := blk_frozen BK206.out 4; have hfz23_5 := blk_frozen BK206.out 5; have hfz23_6 := blk_frozen BK206.out 6; have hfz23_7 := blk_frozen BK206.out 7) | ((with_reducible refine gate_callee (f := 178) rfl ?_); refine goesL_ (some 37) rfl rfl Tryz.func178 (by kernel_rfl) rfl #[.string ((rd_T74 y201 x30_1).f0)] rfl (by (try simp only [List.map_toArray, List.map_cons, List.map_nil]); first | done | rfl | (simp only [List.length_drop, List.length_take]; rfl)) ?_; (with_reducible refine (spec_l17Split.calls k1 ((rd_T74 y201 x30_1).f0) t207 t208 _ A20.out).mono ?_); rintro e w24 ⟨rfl, hb⟩; refine ⟨_, rfl, ?_⟩; have n0_ := Aside0.mk (Kd.R_below (by (with_reducible repeat (first | apply Kd.R_alloc | apply Kd.R_drewN | apply Kd.R_drew)); exact (Kd.R_mono (Kd.R_far (p := ⟨gb206, 7, none⟩) (Kd.R_far (p := ⟨gb206, 6, none⟩) (Kd.R_far (p := ⟨gb206, 5, none⟩) (Kd.R_far (p := ⟨gb206, 4, none⟩) (Kd.R_far (p := ⟨gb206, 3, none⟩) (Kd.R_far (p := ⟨gb206, 2, none⟩) (Kd.R_far (p := ⟨gb206, 1, none⟩) (Kd.R_far (p := ⟨gb206, 0, none⟩) (Kd.R_types HO_7.out BK206.out (by decide)) (fun _ hk => hk.2) (.string ((rd_T74 y201 x30_1).f0))) (fun _ hk => hk.2) (.int .i64 ((rd_T74 y201 x30_1).f1))) (fun _ hk => hk.2) (.int .i64 ((rd_T74 y201 x30_1).f2))) (fun _ hk => hk.2) (.int .i64 ((rd_T74 y201 x30_1).f3))) (fun _ hk => hk.2) (.int .i64 ((rd_T74 y201 x30_1).f4))) (fun _ hk => hk.2) (.int .i64 ((rd_T74 y201 x30_1).f5))) (fun _ hk => hk.2) (.int .i64 ((rd_T74 y201 x30_1).f6))) (fun _ hk => hk.2) (.string ((rd_T74 y201 x30_1).f7))) (fun _ h_ => h_.1))) hb); have n1_ := Aside0.mk (Kd.R_below (by (with_reducible repeat (first | apply Kd.R_alloc | apply Kd.R_drewN | apply Kd.R_drew)); exact (Kd.R_mono (Kd.R_far (p := ⟨gb206, 7, none⟩) (Kd.R_far (p := ⟨gb206, 6, none⟩) (Kd.R_far (p := ⟨gb206, 5, none⟩) (Kd.R_far (p := ⟨gb206, 4, none⟩) (Kd.R_far (p := ⟨gb206, 3, none⟩) (Kd.R_far (p := ⟨gb206, 2, none⟩) (Kd.R_far (p := ⟨gb206, 1, none⟩) (Kd.R_far (p := ⟨gb206, 0, none⟩) (Kd.R_types HO_8.out BK206.out (by decide)) (fun _ hk => hk.2) (.string ((rd_T74 y201 x30_1).f0))) (fun _ hk => hk.2) (.int .i64 ((rd_T74 y201 x30_1).f1))) (fun _ hk => hk.2) (.int .i64 ((rd_T74 y201 x30_1).f2))) (fun _ hk => hk.2) (.int .i64 ((rd_T74 y201 x30_1).f3))) (fun _ hk => hk.2) (.int .i64 ((rd_T74 y201 x30_1).f4))) (fun _ hk => hk.2) (.int .i64 ((rd_T74 y201 x30_1).f5))) (fun _ hk => hk.2) (.int .i64 ((rd_T74 y201 x30_1).f6))) (fun _ hk => hk.2) (.string ((rd_T74 y201 x30_1).f7))) (fun _ h_ => h_.1))) hb); have n2_ := Aside0.mk (blk_below (g := gb191) (o := .cells #[.string a1_0, .int .i64 a1_1, .int .i64 a1_2, .int .i64 a1_3, .int .i64 a1_4, .int .i64 a1_5, .int .i64 a1_6, .string a1_7] 74 (0, 0)) (by (with_reducible repeat (first | refine blk_drewN ?_ _ | refine blk_drew ?_ | refine blk_alloc ?_ _)); refine blk_far ?_ NB191_206.out _; (with_reducible repeat (first | refine blk_drewN ?_ _ | refine blk_drew ?_ | refine blk_alloc ?_ _)); refine blk_far ?_ NB191_206.out _; (with_reducible repeat (first | refine blk_drewN ?_ _ | refine blk_drew ?_ | refine blk_alloc ?_ _)); refine blk_far ?_ NB191_206.out _; (with_reducible repeat (first | refine blk_drewN ?_ _ | refine blk_drew ?_ | refine blk_alloc ?_ _)); refine blk_far ?_ NB191_206.out _; (with_reducible repeat (first | refine blk_drewN ?_ _ | refine blk_drew ?_ | refine blk_alloc ?_ _)); refine blk_far ?_ NB191_206.out _; (with_reducible repeat (first | refine blk_drewN ?_ _ | refine blk_drew ?_ | refine blk_alloc ?_ _)); refine blk_far ?_ NB191_206.out _; (with_reducible repeat (first | refine blk_drewN ?_ _ | refine blk_drew ?_ | refine blk_alloc ?_ _)); refine blk_far ?_ NB191_206.out _; (with_reducible repeat (first | refine blk_drewN ?_ _ | refine blk_drew ?_ | refine blk_alloc ?_ _)); refine blk_far ?_ NB191_206.out _; (with_reducible repeat (first | refine blk_drewN ?_ _ | refine blk_drew ?_ | refine blk_alloc ?_ _)); exact BK191.out) hb); have n3_ := Aside0.mk (blk_below (g := gb206) (o := .cells #[.string ((rd_T74 y201 x30_1).f0), .int .i64 ((rd_T74 y201 x30_1).f1), .int .i64 ((rd_T74 y201 x30_1).f2), .int .i64 ((rd_T74 y201 x30_1).f3), .int .i64 ((rd_T74 y201 x30_1).f4), .int .i64 ((rd_T74 y201 x30_1).f5), .int .i64 ((rd_T74 y201 x30_1).f6), .string ((rd_T74 y201 x30_1).f7)] 74 (0, 0)) (by (with_reducible repeat (first | refine blk_drewN ?_ _ | refine blk_drew ?_ | refine blk_alloc ?_ _)); refine blk_put (cs := #[.string ((rd_T74 y201 x30_1).f0), .int .i64 ((rd_T74 y201 x30_1).f1), .int .i64 ((rd_T74 y201 x30_1).f2), .int .i64 ((rd_T74 y201 x30_1).f3), .int .i64 ((rd_T74 y201 x30_1).f4), .int .i64 ((rd_T74 y201 x30_1).f5), .int .i64 ((rd_T74 y201 x30_1).f6), .string (⟨#[]⟩ : ByteArray)]) ?_ 7 _ rfl; (with_reducible repeat (first | refine blk_drewN ?_ _ | refine blk_drew ?_ | refine blk_alloc ?_ _)); refine blk_put (cs := #[.string ((rd_T74 y201 x30_1).f0), .int .i64 ((rd_T74 y201 x30_1).f1), .int .i64 ((rd_T74 y201 x30_1).f2), .int .i64 ((rd_T74 y201 x30_1).f3), .int .i64 ((rd_T74 y201 x30_1).f4), .int .i64 ((rd_T74 y201 x30_1).f5), .int .i64 0, .string (⟨#[]⟩ : ByteArray)]) ?_ 6 _ rfl; (with_reducible repeat (first | refine blk_drewN ?_ _ | refine blk_drew ?_ | refine blk_alloc ?_ _)); refine blk_put (cs := #[.string ((rd_T74 y201 x30_1).f0), .int .i64 ((rd_T74 y201 x30_1).f1), .int .i64 ((rd_T74 y201 x30_1).f2), .int .i64 ((rd_T74 y201 x30_1).f3), .int .i64 ((rd_T74 y201 x30_1).f4), .int .i64 0, .int .i64 0, .string (⟨#[]⟩ : ByteArray)]) ?_ 5 _ rfl; (with_reducible repeat (first | refine blk_drewN ?_ _ | refine blk_drew ?_ | refine blk_alloc ?_ _)); refine blk_put (cs := #[.string ((rd_T74 y201 x30_1).f0), .int .i64 ((rd_T74 y201 x30_1).f1), .int .i64 ((rd_T74 y201 x30_1).f2), .int .i64 ((rd_T74 y201 x30_1).f3), .int .i64 0, .int .i64 0, .int .i64 0, .string (⟨#[]⟩ : ByteArray)]) ?_ 4 _ rfl; (with_reducible repeat (first | refine blk_drewN ?_ _ | refine blk_drew ?_ | refine blk_alloc ?_ _)); refine blk_put (cs := #[.string ((rd_T74 y201 x30_1).f0), .int .i64 ((rd_T74 y201 x30_1).f1), .int .i64 ((rd_T74 y201 x30_1).f2), .int .i64 0, .int .i64 0, .int .i64 0, .int .i64 0, .string (⟨#[]⟩ : ByteArray)]) ?_ 3 _ rfl; (with_reducible repeat (first | refine blk_drewN ?_ _ | refine blk_drew ?_ | refine blk_alloc ?_ _)); refine blk_put (cs := #[.string ((rd_T74 y201 x30_1).f0), .int .i64 ((rd_T74 y201 x30_1).f1), .int .i64 0, .int .i64 0, .int .i64 0, .int .i64 0, .int .i64 0, .string (⟨#[]⟩ : ByteArray)]) ?_ 2 _ rfl; (with_reducible repeat (first | refine blk_drewN ?_ _ | refine blk_drew ?_ | refine blk_alloc ?_ _)); refine blk_put (cs := #[.string ((rd_T74 y201 x30_1).f0), .int .i64 0, .int .i64 0, .int .i64 0, .int .i64 0, .int .i64 0, .int .i64 0, .string (⟨#[]⟩ : ByteArray)]) ?_ 1 _ rfl; (with_reducible repeat (first | refine blk_drewN ?_ _ | refine blk_drew ?_ | refine blk_alloc ?_ _)); refine blk_put (cs := #[.string (⟨#[]⟩ : ByteArray), .int .i64 0, .int .i64 0, .int .i64 0, .int .i64 0, .int .i64 0, .int .i64 0, .string (⟨#[]⟩ : ByteArray)]) ?_ 0 _ rfl; (with_reducible repeat (first | refine blk_drewN ?_ _ | refine blk_drew ?_ | refine blk_alloc ?_ _)); exact BK206.out) hb); have n4_ := Aside0.mk (below_step (by repeat (first | (with_reducible first | exact HB.out | apply below_alloc | apply pw_below_drewN | apply below_drew1 | refine below_set ?_ GE191.out | refine below_set ?_ GE206.out) | exact HB.out)) hb); clear HO_7; clear HO_8; clear BK191; clear BK206; clear HB; have HO_7 := n0_; have HO_8 := n1_; have BK191 := n2_; have BK206 := n3_; have HB := n4_; clear n0_ n1_ n2_ n3_ n4_; (try clear hb); (try clear hb2); (try clear hk); (try clear hi)))
     go_loopg [7, 8] k1 (fun kq v7 v8 w' => ∃ (x7_2 : List ByteArray) (x8_2 : List ByteArray), Aside0 (spec_l17Next.l1 kq t193 t194 x7_2 x8_2 t207 t208 y201 (y201.length : Int) x30_1 ((rd_T74 y201 x30_1).f0) ((rd_T74 y201 x30_1).f1) ((rd_T74 y201 x30_1).f2) ((rd_T74 y201 x30_1).f3) ((rd_T74 y201 x30_1).f4) ((rd_T74 y201 x30_1).f5) ((rd_T74 y201 x30_1).f6) ((rd_T74 y201 x30_1).f7) = some r) ∧ Aside0 (kq ≤ k1) ∧ Aside0 (Kd.R Kd.string 9 w' w.heap.size (fun k_ => some k_ ≠ (v8 : Value).ownBlock) v7 x7_2) ∧ Aside0 (Kd.R Kd.string 9 w' w.heap.size (fun k_ => some k_ ≠ (v7 : Value).ownBlock) v8 x8_2) ∧ Aside0 (w'.heap[gb191]? = some (.cells #[.string a1_0, .int .i64 a1_1, .int .i64 a1_2, .int .i64 a1_3, .int .i64 a1_4, .int .i64 a1_5, .int .i64 a1_6, .string a1_7] 74 (0, 0))) ∧ Aside0 (w'.heap[gb206]? = some (.cells #[.string ((rd_T74 y201 x30_1).f0), .int .i64 ((rd_T74 y201 x30_1).f1), .int .i64 ((rd_T74 y201 x30_1).f2), .int .i64 ((rd_T74 y201 x30_1).f3), .int .i64 ((rd_T74 y201 x30_1).f4), .int .i64 ((rd_T74 y201 x30_1).f5), .int .i64 ((rd_T74 y201 x30_1).f6), .string ((rd_T74 y201 x30_1).f7)] 74 (0, 0))) ∧ Aside0 (Below w.heap.size w w'))
     case atStart => exact ⟨(x7_1), (x8_1), H', ⟨Nat.le_refl _⟩, ⟨by (with_reducible repeat (first | apply Kd.R_alloc | apply Kd.R_drewN | apply Kd.R_drew)); exact HO_7.out⟩, ⟨by (with_reducible repeat (first | apply Kd.R_alloc | apply Kd.R_drewN | apply Kd.R_drew)); exact HO_8.out⟩, ⟨by (with_reducible repeat (first | refine blk_drewN ?_ _ | refine blk_drew ?_ | refine blk_alloc ?_ _)); exact BK191.out⟩, ⟨by (with_reducible repeat (first | refine blk_drewN ?_ _ | refine blk_drew ?_ | refine blk_alloc ?_ _)); exact BK206.out⟩, ⟨by repeat (first | (with_reducible first | exact HB.out | apply below_alloc | apply pw_below_drewN | apply below_drew1 | refine below_set ?_ GE191.out | refine below_set ?_ GE206.out) | exact HB.out)⟩⟩
     case round =>
      clear H'
      (try clear c1);(try clear q1);(try clear c2);(try clear p2);(try clear q2);(try clear hx2);(try clear c4);(try clear c6);(try clear c6b0);(try clear c6b1);(try clear c12);(try clear c16);(try clear q16);(try clear c17);(try clear c17b0);(try clear c18);(try clear c18b0);(try clear c19);(try clear c19b0);(try clear p20);(try clear q20);(try clear hx20);(try clear c22);(try clear hcz10_0);(try clear hcz10_1);(try clear hcz10_2);(try clear hcz10_3);(try clear hcz10_4);(try clear hcz10_5);(try clear hcz10_6);(try clear hcz10_7);(try clear hcz23_0);(try clear hcz23_1);(try clear hcz23_2);(try clear hcz23_3);(try clear hcz23_4);(try clear hcz23_5);(try clear hcz23_6);(try clear hcz23_7);(try clear hcz8_0);(try clear hcz8_1);(try clear hcz8_2);(try clear hcz8_3);(try clear hcz8_4);(try clear hcz8_5);(try clear hcz8_6);(try clear hcz8_7);(try clear hfz10_0);(try clear hfz10_1);(try clear hfz10_2);(try clear hfz10_3);(try clear hfz10_4);(try clear hfz10_5);(try clear hfz10_6);(try clear hfz10_7);(try clear hfz23_0);(try clear hfz23_1);(try clear hfz23_2);(try clear hfz23_3);(try clear hfz23_4);(try clear hfz23_5);(try clear hfz23_6);(try clear hfz23_7);(try clear hfz8_0);(try clear hfz8_1);(try clear hfz8_2);(try clear hfz8_3);(try clear hfz8_4);(try clear hfz8_5);(try clear hfz8_6);(try clear hfz8_7);(try clear hx205_0);(try clear hx205_1);(try clear hx205_2);(try clear hx205_3);(try clear hx205_4);(try clear hx205_5);(try clear hx205_6);(try clear hx205_7);(try clear p2);(try clear p205);(try clear q1);(try clear q16);(try clear q205)
      obtain ⟨x7_2, x8_2, HA, HK2, HO_7, HO_8, BK191, BK206, HB⟩ := hrel
      cases gk with
      | zero => exact absurd HA.out (by simp [spec_l17Next.l1])
      | succ k2 =>
       have H := HA.out
       clear HA
       simp only [spec_l17Next.l1] at H
       obtain ⟨ji25, hji25⟩ : ∃ j_ : Int, (wrap64 ((x7_2.length : Int) - 1)) = j_ := ⟨_, rfl⟩
       replace H : (if 0 ≤ (ji25) then (if (ji25) < (x7_2.length : Int) then (if (rdOf ByteArray.empty x7_2 (ji25)).toList = t207.toList then (if 0 ≤ (wrap64 ((x8_2.length : Int) - 1)) then (if (wrap64 ((x8_2.length : Int) - 1)) < (x8_2.length : Int) then ((some (x8_2.set ((wrap64 ((x8_2.length : Int) - 1)) : Int).toNat t208 : List ByteArray)).bind fun y210 => (if ((rd_T74 y201 x30_1).f1) = 2 then (if x7_2.length < 8796093022208 then (if y210.length < 8796093022208 then (spec_l17Next.l0 k2 t193 t194 (x7_2 ++ [((rd_T74 y201 x30_1).f0)]) (y210 ++ [(⟨#[]⟩ : ByteArray)]) y201 (y201.length : Int) (wrap64 (x30_1 + 1))) else (none)) else (none)) else (spec_l17Next.l0 k2 t193 t194 x7_2 y210 y201 (y201.length : Int) (wrap64 (x30_1 + 1))))) else (none)) else (none)) else (if (ji25) ≤ (x7_2.length : Int) then (if 0 ≤ (wrap64 ((x8_2.length : Int) - 1)) then (if (wrap64 ((x8_2.length : Int) - 1)) ≤ (x8_2.length : Int) then (spec_l17Next.l1 k2 t193 t194 (x7_2.take ((ji25) : Int).toNat) (x8_2.take ((wrap64 ((x8_2.length : Int) - 1)) : Int).toNat) t207 t208 y201 (y201.length : Int) x30_1 ((rd_T74 y201 x30_1).f0) ((rd_T74 y201 x30_1).f1) ((rd_T74 y201 x30_1).f2) ((rd_T74 y201 x30_1).f3) ((rd_T74 y201 x30_1).f4) ((rd_T74 y201 x30_1).f5) ((rd_T74 y201 x30_1).f6) ((rd_T74 y201 x30_1).f7)) else (none)) else (none)) else (none))) else (none)) else (none)) = some r := by first | (rw [hji25] at H; exact H) | (simp only [hji25] at H ⊢; exact H)
       have hji25w : (IntKind.i64.wrap ((x7_2.length : Int) - 1)) = ji25 := (i64_w _).trans hji25
       refine Or.elim (Classical.em (0 ≤ (ji25))) (fun c26 => ?_) (fun c26 => by rw [if_neg c26] at H; exact absurd H (by simp))
       rw [if_pos c26] at H
       have c26b0 : decide (0 ≤ (ji25)) = true := decide_eq_true c26
       clear c26
       refine Or.elim (Classical.em ((ji25) < (x7_2.length : Int))) (fun c27 => ?_) (fun c27 => by rw [if_neg c27] at H; exact absurd H (by simp))
       rw [if_pos c27] at H
       have c27b0 : decide ((ji25) < (x7_2.length : Int)) = true := decide_eq_true c27
       clear c27
       by_cases c28 : (rdOf ByteArray.empty x7_2 (ji25)).toList = t207.toList
       ·rw [if_pos c28] at H
        have c28b0 : ((rdOf ByteArray.empty x7_2 (ji25)).toList == t207.toList) = true := beq_iff_eq.mpr c28
        have c28b1 : ((rdOf ByteArray.empty x7_2 (ji25)).toList != t207.toList) = false := bne_eq_false_iff_eq.mpr c28
        clear c28
        obtain ⟨ji29, hji29⟩ : ∃ j_ : Int, (wrap64 ((x8_2.length : Int) - 1)) = j_ := ⟨_, rfl⟩
        replace H : (if 0 ≤ (ji29) then (if (ji29) < (x8_2.length : Int) then ((some (x8_2.set ((ji29) : Int).toNat t208 : List ByteArray)).bind fun y210 => (if ((rd_T74 y201 x30_1).f1) = 2 then (if x7_2.length < 8796093022208 then (if y210.length < 8796093022208 then (spec_l17Next.l0 k2 t193 t194 (x7_2 ++ [((rd_T74 y201 x30_1).f0)]) (y210 ++ [(⟨#[]⟩ : ByteArray)]) y201 (y201.length : Int) (wrap64 (x30_1 + 1))) else (none)) else (none)) else (spec_l17Next.l0 k2 t193 t194 x7_2 y210 y201 (y201.length : Int) (wrap64 (x30_1 + 1))))) else (none)) else (none)) = some r := by first | (rw [hji29] at H; exact H) | (simp only [hji29] at H ⊢; exact H)
        have hji29w : (IntKind.i64.wrap ((x8_2.length : Int) - 1)) = ji29 := (i64_w _).trans hji29
        refine Or.elim (Classical.em (0 ≤ (ji29))) (fun c30 => ?_) (fun c30 => by rw [if_neg c30] at H; exact absurd H (by simp))
        rw [if_pos c30] at H
        have c30b0 : decide (0 ≤ (ji29)) = true := decide_eq_true c30
        clear c30
        refine Or.elim (Classical.em ((ji29) < (x8_2.length : Int))) (fun c31 => ?_) (fun c31 => by rw [if_neg c31] at H; exact absurd H (by simp))
        rw [if_pos c31] at H
        have c31b0 : decide ((ji29) < (x8_2.length : Int)) = true := decide_eq_true c31
        clear c31
        obtain ⟨y210, hy210⟩ : ∃ y_ : List ByteArray, y_ = (x8_2.set ((ji29) : Int).toNat t208) := ⟨_, rfl⟩
        replace H : (if ((rd_T74 y201 x30_1).f1) = 2 then (if x7_2.length < 8796093022208 then (if y210.length < 8796093022208 then (spec_l17Next.l0 k2 t193 t194 (x7_2 ++ [((rd_T74 y201 x30_1).f0)]) (y210 ++ [(⟨#[]⟩ : ByteArray)]) y201 (y201.length : Int) (wrap64 (x30_1 + 1))) else (none)) else (none)) else (spec_l17Next.l0 k2 t193 t194 x7_2 y210 y201 (y201.length : Int) (wrap64 (x30_1 + 1)))) = some r := by first | (rw [hy210]; with_reducible exact H) | (have H2_ := (Option.bind_some _ _).symm.trans H; rw [hy210]; with_reducible exact H2_) | (have H2_ := (Option.bind_some _ _).symm.trans H; with_reducible exact H2_) | with_reducible exact H | (rw [hy210]; exact H) | exact H
        have Ny210 := Aside0.mk hy210
        clear hy210
        by_cases c33 : ((rd_T74 y201 x30_1).f1) = 2
        ·rw [if_pos c33] at H
         have c33b0 : (((rd_T74 y201 x30_1).f1) == 2) = true := beq_iff_eq.mpr c33
         have c33b1 : (((rd_T74 y201 x30_1).f1) != 2) = false := bne_eq_false_iff_eq.mpr c33
         clear c33
         refine Or.elim (Classical.em (x7_2.length < 8796093022208)) (fun c34 => ?_) (fun c34 => by rw [if_neg c34] at H; exact absurd H (by simp))
         rw [if_pos c34] at H
         have LMc34 := Aside0.mk c34
         clear c34
         obtain ⟨y211, hy211⟩ : ∃ y_ : List ByteArray, y_ = (x7_2 ++ [((rd_T74 y201 x30_1).f0)]) := ⟨_, rfl⟩
         replace H : (if y210.length < 8796093022208 then (spec_l17Next.l0 k2 t193 t194 y211 (y210 ++ [(⟨#[]⟩ : ByteArray)]) y201 (y201.length : Int) (wrap64 (x30_1 + 1))) else (none)) = some r := by first | (rw [hy211]; with_reducible exact H) | (have H2_ := (Option.bind_some _ _).symm.trans H; rw [hy211]; with_reducible exact H2_) | (have H2_ := (Option.bind_some _ _).symm.trans H; with_reducible exact H2_) | with_reducible exact H | (rw [hy211]; exact H) | exact H
         have Ny211 := Aside0.mk hy211
         clear hy211
         refine Or.elim (Classical.em (y210.length < 8796093022208)) (fun c35 => ?_) (fun c35 => by rw [if_neg c35] at H; exact absurd H (by simp))
         rw [if_pos c35] at H
         have LMc35 := Aside0.mk c35
         clear c35
         obtain ⟨y214, hy214⟩ : ∃ y_ : List ByteArray, y_ = (y210 ++ [(⟨#[]⟩ : ByteArray)]) := ⟨_, rfl⟩
         replace H : (spec_l17Next.l0 k2 t193 t194 y211 y214 y201 (y201.length : Int) (wrap64 (x30_1 + 1))) = some r := by first | (rw [hy214]; with_reducible exact H) | (have H2_ := (Option.bind_some _ _).symm.trans H; rw [hy214]; with_reducible exact H2_) | (have H2_ := (Option.bind_some _ _).symm.trans H; with_reducible exact H2_) | with_reducible exact H | (rw [hy214]; exact H) | exact H
         have Ny214 := Aside0.mk hy214
         clear hy214
         have H' := Aside0.mk H
         clear H
         obtain ⟨Ao36, co36, eo36⟩ := Kd.R_slice HO_7.out
         subst eo36
         have p209 : 0 ≤ ((ji25) : Int) := of_decide_eq_true (by first | (with_reducible assumption) | assumption)
         have q209 : (ji25) < (x7_2.length : Int) := of_decide_eq_true (by first | (with_reducible assumption) | assumption)
         obtain ⟨ad209, e209, hx209_0⟩ := Kd.at_string (Kd.R_reads' HO_7.out).2.2 (ji25) p209 q209
         cases e209
         replace p209 := eq_true p209
         replace q209 := eq_true q209
         obtain ⟨Ao37, co37, eo37⟩ := Kd.R_slice HO_8.out
         subst eo37
         have p32 : 0 ≤ ((ji29) : Int) := of_decide_eq_true (by first | (with_reducible assumption) | assumption)
         have q32 : ((ji29) : Int) < ((x8_2.length : Int) : Int) := of_decide_eq_true (by first | (with_reducible assumption) | assumption)
         obtain ⟨go32, co32, eo32, gb32, gl32, cl32, HG32⟩ := Kd.R_form HO_8.out (by omega)
         (first | cases eo32 | (injection eo32 with ea_ en_ ec_; (first | subst ea_ | (injection ea_ with ea_; subst ea_)); subst ec_; clear en_))
         have GB32 := Aside0.mk gb32
         have GG32 := Aside0.mk HG32
         clear gb32 gl32 HG32
         obtain ⟨hx32_0, hf32_0⟩ := Kd.R_celln (⟨#[]⟩ : ByteArray) HO_8.out ((ji29) : Int) p32 q32
         replace p32 := eq_true p32
         replace q32 := eq_true q32
         have HP38 := Kd.R_putg HO_8.out ((ji29) : Int) t208
         go_wp2_with (first | ((with_reducible refine gate_store (t := 9) (p := 63) rfl ?_); refine store_event (t := 9) (p := 63) (v := ?vo_w39) (w1 := (wr.setCell ⟨go32, ((ji29) : Int).toNat, none⟩ (.string t208))) ?hg ?ho ?hn ?hr ?_; (case ho => rfl); (case hg => rfl); (case hn => rfl); (case hr => first | (go_simp; done) | (go_simp; rfl)); intro w39 hw; have hg : wr.grownBy w39 (some go32) := (by rw [hw]; exact HP38.2); have hp_ : Kd.R Kd.string 9 w39 w.heap.size (fun k_ => some k_ ≠ (.slice (some ad209) x7_2.length co36 : Value).ownBlock) (.slice (some ⟨go32, 0, none⟩) x8_2.length co37) y210 := (by rw [hw, Ny210.out]; exact HP38.1); clear HP38; have n0_ := Aside0.mk (Kd.R_after (v := (.slice (some ⟨go32, 0, none⟩) x8_2.length co37)) (v1 := (.slice (some ⟨go32, 0, none⟩) x8_2.length co37)) (ok := (fun _ => True)) (by (with_reducible repeat (first | apply Kd.R_alloc | apply Kd.R_drewN | apply Kd.R_drew)); exact Kd.R_mono HO_7.out (fun _ hk => ⟨trivial, hk⟩)) hg (.inl rfl)); have n1_ := Aside0.mk (hp_); have n2_ := Aside0.mk (blk_grown (g := gb191) (o := .cells #[.string a1_0, .int .i64 a1_1, .int .i64 a1_2, .int .i64 a1_3, .int .i64 a1_4, .int .i64 a1_5, .int .i64 a1_6, .string a1_7] 74 (0, 0)) (by (with_reducible repeat (first | refine blk_drewN ?_ _ | refine blk_drew ?_ | refine blk_alloc ?_ _)); exact BK191.out) hg (Kd.R_ne HO_8.out BK191.out (by decide))); have n3_ := Aside0.mk (blk_grown (g := gb206) (o := .cells #[.string ((rd_T74 y201 x30_1).f0), .int .i64 ((rd_T74 y201 x30_1).f1), .int .i64 ((rd_T74 y201 x30_1).f2), .int .i64 ((rd_T74 y201 x30_1).f3), .int .i64 ((rd_T74 y201 x30_1).f4), .int .i64 ((rd_T74 y201 x30_1).f5), .int .i64 ((rd_T74 y201 x30_1).f6), .string ((rd_T74 y201 x30_1).f7)] 74 (0, 0)) (by (with_reducible repeat (first | refine blk_drewN ?_ _ | refine blk_drew ?_ | refine blk_alloc ?_ _)); exact BK206.out) hg (Kd.R_ne HO_8.out BK206.out (by decide))); have n4_ := Aside0.mk ((by rw [hw]; exact below_set (HB.out) GB32.out : Below w.heap.size w w39)); clear HO_7; clear HO_8; clear BK191; clear BK206; clear HB; have HO_7 := n0_; have HO_8 := n1_; have BK191 := n2_; have BK206 := n3_; have HB := n4_; clear n0_ n1_ n2_ n3_ n4_; clear hg hw hp_; have hnb40 := NB206_191.out; have hnc40 := NB191_206.out; have hcz41_0 : w39.cell? ⟨gb206, 0, none⟩ = some (.string ((rd_T74 y201 x30_1).f0)) := (blk_cell BK206.out 0).trans rfl; have hcz41_1 : w39.cell? ⟨gb206, 1, none⟩ = some (.int .i64 ((rd_T74 y201 x30_1).f1)) := (blk_cell BK206.out 1).trans rfl; have hcz41_2 : w39.cell? ⟨gb206, 2, none⟩ = some (.int .i64 ((rd_T74 y201 x30_1).f2)) := (blk_cell BK206.out 2).trans rfl; have hcz41_3 : w39.cell? ⟨gb206, 3, none⟩ = some (.int .i64 ((rd_T74 y201 x30_1).f3)) := (blk_cell BK206.out 3).trans rfl; have hcz41_4 : w39.cell? ⟨gb206, 4, none⟩ = some (.int .i64 ((rd_T74 y201 x30_1).f4)) := (blk_cell BK206.out 4).trans rfl; have hcz41_5 : w39.cell? ⟨gb206, 5, none⟩ = some (.int .i64 ((rd_T74 y201 x30_1).f5)) := (blk_cell BK206.out 5).trans rfl; have hcz41_6 : w39.cell? ⟨gb206, 6, none⟩ = some (.int .i64 ((rd_T74 y201 x30_1).f6)) := (blk_cell BK206.out 6).trans rfl; have hcz41_7 : w39.cell? ⟨gb206, 7, none⟩ = some (.string ((rd_T74 y201 x30_1).f7)) := (blk_cell BK206.out 7).trans rfl; have hfz41_0 := blk_frozen BK206.out 0; have hfz41_1 := blk_frozen BK206.out 1; have hfz41_2 := blk_frozen BK206.out 2; have hfz41_3 := blk_frozen BK206.out 3; have hfz41_4 := blk_frozen BK206.out 4; have hfz41_5 := blk_frozen BK206.out 5; have hfz41_6 := blk_frozen BK206.out 6; have hfz41_7 := blk_frozen BK206.out 7) | ((with_reducible refine gate_builtin (b := .append) (xs := #[.tmp 67, .tmp 70]) rfl ?_); at_builtin; refine Kd.R_append Kd.string (w0 := w) w.heap.size rfl (.tmp 67) (.tmp 70) 55 9 (.string ⟨#[]⟩) 16 rfl Tryz.underlying55 info9 rfl (by decide) (by omega) (.slice (some ad209) x7_2.length co36) x7_2 ((rd_T74 y201 x30_1).f0) [.string ((rd_T74 y201 x30_1).f0)] (fun k_ => some k_ ≠ (.slice (some ⟨go32, 0, none⟩) x8_2.length co37 : Value).ownBlock) (fun _ => False) rfl rfl ?aP (fun _ hk => hk.elim) ?aF ?aO ?aB ?aS ?aL ?_; (case aP => exact rfl); (case aB => exact (by repeat (first | (with_reducible first | exact HB.out | apply below_alloc | apply pw_below_drewN | apply below_drew1 | refine below_set ?_ GE191.out | refine below_set ?_ GE206.out) | exact HB.out))); (case aF => exact (fun k_ hk => Kd.fresh' (Kd.R_lt (by (with_reducible repeat (first | apply Kd.R_alloc | apply Kd.R_drewN | apply Kd.R_drew)); exact HO_8.out)) k_ hk)); (case aO => exact (by (with_reducible repeat (first | apply Kd.R_alloc | apply Kd.R_drewN | apply Kd.R_drew)); exact Kd.R_mono HO_7.out (fun _ hk => hk.2))); (case aS => exact (below_size (by repeat (first | (with_reducible first | exact HB.out | apply below_alloc | apply pw_below_drewN | apply below_drew1 | refine below_set ?_ GE191.out | refine below_set ?_ GE206.out) | exact HB.out)))); (case aL => have := LMc34.out; omega); intro v212 w42 ho hb hg hat; rw [← Ny211.out] at ho; have n0_ := Aside0.mk (Kd.R_after (ok := (fun _ => True)) (by (with_reducible repeat (first | apply Kd.R_alloc | apply Kd.R_drewN | apply Kd.R_drew)); exact Kd.R_mono HO_8.out (fun _ hk => ⟨trivial, hk⟩)) hg hat); have n1_ := Aside0.mk (blk_grown (g := gb191) (o := .cells #[.string a1_0, .int .i64 a1_1, .int .i64 a1_2, .int .i64 a1_3, .int .i64 a1_4, .int .i64 a1_5, .int .i64 a1_6, .string a1_7] 74 (0, 0)) (by (with_reducible repeat (first | refine blk_drewN ?_ _ | refine blk_drew ?_ | refine blk_alloc ?_ _)); exact BK191.out) hg (Kd.R_ne HO_7.out BK191.out (by decide))); have n2_ := Aside0.mk (blk_grown (g := gb206) (o := .cells #[.string ((rd_T74 y201 x30_1).f0), .int .i64 ((rd_T74 y201 x30_1).f1), .int .i64 ((rd_T74 y201 x30_1).f2), .int .i64 ((rd_T74 y201 x30_1).f3), .int .i64 ((rd_T74 y201 x30_1).f4), .int .i64 ((rd_T74 y201 x30_1).f5), .int .i64 ((rd_T74 y201 x30_1).f6), .string ((rd_T74 y201 x30_1).f7)] 74 (0, 0)) (by (with_reducible repeat (first | refine blk_drewN ?_ _ | refine blk_drew ?_ | refine blk_alloc ?_ _)); exact BK206.out) hg (Kd.R_ne HO_7.out BK206.out (by decide))); have n3_ := Aside0.mk (hb); have n4_ := Aside0.mk (ho); clear HO_8; clear BK191; clear BK206; clear HB; clear HO_7; have HO_8 := n0_; have BK191 := n1_; have BK206 := n2_; have HB := n3_; have HO213 := n4_; clear n0_ n1_ n2_ n3_ n4_; clear ho hb hg hat) | ((with_reducible refine gate_builtin (b := .append) (xs := #[.tmp 72, .tmp 73]) rfl ?_); at_builtin; refine Kd.R_append Kd.string (w0 := w) w.heap.size rfl (.tmp 72) (.tmp 73) 55 9 (.string ⟨#[]⟩) 16 rfl Tryz.underlying55 info9 rfl (by decide) (by omega) (.slice (some ⟨go32, 0, none⟩) x8_2.length co37) y210 (⟨#[]⟩ : ByteArray) [.string (⟨#[]⟩ : ByteArray)] (fun k_ => some k_ ≠ (v212 : Value).ownBlock) (fun _ => False) rfl rfl ?aP (fun _ hk => hk.elim) ?aF ?aO ?aB ?aS ?aL ?_; (case aP => exact rfl); (case aB => exact (by repeat (first | (with_reducible first | exact HB.out | apply below_alloc | apply pw_below_drewN | apply below_drew1 | refine below_set ?_ GE191.out | refine below_set ?_ GE206.out) | exact HB.out))); (case aF => exact (fun k_ hk => Kd.fresh' (Kd.R_lt (by (with_reducible repeat (first | apply Kd.R_alloc | apply Kd.R_drewN | apply Kd.R_drew)); exact HO213.out)) k_ hk)); (case aO => exact (by (with_reducible repeat (first | apply Kd.R_alloc | apply Kd.R_drewN | apply Kd.R_drew)); exact Kd.R_mono HO_8.out (fun _ hk => hk.2))); (case aS => exact (below_size (by repeat (first | (with_reducible first | exact HB.out | apply below_alloc | apply pw_below_drewN | apply below_drew1 | refine below_set ?_ GE191.out | refine below_set ?_ GE206.out) | exact HB.out)))); (case aL => have := LMc35.out; omega); intro v215 w43 ho hb hg hat; rw [← Ny214.out] at ho; have n0_ := Aside0.mk (blk_grown (g := gb191) (o := .cells #[.string a1_0, .int .i64 a1_1, .int .i64 a1_2, .int .i64 a1_3, .int .i64 a1_4, .int .i64 a1_5, .int .i64 a1_6, .string a1_7] 74 (0, 0)) (by (with_reducible repeat (first | refine blk_drewN ?_ _ | refine blk_drew ?_ | refine blk_alloc ?_ _)); exact BK191.out) hg (Kd.R_ne HO_8.out BK191.out (by decide))); have n1_ := Aside0.mk (blk_grown (g := gb206) (o := .cells #[.string ((rd_T74 y201 x30_1).f0), .int .i64 ((rd_T74 y201 x30_1).f1), .int .i64 ((rd_T74 y201 x30_1).f2), .int .i64 ((rd_T74 y201 x30_1).f3), .int .i64 ((rd_T74 y201 x30_1).f4), .int .i64 ((rd_T74 y201 x30_1).f5), .int .i64 ((rd_T74 y201 x30_1).f6), .string ((rd_T74 y201 x30_1).f7)] 74 (0, 0)) (by (with_reducible repeat (first | refine blk_drewN ?_ _ | refine blk_drew ?_ | refine blk_alloc ?_ _)); exact BK206.out) hg (Kd.R_ne HO_8.out BK206.out (by decide))); have n2_ := Aside0.mk (Kd.R_after (ok := (fun _ => True)) (by (with_reducible repeat (first | apply Kd.R_alloc | apply Kd.R_drewN | apply Kd.R_drew)); exact Kd.R_mono HO213.out (fun _ hk => ⟨trivial, hk⟩)) hg hat); have n3_ := Aside0.mk (hb); have n4_ := Aside0.mk (ho); clear BK191; clear BK206; clear HO213; clear HB; clear HO_8; have BK191 := n0_; have BK206 := n1_; have HO213 := n2_; have HB := n3_; have HO216 := n4_; clear n0_ n1_ n2_ n3_ n4_; clear ho hb hg hat))
         go_roundg k2
         case measure => have := HK1.out; have := HK2.out; omega
         case rel => exact ⟨(y211), (y214), (wrap64 (x30_1 + 1)), (by first | rfl | (simp; done) | (simp [*]; done)), H', ⟨by have := HK1.out; have := HK2.out; omega⟩, ⟨by (with_reducible repeat (first | apply Kd.R_alloc | apply Kd.R_drewN | apply Kd.R_drew)); exact Kd.R_mono HO213.out (fun _ hk => hk.2)⟩, ⟨by (with_reducible repeat (first | apply Kd.R_alloc | apply Kd.R_drewN | apply Kd.R_drew)); first | exact HO216.out | exact Kd.R_mono HO216.out (fun _ h_ => Gtr.ownlen h_)⟩, ⟨by (with_reducible repeat (first | refine blk_drewN ?_ _ | refine blk_drew ?_ | refine blk_alloc ?_ _)); exact BK191.out⟩, ⟨by repeat (first | (with_reducible first | exact HB.out | apply below_alloc | apply pw_below_drewN | apply below_drew1 | refine below_set ?_ GE191.out | refine below_set ?_ GE206.out) | exact HB.out)⟩⟩
        ·rw [if_neg c33] at H
         have c33b0 : (((rd_T74 y201 x30_1).f1) == 2) = false := beq_eq_false_iff_ne.mpr c33
         have c33b1 : (((rd_T74 y201 x30_1).f1) != 2) = true := bne_iff_ne.mpr c33
         have H' := Aside0.mk H
         clear H
         obtain ⟨Ao44, co44, eo44⟩ := Kd.R_slice HO_7.out
         subst eo44
         have p209 : 0 ≤ ((ji25) : Int) := of_decide_eq_true (by first | (with_reducible assumption) | assumption)
         have q209 : (ji25) < (x7_2.length : Int) := of_decide_eq_true (by first | (with_reducible assumption) | assumption)
         obtain ⟨ad209, e209, hx209_0⟩ := Kd.at_string (Kd.R_reads' HO_7.out).2.2 (ji25) p209 q209
         cases e209
         replace p209 := eq_true p209
         replace q209 := eq_true q209
         obtain ⟨Ao45, co45, eo45⟩ := Kd.R_slice HO_8.out
         subst eo45
         have p32 : 0 ≤ ((ji29) : Int) := of_decide_eq_true (by first | (with_reducible assumption) | assumption)
         have q32 : ((ji29) : Int) < ((x8_2.length : Int) : Int) := of_decide_eq_true (by first | (with_reducible assumption) | assumption)
         obtain ⟨go32, co32, eo32, gb32, gl32, cl32, HG32⟩ := Kd.R_form HO_8.out (by omega)
         (first | cases eo32 | (injection eo32 with ea_ en_ ec_; (first | subst ea_ | (injection ea_ with ea_; subst ea_)); subst ec_; clear en_))
         have GB32 := Aside0.mk gb32
         have GG32 := Aside0.mk HG32
         clear gb32 gl32 HG32
         obtain ⟨hx32_0, hf32_0⟩ := Kd.R_celln (⟨#[]⟩ : ByteArray) HO_8.out ((ji29) : Int) p32 q32
         replace p32 := eq_true p32
         replace q32 := eq_true q32
         have HP46 := Kd.R_putg HO_8.out ((ji29) : Int) t208
         go_wp2_with (first | ((with_reducible refine gate_store (t := 9) (p := 63) rfl ?_); refine store_event (t := 9) (p := 63) (v := ?vo_w47) (w1 := (wr.setCell ⟨go32, ((ji29) : Int).toNat, none⟩ (.string t208))) ?hg ?ho ?hn ?hr ?_; (case ho => rfl); (case hg => rfl); (case hn => rfl); (case hr => first | (go_simp; done) | (go_simp; rfl)); intro w47 hw; have hg : wr.grownBy w47 (some go32) := (by rw [hw]; exact HP46.2); have hp_ : Kd.R Kd.string 9 w47 w.heap.size (fun k_ => some k_ ≠ (.slice (some ad209) x7_2.length co44 : Value).ownBlock) (.slice (some ⟨go32, 0, none⟩) x8_2.length co45) y210 := (by rw [hw, Ny210.out]; exact HP46.1); clear HP46; have n0_ := Aside0.mk (Kd.R_after (v := (.slice (some ⟨go32, 0, none⟩) x8_2.length co45)) (v1 := (.slice (some ⟨go32, 0, none⟩) x8_2.length co45)) (ok := (fun _ => True)) (by (with_reducible repeat (first | apply Kd.R_alloc | apply Kd.R_drewN | apply Kd.R_drew)); exact Kd.R_mono HO_7.out (fun _ hk => ⟨trivial, hk⟩)) hg (.inl rfl)); have n1_ := Aside0.mk (hp_); have n2_ := Aside0.mk (blk_grown (g := gb191) (o := .cells #[.string a1_0, .int .i64 a1_1, .int .i64 a1_2, .int .i64 a1_3, .int .i64 a1_4, .int .i64 a1_5, .int .i64 a1_6, .string a1_7] 74 (0, 0)) (by (with_reducible repeat (first | refine blk_drewN ?_ _ | refine blk_drew ?_ | refine blk_alloc ?_ _)); exact BK191.out) hg (Kd.R_ne HO_8.out BK191.out (by decide))); have n3_ := Aside0.mk (blk_grown (g := gb206) (o := .cells #[.string ((rd_T74 y201 x30_1).f0), .int .i64 ((rd_T74 y201 x30_1).f1), .int .i64 ((rd_T74 y201 x30_1).f2), .int .i64 ((rd_T74 y201 x30_1).f3), .int .i64 ((rd_T74 y201 x30_1).f4), .int .i64 ((rd_T74 y201 x30_1).f5), .int .i64 ((rd_T74 y201 x30_1).f6), .string ((rd_T74 y201 x30_1).f7)] 74 (0, 0)) (by (with_reducible repeat (first | refine blk_drewN ?_ _ | refine blk_drew ?_ | refine blk_alloc ?_ _)); exact BK206.out) hg (Kd.R_ne HO_8.out BK206.out (by decide))); have n4_ := Aside0.mk ((by rw [hw]; exact below_set (HB.out) GB32.out : Below w.heap.size w w47)); clear HO_7; clear HO_8; clear BK191; clear BK206; clear HB; have HO_7 := n0_; have HO_8 := n1_; have BK191 := n2_; have BK206 := n3_; have HB := n4_; clear n0_ n1_ n2_ n3_ n4_; clear hg hw hp_; have hnb48 := NB206_191.out; have hnc48 := NB191_206.out; have hcz49_0 : w47.cell? ⟨gb206, 0, none⟩ = some (.string ((rd_T74 y201 x30_1).f0)) := (blk_cell BK206.out 0).trans rfl; have hcz49_1 : w47.cell? ⟨gb206, 1, none⟩ = some (.int .i64 ((rd_T74 y201 x30_1).f1)) := (blk_cell BK206.out 1).trans rfl; have hcz49_2 : w47.cell? ⟨gb206, 2, none⟩ = some (.int .i64 ((rd_T74 y201 x30_1).f2)) := (blk_cell BK206.out 2).trans rfl; have hcz49_3 : w47.cell? ⟨gb206, 3, none⟩ = some (.int .i64 ((rd_T74 y201 x30_1).f3)) := (blk_cell BK206.out 3).trans rfl; have hcz49_4 : w47.cell? ⟨gb206, 4, none⟩ = some (.int .i64 ((rd_T74 y201 x30_1).f4)) := (blk_cell BK206.out 4).trans rfl; have hcz49_5 : w47.cell? ⟨gb206, 5, none⟩ = some (.int .i64 ((rd_T74 y201 x30_1).f5)) := (blk_cell BK206.out 5).trans rfl; have hcz49_6 : w47.cell? ⟨gb206, 6, none⟩ = some (.int .i64 ((rd_T74 y201 x30_1).f6)) := (blk_cell BK206.out 6).trans rfl; have hcz49_7 : w47.cell? ⟨gb206, 7, none⟩ = some (.string ((rd_T74 y201 x30_1).f7)) := (blk_cell BK206.out 7).trans rfl; have hfz49_0 := blk_frozen BK206.out 0; have hfz49_1 := blk_frozen BK206.out 1; have hfz49_2 := blk_frozen BK206.out 2; have hfz49_3 := blk_frozen BK206.out 3; have hfz49_4 := blk_frozen BK206.out 4; have hfz49_5 := blk_frozen BK206.out 5; have hfz49_6 := blk_frozen BK206.out 6; have hfz49_7 := blk_frozen BK206.out 7))
         go_roundg k2
         case measure => have := HK1.out; have := HK2.out; omega
         case rel => exact ⟨(x7_2), (y210), (wrap64 (x30_1 + 1)), (by first | rfl | (simp; done) | (simp [*]; done)), H', ⟨by have := HK1.out; have := HK2.out; omega⟩, ⟨by (with_reducible repeat (first | apply Kd.R_alloc | apply Kd.R_drewN | apply Kd.R_drew)); exact Kd.R_mono HO_7.out (fun _ hk => hk.2)⟩, ⟨by (with_reducible repeat (first | apply Kd.R_alloc | apply Kd.R_drewN | apply Kd.R_drew)); exact HO_8.out⟩, ⟨by (with_reducible repeat (first | refine blk_drewN ?_ _ | refine blk_drew ?_ | refine blk_alloc ?_ _)); exact BK191.out⟩, ⟨by repeat (first | (with_reducible first | exact HB.out | apply below_alloc | apply pw_below_drewN | apply below_drew1 | refine below_set ?_ GE191.out | refine below_set ?_ GE206.out) | exact HB.out)⟩⟩
       ·rw [if_neg c28] at H
        have c28b0 : ((rdOf ByteArray.empty x7_2 (ji25)).toList == t207.toList) = false := beq_eq_false_iff_ne.mpr c28
        have c28b1 : ((rdOf ByteArray.empty x7_2 (ji25)).toList != t207.toList) = true := bne_iff_ne.mpr c28
        refine Or.elim (Classical.em ((ji25) ≤ (x7_2.length : Int))) (fun c50 => ?_) (fun c50 => by rw [if_neg c50] at H; exact absurd H (by simp))
        rw [if_pos c50] at H
        have c50b0 := eq_true c50
        have c50b1 : decide ((ji25) ≤ (x7_2.length : Int)) = true := decide_eq_true c50
        clear c50
        obtain ⟨y217, hy217⟩ : ∃ y_ : List ByteArray, y_ = (x7_2.take ((ji25) : Int).toNat) := ⟨_, rfl⟩
        replace H : (if 0 ≤ (wrap64 ((x8_2.length : Int) - 1)) then (if (wrap64 ((x8_2.length : Int) - 1)) ≤ (x8_2.length : Int) then (spec_l17Next.l1 k2 t193 t194 y217 (x8_2.take ((wrap64 ((x8_2.length : Int) - 1)) : Int).toNat) t207 t208 y201 (y201.length : Int) x30_1 ((rd_T74 y201 x30_1).f0) ((rd_T74 y201 x30_1).f1) ((rd_T74 y201 x30_1).f2) ((rd_T74 y201 x30_1).f3) ((rd_T74 y201 x30_1).f4) ((rd_T74 y201 x30_1).f5) ((rd_T74 y201 x30_1).f6) ((rd_T74 y201 x30_1).f7)) else (none)) else (none)) = some r := by first | (rw [hy217]; with_reducible exact H) | (have H2_ := (Option.bind_some _ _).symm.trans H; rw [hy217]; with_reducible exact H2_) | (have H2_ := (Option.bind_some _ _).symm.trans H; with_reducible exact H2_) | with_reducible exact H | (rw [hy217]; exact H) | exact H
        have Ny217 := Aside0.mk hy217
        clear hy217
        obtain ⟨ji51, hji51⟩ : ∃ j_ : Int, (wrap64 ((x8_2.length : Int) - 1)) = j_ := ⟨_, rfl⟩
        replace H : (if 0 ≤ (ji51) then (if (ji51) ≤ (x8_2.length : Int) then (spec_l17Next.l1 k2 t193 t194 y217 (x8_2.take ((ji51) : Int).toNat) t207 t208 y201 (y201.length : Int) x30_1 ((rd_T74 y201 x30_1).f0) ((rd_T74 y201 x30_1).f1) ((rd_T74 y201 x30_1).f2) ((rd_T74 y201 x30_1).f3) ((rd_T74 y201 x30_1).f4) ((rd_T74 y201 x30_1).f5) ((rd_T74 y201 x30_1).f6) ((rd_T74 y201 x30_1).f7)) else (none)) else (none)) = some r := by first | (rw [hji51] at H; exact H) | (simp only [hji51] at H ⊢; exact H)
        have hji51w : (IntKind.i64.wrap ((x8_2.length : Int) - 1)) = ji51 := (i64_w _).trans hji51
        refine Or.elim (Classical.em (0 ≤ (ji51))) (fun c52 => ?_) (fun c52 => by rw [if_neg c52] at H; exact absurd H (by simp))
        rw [if_pos c52] at H
        have c52b0 := eq_true c52
        have c52b1 : decide (0 ≤ (ji51)) = true := decide_eq_true c52
        clear c52
        refine Or.elim (Classical.em ((ji51) ≤ (x8_2.length : Int))) (fun c53 => ?_) (fun c53 => by rw [if_neg c53] at H; exact absurd H (by simp))
        rw [if_pos c53] at H
        have c53b0 := eq_true c53
        have c53b1 : decide ((ji51) ≤ (x8_2.length : Int)) = true := decide_eq_true c53
        clear c53
        obtain ⟨y220, hy220⟩ : ∃ y_ : List ByteArray, y_ = (x8_2.take ((ji51) : Int).toNat) := ⟨_, rfl⟩
        replace H : (spec_l17Next.l1 k2 t193 t194 y217 y220 t207 t208 y201 (y201.length : Int) x30_1 ((rd_T74 y201 x30_1).f0) ((rd_T74 y201 x30_1).f1) ((rd_T74 y201 x30_1).f2) ((rd_T74 y201 x30_1).f3) ((rd_T74 y201 x30_1).f4) ((rd_T74 y201 x30_1).f5) ((rd_T74 y201 x30_1).f6) ((rd_T74 y201 x30_1).f7)) = some r := by first | (rw [hy220]; with_reducible exact H) | (have H2_ := (Option.bind_some _ _).symm.trans H; rw [hy220]; with_reducible exact H2_) | (have H2_ := (Option.bind_some _ _).symm.trans H; with_reducible exact H2_) | with_reducible exact H | (rw [hy220]; exact H) | exact H
        have Ny220 := Aside0.mk hy220
        clear hy220
        have H' := Aside0.mk H
        clear H
        obtain ⟨Ao54, co54, eo54⟩ := Kd.R_slice HO_7.out
        subst eo54
        have p209 : 0 ≤ ((ji25) : Int) := of_decide_eq_true (by first | (with_reducible assumption) | assumption)
        have q209 : (ji25) < (x7_2.length : Int) := of_decide_eq_true (by first | (with_reducible assumption) | assumption)
        obtain ⟨ad209, e209, hx209_0⟩ := Kd.at_string (Kd.R_reads' HO_7.out).2.2 (ji25) p209 q209
        cases e209
        replace p209 := eq_true p209
        replace q209 := eq_true q209
        have q55 : ((ji25) : Int) ≤ ((x7_2.length : Int) : Int) := of_decide_eq_true (by first | (with_reducible assumption) | assumption)
        obtain ⟨i055, hi055, _, hsz55, _⟩ := info_parts info9
        have hcut55 := cut_to (P := Tryz.prog) 55 9 .i64 Tryz.underlying55 hi055 (some ad209) x7_2.length co54 (ji25) (of_decide_eq_true (by first | (with_reducible assumption) | assumption)) q55 (Kd.R_reads' HO_7.out).2.1
        have hr55 := Kd.R_take (m := ((ji25) : Int).toNat) HO_7.out (by omega)
        have hy55 : y217.length = ((ji25) : Int).toNat := (by rw [Ny217.out, List.length_take]; omega)
        rw [← Ny217.out] at hr55
        rw [← hy55] at hr55 hcut55
        clear hy55 hi055 hsz55 HO_7
        have HO219 := Aside0.mk hr55
        clear hr55
        replace q55 := eq_true q55
        obtain ⟨Ao56, co56, eo56⟩ := Kd.R_slice HO_8.out
        subst eo56
        have q57 : ((ji51) : Int) ≤ ((x8_2.length : Int) : Int) := of_decide_eq_true (by first | (with_reducible assumption) | assumption)
        obtain ⟨i057, hi057, _, hsz57, _⟩ := info_parts info9
        have hcut57 := cut_to (P := Tryz.prog) 55 9 .i64 Tryz.underlying55 hi057 Ao56 x8_2.length co56 (ji51) (of_decide_eq_true (by first | (with_reducible assumption) | assumption)) q57 (Kd.R_reads' HO_8.out).2.1
        have hr57 := Kd.R_take (m := ((ji51) : Int).toNat) HO_8.out (by omega)
        have hy57 : y220.length = ((ji51) : Int).toNat := (by rw [Ny220.out, List.length_take]; omega)
        rw [← Ny220.out] at hr57
        rw [← hy57] at hr57 hcut57
        clear hy57 hi057 hsz57 HO_8
        have HO222 := Aside0.mk hr57
        clear hr57
        replace q57 := eq_true q57
        go_wp2
        go_roundg k2
        case measure => have := HK1.out; have := HK2.out; omega
        case rel => exact ⟨(y217), (y220), H', ⟨by have := HK1.out; have := HK2.out; omega⟩, ⟨by (with_reducible repeat (first | apply Kd.R_alloc | apply Kd.R_drewN | apply Kd.R_drew)); first | exact HO219.out | exact Kd.R_mono HO219.out (fun _ h_ => Gtr.ownlen h_)⟩, ⟨by (with_reducible repeat (first | apply Kd.R_alloc | apply Kd.R_drewN | apply Kd.R_drew)); first | exact HO222.out | exact Kd.R_mono HO222.out (fun _ h_ => Gtr.ownlen h_)⟩, ⟨by (with_reducible repeat (first | refine blk_drewN ?_ _ | refine blk_drew ?_ | refine blk_alloc ?_ _)); exact BK191.out⟩, ⟨by (with_reducible repeat (first | refine blk_drewN ?_ _ | refine blk_drew ?_ | refine blk_alloc ?_ _)); exact BK206.out⟩, ⟨by repeat (first | (with_reducible first | exact HB.out | apply below_alloc | apply pw_below_drewN | apply below_drew1 | refine below_set ?_ GE191.out | refine below_set ?_ GE206.out) | exact HB.out)⟩⟩
    ·rw [if_neg c17] at H
     have c17b0 : decide (x30_1 < (y201.length : Int)) = false := decide_eq_false c17
     clear c17
     have H' := Aside0.mk H
     clear H
     obtain ⟨Ao58, co58, eo58⟩ := Kd.R_slice HO_7.out
     subst eo58
     go_wp2
     go_loopg [78] k1 (fun kq v78 w' => ∃ (x78_2 : Int), v78 = .int .i64 x78_2 ∧ Aside0 (spec_l17Next.l2 kq t193 t194 x8_1 x7_1 (x7_1.length : Int) x78_2 = some r) ∧ Aside0 (kq ≤ k1) ∧ Aside0 (Kd.R Kd.string 9 w' w.heap.size (fun k_ => some k_ ≠ ((.slice Ao58 x7_1.length co58) : Value).ownBlock) u8 x8_1) ∧ Aside0 (Kd.R Kd.string 9 w' w.heap.size (fun k_ => some k_ ≠ (u8 : Value).ownBlock) (.slice Ao58 x7_1.length co58) x7_1) ∧ Aside0 (w'.heap[gb191]? = some (.cells #[.string a1_0, .int .i64 a1_1, .int .i64 a1_2, .int .i64 a1_3, .int .i64 a1_4, .int .i64 a1_5, .int .i64 a1_6, .string a1_7] 74 (0, 0))) ∧ Aside0 (Below w.heap.size w w'))
     case atStart => exact ⟨(0), (by first | rfl | (simp; done) | (simp [*]; done)), H', ⟨Nat.le_refl _⟩, ⟨by (with_reducible repeat (first | apply Kd.R_alloc | apply Kd.R_drewN | apply Kd.R_drew)); exact HO_8.out⟩, ⟨by (with_reducible repeat (first | apply Kd.R_alloc | apply Kd.R_drewN | apply Kd.R_drew)); exact HO_7.out⟩, ⟨by (with_reducible repeat (first | refine blk_drewN ?_ _ | refine blk_drew ?_ | refine blk_alloc ?_ _)); exact BK191.out⟩, ⟨by repeat (first | (with_reducible first | exact HB.out | apply below_alloc | apply pw_below_drewN | apply below_drew1 | refine below_set ?_ GE191.out) | exact HB.out)⟩⟩
     case round =>
      clear H'
      (try clear c1);(try clear q1);(try clear c2);(try clear p2);(try clear q2);(try clear hx2);(try clear c3);(try clear p3);(try clear q3);(try clear hx3);(try clear hf3);(try clear c4);(try clear c5);(try clear q5);(try clear c6);(try clear c6b0);(try clear c6b1);(try clear p6);(try clear c12);(try clear c16);(try clear q16);(try clear c17);(try clear c17b0);(try clear c18);(try clear c18b0);(try clear c19);(try clear c19b0);(try clear p20);(try clear q20);(try clear hx20);(try clear c22);(try clear c26);(try clear c26b0);(try clear c27);(try clear c27b0);(try clear c28);(try clear c28b0);(try clear c28b1);(try clear c30);(try clear c30b0);(try clear c31);(try clear c31b0);(try clear p32);(try clear q32);(try clear hx32);(try clear hf32);(try clear c33);(try clear c33b0);(try clear c33b1);(try clear c34);(try clear c35);(try clear c40);(try clear c48);(try clear c50);(try clear c50b0);(try clear c50b1);(try clear c52);(try clear c52b0);(try clear c52b1);(try clear c53);(try clear c53b0);(try clear c53b1);(try clear q55);(try clear q57);(try clear hcz10_0);(try clear hcz10_1);(try clear hcz10_2);(try clear hcz10_3);(try clear hcz10_4);(try clear hcz10_5);(try clear hcz10_6);(try clear hcz10_7);(try clear hcz23_0);(try clear hcz23_1);(try clear hcz23_2);(try clear hcz23_3);(try clear hcz23_4);(try clear hcz23_5);(try clear hcz23_6);(try clear hcz23_7);(try clear hcz41_0);(try clear hcz41_1);(try clear hcz41_2);(try clear hcz41_3);(try clear hcz41_4);(try clear hcz41_5);(try clear hcz41_6);(try clear hcz41_7);(try clear hcz49_0);(try clear hcz49_1);(try clear hcz49_2);(try clear hcz49_3);(try clear hcz49_4);(try clear hcz49_5);(try clear hcz49_6);(try clear hcz49_7);(try clear hcz8_0);(try clear hcz8_1);(try clear hcz8_2);(try clear hcz8_3);(try clear hcz8_4);(try clear hcz8_5);(try clear hcz8_6);(try clear hcz8_7);(try clear hfz10_0);(try clear hfz10_1);(try clear hfz10_2);(try clear hfz10_3);(try clear hfz10_4);(try clear hfz10_5);(try clear hfz10_6);(try clear hfz10_7);(try clear hfz23_0);(try clear hfz23_1);(try clear hfz23_2);(try clear hfz23_3);(try clear hfz23_4);(try clear hfz23_5);(try clear hfz23_6);(try clear hfz23_7);(try clear hfz41_0);(try clear hfz41_1);(try clear hfz41_2);(try clear hfz41_3);(try clear hfz41_4);(try clear hfz41_5);(try clear hfz41_6);(try clear hfz41_7);(try clear hfz49_0);(try clear hfz49_1);(try clear hfz49_2);(try clear hfz49_3);(try clear hfz49_4);(try clear hfz49_5);(try clear hfz49_6);(try clear hfz49_7);(try clear hfz8_0);(try clear hfz8_1);(try clear hfz8_2);(try clear hfz8_3);(try clear hfz8_4);(try clear hfz8_5);(try clear hfz8_6);(try clear hfz8_7);(try clear hx205_0);(try clear hx205_1);(try clear hx205_2);(try clear hx205_3);(try clear hx205_4);(try clear hx205_5);(try clear hx205_6);(try clear hx205_7);(try clear hx209_0);(try clear hx32_0);(try clear p2);(try clear p20);(try clear p205);(try clear p209);(try clear p32);(try clear q1);(try clear q16);(try clear q2);(try clear q20);(try clear q205);(try clear q209);(try clear q32);(try clear q55);(try clear q57)
      obtain ⟨x78_2, rfl, HA, HK2, HO_8, HO_76, BK191, HB⟩ := hrel
      cases gk with
      | zero => exact absurd HA.out (by simp [spec_l17Next.l2])
      | succ k2 =>
       have H := HA.out
       clear HA
       simp only [spec_l17Next.l2] at H
       by_cases c59 : x78_2 < (x7_1.length : Int)
       ·rw [if_pos c59] at H
        have c59b0 : decide (x78_2 < (x7_1.length : Int)) = true := decide_eq_true c59
        clear c59
        refine Or.elim (Classical.em (0 ≤ x78_2)) (fun c60 => ?_) (fun c60 => by rw [if_neg c60] at H; exact absurd H (by simp))
        rw [if_pos c60] at H
        have c60b0 : decide (0 ≤ x78_2) = true := decide_eq_true c60
        clear c60
        refine Or.elim (Classical.em (x78_2 < (x7_1.length : Int))) (fun c61 => ?_) (fun c61 => by rw [if_neg c61] at H; exact absurd H (by simp))
        rw [if_pos c61] at H
        have c61b0 : decide (x78_2 < (x7_1.length : Int)) = true := decide_eq_true c61
        clear c61
        by_cases c62 : (rdOf ByteArray.empty x7_1 x78_2).toList = t193.toList
        ·rw [if_pos c62] at H
         have c62b0 : ((rdOf ByteArray.empty x7_1 x78_2).toList == t193.toList) = true := beq_iff_eq.mpr c62
         have c62b1 : ((rdOf ByteArray.empty x7_1 x78_2).toList != t193.toList) = false := bne_eq_false_iff_eq.mpr c62
         clear c62
         refine Or.elim (Classical.em (x78_2 < (x8_1.length : Int))) (fun c63 => ?_) (fun c63 => by rw [if_neg c63] at H; exact absurd H (by simp))
         rw [if_pos c63] at H
         have c63b0 : decide (x78_2 < (x8_1.length : Int)) = true := decide_eq_true c63
         clear c63
         obtain rfl := Option.some.inj H
         have p223 : 0 ≤ (x78_2 : Int) := of_decide_eq_true (by first | (with_reducible assumption) | assumption)
         have q223 : x78_2 < (x7_1.length : Int) := of_decide_eq_true (by first | (with_reducible assumption) | assumption)
         obtain ⟨ad223, e223, hx223_0⟩ := Kd.at_string (Kd.R_reads' HO_76.out).2.2 x78_2 p223 q223
         cases e223
         replace p223 := eq_true p223
         replace q223 := eq_true q223
         obtain ⟨Ao64, co64, eo64⟩ := Kd.R_slice HO_8.out
         subst eo64
         have p224 : 0 ≤ (x78_2 : Int) := of_decide_eq_true (by first | (with_reducible assumption) | assumption)
         have q224 : x78_2 < (x8_1.length : Int) := of_decide_eq_true (by first | (with_reducible assumption) | assumption)
         obtain ⟨ad224, e224, hx224_0⟩ := Kd.at_string (Kd.R_reads' HO_8.out).2.2 x78_2 p224 q224
         cases e224
         replace p224 := eq_true p224
         replace q224 := eq_true q224
         go_wp2
         go_ret
         exact ⟨by first | rfl | (simp [errW_none, errW_some] <;> rfl) | (simp [*, errW_none, errW_some] <;> rfl), by repeat (first | (with_reducible first | exact HB.out | apply below_alloc | apply pw_below_drewN | apply below_drew1 | refine below_set ?_ GE191.out) | exact HB.out)⟩
        ·rw [if_neg c62] at H
         have c62b0 : ((rdOf ByteArray.empty x7_1 x78_2).toList == t193.toList) = false := beq_eq_false_iff_ne.mpr c62
         have c62b1 : ((rdOf ByteArray.empty x7_1 x78_2).toList != t193.toList) = true := bne_iff_ne.mpr c62
         have H' := Aside0.mk H
         clear H
         have p223 : 0 ≤ (x78_2 : Int) := of_decide_eq_true (by first | (with_reducible assumption) | assumption)
         have q223 : x78_2 < (x7_1.length : Int) := of_decide_eq_true (by first | (with_reducible assumption) | assumption)
         obtain ⟨ad223, e223, hx223_0⟩ := Kd.at_string (Kd.R_reads' HO_76.out).2.2 x78_2 p223 q223
         cases e223
         replace p223 := eq_true p223
         replace q223 := eq_true q223
         go_wp2
         go_roundg k2
         case measure => have := HK1.out; have := HK2.out; omega
         case rel => exact ⟨(wrap64 (x78_2 + 1)), (by first | rfl | (simp; done) | (simp [*]; done)), H', ⟨by have := HK1.out; have := HK2.out; omega⟩, ⟨by (with_reducible repeat (first | apply Kd.R_alloc | apply Kd.R_drewN | apply Kd.R_drew)); exact HO_8.out⟩, ⟨by (with_reducible repeat (first | apply Kd.R_alloc | apply Kd.R_drewN | apply Kd.R_drew)); exact HO_76.out⟩, ⟨by (with_reducible repeat (first | refine blk_drewN ?_ _ | refine blk_drew ?_ | refine blk_alloc ?_ _)); exact BK191.out⟩, ⟨by repeat (first | (with_reducible first | exact HB.out | apply below_alloc | apply pw_below_drewN | apply below_drew1 | refine below_set ?_ GE191.out) | exact HB.out)⟩⟩
       ·rw [if_neg c59] at H
        have c59b0 : decide (x78_2 < (x7_1.length : Int)) = false := decide_eq_false c59
        clear c59
        obtain rfl := Option.some.inj H
        go_wp2
        go_ret
        exact ⟨by first | rfl | (simp [errW_none, errW_some] <;> rfl) | (simp [*, errW_none, errW_some] <;> rfl), by repeat (first | (with_reducible first | exact HB.out | apply below_alloc | apply pw_below_drewN | apply below_drew1 | refine below_set ?_ GE191.out) | exact HB.out)⟩
 ·replace c4 := Bool.eq_false_iff.mpr c4
  subst c4
  have H1 : (some false) = some r := by rw [if_neg (show ¬ (false = true) by decide)] at H; exact H
  clear H
  have H := H1
  clear H1
  obtain rfl := Option.some.inj H
  go_enter Tryz.func127, Tryz.ntmps127
  go_wp2_with (first | ((with_reducible refine gate_dst (N := 3) rfl ?_); refine box_event ?hg (N := 3) ?hd (cs := #[.string a1_0, .int .i64 a1_1, .int .i64 a1_2, .int .i64 a1_3, .int .i64 a1_4, .int .i64 a1_5, .int .i64 a1_6, .string a1_7]) (t := 74) ?hr ?_; (case hd => rfl); (case hg => rfl); (case hr => first | (go_simp; done) | (go_simp; rfl)); intro gb191 hg w65 hbox hb; have n0_ := Aside0.mk (below_step (by repeat (first | (with_reducible first | exact HB.out | apply below_alloc | apply pw_below_drewN | apply below_drew1) | exact HB.out)) hb); have n1_ := Aside0.mk (hbox); have n2_ := Aside0.mk ((by rw [hg]; exact (below_size (by repeat (first | (with_reducible first | exact HB.out | apply below_alloc | apply pw_below_drewN | apply below_drew1) | exact HB.out))) : w.heap.size ≤ gb191)); have n3_ := Aside0.mk ((by rw [hg]; exact (below_size (by repeat (first | (with_reducible first | exact HB.out | apply below_alloc | apply pw_below_drewN | apply below_drew1) | exact HB.out))) : w.heap.size ≤ gb191)); clear HB; have HB := n0_; have BK191 := n1_; have GW191 := n2_; have GE191 := n3_; clear n0_ n1_ n2_ n3_; clear hb hbox hg; have hcz66_0 : w65.cell? ⟨gb191, 0, none⟩ = some (.string a1_0) := (blk_cell BK191.out 0).trans rfl; have hcz66_1 : w65.cell? ⟨gb191, 1, none⟩ = some (.int .i64 a1_1) := (blk_cell BK191.out 1).trans rfl; have hcz66_2 : w65.cell? ⟨gb191, 2, none⟩ = some (.int .i64 a1_2) := (blk_cell BK191.out 2).trans rfl; have hcz66_3 : w65.cell? ⟨gb191, 3, none⟩ = some (.int .i64 a1_3) := (blk_cell BK191.out 3).trans rfl; have hcz66_4 : w65.cell? ⟨gb191, 4, none⟩ = some (.int .i64 a1_4) := (blk_cell BK191.out 4).trans rfl; have hcz66_5 : w65.cell? ⟨gb191, 5, none⟩ = some (.int .i64 a1_5) := (blk_cell BK191.out 5).trans rfl; have hcz66_6 : w65.cell? ⟨gb191, 6, none⟩ = some (.int .i64 a1_6) := (blk_cell BK191.out 6).trans rfl; have hcz66_7 : w65.cell? ⟨gb191, 7, none⟩ = some (.string a1_7) := (blk_cell BK191.out 7).trans rfl; have hfz66_0 := blk_frozen BK191.out 0; have hfz66_1 := blk_frozen BK191.out 1; have hfz66_2 := blk_frozen BK191.out 2; have hfz66_3 := blk_frozen BK191.out 3; have hfz66_4 := blk_frozen BK191.out 4; have hfz66_5 := blk_frozen BK191.out 5; have hfz66_6 := blk_frozen BK191.out 6; have hfz66_7 := blk_frozen BK191.out 7) | ((with_reducible refine gate_callee (f := 177) rfl ?_); refine goesL_ (some 17) rfl rfl Tryz.func177 (by kernel_rfl) rfl #[.string a1_0] rfl (by (try simp only [List.map_toArray, List.map_cons, List.map_nil]); first | done | rfl | (simp only [List.length_drop, List.length_take]; rfl)) ?_; (with_reducible refine (spec_l17Way.calls k a1_0 false _ A3.out).mono ?_); rintro e w67 ⟨rfl, hb⟩; refine ⟨_, rfl, ?_⟩; have n0_ := Aside0.mk (blk_below (g := gb191) (o := .cells #[.string a1_0, .int .i64 a1_1, .int .i64 a1_2, .int .i64 a1_3, .int .i64 a1_4, .int .i64 a1_5, .int .i64 a1_6, .string a1_7] 74 (0, 0)) (by (with_reducible repeat (first | refine blk_drewN ?_ _ | refine blk_drew ?_ | refine blk_alloc ?_ _)); exact BK191.out) hb); have n1_ := Aside0.mk (below_step (by repeat (first | (with_reducible first | exact HB.out | apply below_alloc | apply pw_below_drewN | apply below_drew1 | refine below_set ?_ GE191.out) | exact HB.out)) hb); clear BK191; clear HB; have BK191 := n0_; have HB := n1_; clear n0_ n1_; (try clear hb); (try clear hb2); (try clear hk); (try clear hi)))
  go_ret
  exact ⟨by first | rfl | (simp [errW_none, errW_some] <;> rfl) | (simp [*, errW_none, errW_some] <;> rfl), by repeat (first | (with_reducible first | exact HB.out | apply below_alloc | apply pw_below_drewN | apply below_drew1 | refine below_set ?_ GE191.out) | exact HB.out)⟩
end Go.Proofs.YthhmkbchdiflcaaGreatDoor.Q

-- Printed by a program of this session (wip/tools/myprint.py) that runs the kit's print, hand-proved functions among the others.
namespace Go.Proofs.YthhmkbchdiflcaaGreatDoor.Q
open Go.RowKit Go.Proofs.YthhmkbchdiflcaaGreatDoorW.PrintWords Go.Proofs.YthhmkbchdiflcaaGreatDoorW.PrintLast Go.Proofs.YthhmkbchdiflcaaGreatDoorW.PrintMore
attribute [local go_sem] max2_int min2_int max_two min_two max_three min_three max_four min_four   -- for this text's walks alone
set_option linter.unusedVariables false
set_option linter.unusedSimpArgs false

/-! ### spec_l2Path: function 159 -/
def spec_l2Path.l0 : Nat → ByteArray → List ByteArray → Int → Int → Option (Bool)
 | 0, _, _, _, _ => none
 | k + 1, x0, x6, x7, x8 => if x8 < x7 then (if 0 ≤ x8 then (if x8 < (x6.length : Int) then ((spec_l2Name.f k (rdOf ByteArray.empty x6 x8)).bind fun t160 => (if t160 = true then (spec_l2Path.l0 k x0 x6 x7 (wrap64 (x8 + 1))) else (if (rdOf ByteArray.empty x6 x8).toList = ([46] : List UInt8) then (spec_l2Path.l0 k x0 x6 x7 (wrap64 (x8 + 1))) else (if (rdOf ByteArray.empty x6 x8).toList = ([46, 46] : List UInt8) then (spec_l2Path.l0 k x0 x6 x7 (wrap64 (x8 + 1))) else (some false))))) else (none)) else (none)) else ((spec_l1In.f (x0.size : Int) 1 60).bind fun t161 => (some t161))
def spec_l2Path.f (k : Nat) (a0 : ByteArray) : Option (Bool) := (spec_l2Parts.f k a0).bind fun t156 => (spec_l2Path.l0 k a0 t156 (t156.length : Int) 0)
set_option maxHeartbeats 8000000 in
set_option maxRecDepth 100000 in
theorem spec_l2Path.calls (k : Nat) (a0 : ByteArray) (r : Bool) (w : World) (h : spec_l2Path.f k a0 = some r) :
  Calls Tryz.prog 159 #[.string a0] w fun e w' => e = .returned (.bool r) ∧ Below w.heap.size w w' := by
 have HB := Aside0.mk (Below.refl w.heap.size w)
 have H : ((spec_l2Parts.f k a0).bind fun t156 => (spec_l2Path.l0 k a0 t156 (t156.length : Int) 0)) = some r := h
 clear h
 replace H := Option.bind_eq_some_iff.mp H
 obtain ⟨t156, A20, H⟩ := H
 try dsimp only at H
 have A2 := Aside0.mk A20
 clear A20
 have H' := Aside0.mk H
 clear H
 go_enter Tryz.func159, Tryz.ntmps159
 go_wp2_with (first | ((with_reducible refine gate_callee (f := 200) rfl ?_); refine goesL_ (some 6) rfl rfl Tryz.func200 (by kernel_rfl) rfl #[.string a0] rfl (by (try simp only [List.map_toArray, List.map_cons, List.map_nil]); first | done | rfl | (simp only [List.length_drop, List.length_take]; rfl)) ?_; (with_reducible refine (spec_l2Parts.calls k a0 t156 _ A2.out).mono ?_); rintro e w3 ⟨v157, rfl, ho0, hb⟩; refine ⟨_, rfl, ?_⟩; have n0_ := Aside0.mk (Kd.R_lower ho0 (below_size (Gtr.bw HB.out))); have n1_ := Aside0.mk (below_step (Gtr.bw HB.out) hb); clear HB; have HO158 := n0_; have HB := n1_; clear n0_ n1_; (try clear hb); (try clear hb2); (try clear hk); (try clear hi); (try clear ho0); obtain ⟨Ao4, co4, eo4⟩ := Kd.R_slice HO158.out; subst eo4))
 go_loopg [8] k (fun kq v8 w' => ∃ (x8_1 : Int), v8 = .int .i64 x8_1 ∧ Aside0 (spec_l2Path.l0 kq a0 t156 (t156.length : Int) x8_1 = some r) ∧ Aside0 (kq ≤ k) ∧ Aside0 (Kd.R Kd.string 9 w' w.heap.size (fun _ => True) (.slice Ao4 t156.length co4) t156) ∧ Aside0 (Below w.heap.size w w'))
 case atStart => exact ⟨(0), (by first | rfl | (simp; done) | (simp [*]; done)), H', ⟨Nat.le_refl _⟩, ⟨by (with_reducible repeat (first | apply Kd.R_alloc | apply Kd.R_drewN | apply Kd.R_drew)); exact HO158.out⟩, ⟨(Gtr.bw HB.out)⟩⟩
 case round =>
  clear H'
  (try clear c1);(try clear c2);(try clear p2)
  obtain ⟨x8_1, rfl, HA, HK1, HO_6, HB⟩ := hrel
  cases gk with
  | zero => exact absurd HA.out (by simp [spec_l2Path.l0])
  | succ k1 =>
   have H := HA.out
   clear HA
   simp only [spec_l2Path.l0] at H
   by_cases c5 : x8_1 < (t156.length : Int)
   ·rw [if_pos c5] at H
    have c5b0 : decide (x8_1 < (t156.length : Int)) = true := decide_eq_true c5
    clear c5
    refine Or.elim (Classical.em (0 ≤ x8_1)) (fun c6 => ?_) (fun c6 => by rw [if_neg c6] at H; exact absurd H (by simp))
    rw [if_pos c6] at H
    have c6b0 : decide (0 ≤ x8_1) = true := decide_eq_true c6
    clear c6
    refine Or.elim (Classical.em (x8_1 < (t156.length : Int))) (fun c7 => ?_) (fun c7 => by rw [if_neg c7] at H; exact absurd H (by simp))
    rw [if_pos c7] at H
    have c7b0 : decide (x8_1 < (t156.length : Int)) = true := decide_eq_true c7
    clear c7
    replace H := Option.bind_eq_some_iff.mp H
    obtain ⟨t160, A80, H⟩ := H
    try dsimp only at H
    have A8 := Aside0.mk A80
    clear A80
    by_cases c9 : t160 = true
    ·subst c9
     have H1 := H
     rw [if_pos rfl] at H1
     clear H
     have H := H1
     clear H1
     have H' := Aside0.mk H
     clear H
     have p159 : 0 ≤ (x8_1 : Int) := of_decide_eq_true (by first | (with_reducible assumption) | assumption)
     have q159 : x8_1 < (t156.length : Int) := of_decide_eq_true (by first | (with_reducible assumption) | assumption)
     obtain ⟨ad159, e159, hx159_0⟩ := Kd.at_string (Kd.R_reads' HO_6.out).2.2 x8_1 p159 q159
     cases e159
     replace p159 := eq_true p159
     replace q159 := eq_true q159
     go_wp2_with (first | ((with_reducible refine gate_callee (f := 222) rfl ?_); refine goesL_ (some 13) rfl rfl Tryz.func222 (by kernel_rfl) rfl #[.string (rdOf ByteArray.empty t156 x8_1)] rfl (by (try simp only [List.map_toArray, List.map_cons, List.map_nil]); first | done | rfl | (simp only [List.length_drop, List.length_take]; rfl)) ?_; (with_reducible refine (spec_l2Name.calls k1 (rdOf ByteArray.empty t156 x8_1) true _ A8.out).mono ?_); rintro e w' ⟨rfl, ⟨nd, rfl⟩⟩; refine ⟨_, rfl, ?_⟩))
     go_roundg k1
     case measure => have := HK1.out; omega
     case rel => exact ⟨(wrap64 (x8_1 + 1)), (by first | rfl | (simp; done) | (simp [*]; done)), H', ⟨by have := HK1.out; omega⟩, ⟨by (with_reducible repeat (first | apply Kd.R_alloc | apply Kd.R_drewN | apply Kd.R_drew)); exact HO_6.out⟩, ⟨(Gtr.bw HB.out)⟩⟩
    ·replace c9 := Bool.eq_false_iff.mpr c9
     subst c9
     have H1 : (if (rdOf ByteArray.empty t156 x8_1).toList = ([46] : List UInt8) then (spec_l2Path.l0 k1 a0 t156 (t156.length : Int) (wrap64 (x8_1 + 1))) else (if (rdOf ByteArray.empty t156 x8_1).toList = ([46, 46] : List UInt8) then (spec_l2Path.l0 k1 a0 t156 (t156.length : Int) (wrap64 (x8_1 + 1))) else (some false))) = some r := by rw [if_neg (show ¬ (false = true) by decide)] at H; exact H
     clear H
     have H := H1
     clear H1
     by_cases c10 : (rdOf ByteArray.empty t156 x8_1).toList = ([46] : List UInt8)
     ·rw [if_pos c10] at H
      have c10b0 : ((rdOf ByteArray.empty t156 x8_1).toList == ([46] : List UInt8)) = true := beq_iff_eq.mpr c10
      have c10b1 : ((rdOf ByteArray.empty t156 x8_1).toList != ([46] : List UInt8)) = false := bne_eq_false_iff_eq.mpr c10
      clear c10
      have H' := Aside0.mk H
      clear H
      have p159 : 0 ≤ (x8_1 : Int) := of_decide_eq_true (by first | (with_reducible assumption) | assumption)
      have q159 : x8_1 < (t156.length : Int) := of_decide_eq_true (by first | (with_reducible assumption) | assumption)
      obtain ⟨ad159, e159, hx159_0⟩ := Kd.at_string (Kd.R_reads' HO_6.out).2.2 x8_1 p159 q159
      cases e159
      replace p159 := eq_true p159
      replace q159 := eq_true q159
      go_wp2_with (first | ((with_reducible refine gate_callee (f := 222) rfl ?_); refine goesL_ (some 13) rfl rfl Tryz.func222 (by kernel_rfl) rfl #[.string (rdOf ByteArray.empty t156 x8_1)] rfl (by (try simp only [List.map_toArray, List.map_cons, List.map_nil]); first | done | rfl | (simp only [List.length_drop, List.length_take]; rfl)) ?_; (with_reducible refine (spec_l2Name.calls k1 (rdOf ByteArray.empty t156 x8_1) false _ A8.out).mono ?_); rintro e w' ⟨rfl, ⟨nd, rfl⟩⟩; refine ⟨_, rfl, ?_⟩))
      go_roundg k1
      case measure => have := HK1.out; omega
      case rel => exact ⟨(wrap64 (x8_1 + 1)), (by first | rfl | (simp; done) | (simp [*]; done)), H', ⟨by have := HK1.out; omega⟩, ⟨by (with_reducible repeat (first | apply Kd.R_alloc | apply Kd.R_drewN | apply Kd.R_drew)); exact HO_6.out⟩, ⟨(Gtr.bw HB.out)⟩⟩
     ·rw [if_neg c10] at H
      have c10b0 : ((rdOf ByteArray.empty t156 x8_1).toList == ([46] : List UInt8)) = false := beq_eq_false_iff_ne.mpr c10
      have c10b1 : ((rdOf ByteArray.empty t156 x8_1).toList != ([46] : List UInt8)) = true := bne_iff_ne.mpr c10
      by_cases c11 : (rdOf ByteArray.empty t156 x8_1).toList = ([46, 46] : List UInt8)
      ·rw [if_pos c11] at H
       have c11b0 : ((rdOf ByteArray.empty t156 x8_1).toList == ([46, 46] : List UInt8)) = true := beq_iff_eq.mpr c11
       have c11b1 : ((rdOf ByteArray.empty t156 x8_1).toList != ([46, 46] : List UInt8)) = false := bne_eq_false_iff_eq.mpr c11
       clear c11
       have H' := Aside0.mk H
       clear H
       have p159 : 0 ≤ (x8_1 : Int) := of_decide_eq_true (by first | (with_reducible assumption) | assumption)
       have q159 : x8_1 < (t156.length : Int) := of_decide_eq_true (by first | (with_reducible assumption) | assumption)
       obtain ⟨ad159, e159, hx159_0⟩ := Kd.at_string (Kd.R_reads' HO_6.out).2.2 x8_1 p159 q159
       cases e159
       replace p159 := eq_true p159
       replace q159 := eq_true q159
       go_wp2_with (first | ((with_reducible refine gate_callee (f := 222) rfl ?_); refine goesL_ (some 13) rfl rfl Tryz.func222 (by kernel_rfl) rfl #[.string (rdOf ByteArray.empty t156 x8_1)] rfl (by (try simp only [List.map_toArray, List.map_cons, List.map_nil]); first | done | rfl | (simp only [List.length_drop, List.length_take]; rfl)) ?_; (with_reducible refine (spec_l2Name.calls k1 (rdOf ByteArray.empty t156 x8_1) false _ A8.out).mono ?_); rintro e w' ⟨rfl, ⟨nd, rfl⟩⟩; refine ⟨_, rfl, ?_⟩))
       go_roundg k1
       case measure => have := HK1.out; omega
       case rel => exact ⟨(wrap64 (x8_1 + 1)), (by first | rfl | (simp; done) | (simp [*]; done)), H', ⟨by have := HK1.out; omega⟩, ⟨by (with_reducible repeat (first | apply Kd.R_alloc | apply Kd.R_drewN | apply Kd.R_drew)); exact HO_6.out⟩, ⟨(Gtr.bw HB.out)⟩⟩
      ·rw [if_neg c11] at H
       have c11b0 : ((rdOf ByteArray.empty t156 x8_1).toList == ([46, 46] : List UInt8)) = false := beq_eq_false_iff_ne.mpr c11
       have c11b1 : ((rdOf ByteArray.empty t156 x8_1).toList != ([46, 46] : List UInt8)) = true := bne_iff_ne.mpr c11
       obtain rfl := Option.some.inj H
       have p159 : 0 ≤ (x8_1 : Int) := of_decide_eq_true (by first | (with_reducible assumption) | assumption)
       have q159 : x8_1 < (t156.length : Int) := of_decide_eq_true (by first | (with_reducible assumption) | assumption)
       obtain ⟨ad159, e159, hx159_0⟩ := Kd.at_string (Kd.R_reads' HO_6.out).2.2 x8_1 p159 q159
       cases e159
       replace p159 := eq_true p159
       replace q159 := eq_true q159
       go_wp2_with (first | ((with_reducible refine gate_callee (f := 222) rfl ?_); refine goesL_ (some 13) rfl rfl Tryz.func222 (by kernel_rfl) rfl #[.string (rdOf ByteArray.empty t156 x8_1)] rfl (by (try simp only [List.map_toArray, List.map_cons, List.map_nil]); first | done | rfl | (simp only [List.length_drop, List.length_take]; rfl)) ?_; (with_reducible refine (spec_l2Name.calls k1 (rdOf ByteArray.empty t156 x8_1) false _ A8.out).mono ?_); rintro e w' ⟨rfl, ⟨nd, rfl⟩⟩; refine ⟨_, rfl, ?_⟩))
       go_ret
       exact ⟨by first | rfl | (simp [errW_none, errW_some] <;> rfl) | (simp [*, errW_none, errW_some] <;> rfl), (Gtr.bw HB.out)⟩
   ·rw [if_neg c5] at H
    have c5b0 : decide (x8_1 < (t156.length : Int)) = false := decide_eq_false c5
    clear c5
    replace H := Option.bind_eq_some_iff.mp H
    obtain ⟨t161, A120, H⟩ := H
    try dsimp only at H
    have A12 := Aside0.mk A120
    clear A120
    obtain rfl := Option.some.inj H
    go_wp2_with (first | ((with_reducible refine gate_callee (f := 108) rfl ?_); refine goesL_ (some 26) rfl rfl Tryz.func108 (by kernel_rfl) rfl #[.int .i64 (a0.size : Int), .int .i64 1, .int .i64 60] rfl (by (try simp only [List.map_toArray, List.map_cons, List.map_nil]); first | done | rfl | (simp only [List.length_drop, List.length_take]; rfl)) ?_; (with_reducible refine (spec_l1In.calls (a0.size : Int) 1 60 t161 _ A12.out).mono ?_); rintro e w' ⟨rfl, ⟨nd, rfl⟩⟩; refine ⟨_, rfl, ?_⟩))
    go_ret
    exact ⟨by first | rfl | (simp [errW_none, errW_some] <;> rfl) | (simp [*, errW_none, errW_some] <;> rfl), (Gtr.bw HB.out)⟩
end Go.Proofs.YthhmkbchdiflcaaGreatDoor.Q

-- Printed by a program of this session (wip/tools/myprint.py) that runs the kit's print, hand-proved functions among the others.
namespace Go.Proofs.YthhmkbchdiflcaaGreatDoor.Q
open Go.RowKit Go.Proofs.YthhmkbchdiflcaaGreatDoorW.PrintWords Go.Proofs.YthhmkbchdiflcaaGreatDoorW.PrintLast Go.Proofs.YthhmkbchdiflcaaGreatDoorW.PrintMore
attribute [local go_sem] max2_int min2_int max_two min_two max_three min_three max_four min_four   -- for this text's walks alone
set_option linter.unusedVariables false
set_option linter.unusedSimpArgs false

/-! ### spec_l1Mode: function 220 -/
def spec_l1Mode.f (a0 : Int) : Option (Bool) := (spec_l1In.f a0 0 511).bind fun t162 => (some t162)
set_option maxHeartbeats 8000000 in
set_option maxRecDepth 100000 in
theorem spec_l1Mode.calls (a0 : Int) (r : Bool) (w : World) (h : spec_l1Mode.f a0 = some r) :
  Calls Tryz.prog 220 #[.int .i64 a0] w fun e w' => e = .returned (.bool r) ∧ Drawn0 w w' := by
 have H : ((spec_l1In.f a0 0 511).bind fun t162 => (some t162)) = some r := h
 clear h
 replace H := Option.bind_eq_some_iff.mp H
 obtain ⟨t162, A20, H⟩ := H
 try dsimp only at H
 have A2 := Aside0.mk A20
 clear A20
 obtain rfl := Option.some.inj H
 go_enter Tryz.func220, Tryz.ntmps220
 go_wp2_with (first | ((with_reducible refine gate_callee (f := 108) rfl ?_); refine goesL_ (some 4) rfl rfl Tryz.func108 (by kernel_rfl) rfl #[.int .i64 a0, .int .i64 0, .int .i64 511] rfl (by (try simp only [List.map_toArray, List.map_cons, List.map_nil]); first | done | rfl | (simp only [List.length_drop, List.length_take]; rfl)) ?_; (with_reducible refine (spec_l1In.calls a0 0 511 t162 _ A2.out).mono ?_); rintro e w' ⟨rfl, ⟨nd, rfl⟩⟩; refine ⟨_, rfl, ?_⟩))
 go_ret
 exact ⟨by first | rfl | (simp; done) | (simp [*]; done), by repeat (first | exact Drawn0.refl _ | apply Drawn0.step)⟩
end Go.Proofs.YthhmkbchdiflcaaGreatDoor.Q

-- Printed by a program of this session (wip/tools/myprint.py) that runs the kit's print, hand-proved functions among the others.
namespace Go.Proofs.YthhmkbchdiflcaaGreatDoor.Q
open Go.RowKit Go.Proofs.YthhmkbchdiflcaaGreatDoorW.PrintWords Go.Proofs.YthhmkbchdiflcaaGreatDoorW.PrintLast Go.Proofs.YthhmkbchdiflcaaGreatDoorW.PrintMore
attribute [local go_sem] max2_int min2_int max_two min_two max_three min_three max_four min_four   -- for this text's walks alone
set_option linter.unusedVariables false
set_option linter.unusedSimpArgs false

/-! ### impl_isNameByte: function 218 -/
def impl_isNameByte.f (a0 : Int) : Option (Bool) := if a0 ≥ 97 then (if a0 ≤ 122 then (some true) else (if a0 ≥ 48 then (if a0 ≤ 57 then (some true) else (if a0 = 46 then (some true) else (if a0 = 95 then (some true) else (some (a0 == 45))))) else (if a0 = 46 then (some true) else (if a0 = 95 then (some true) else (some (a0 == 45)))))) else (if a0 ≥ 48 then (if a0 ≤ 57 then (some true) else (if a0 = 46 then (some true) else (if a0 = 95 then (some true) else (some (a0 == 45))))) else (if a0 = 46 then (some true) else (if a0 = 95 then (some true) else (some (a0 == 45)))))
set_option maxHeartbeats 8000000 in
set_option maxRecDepth 100000 in
theorem impl_isNameByte.calls (a0 : Int) (r : Bool) (w : World) (h : impl_isNameByte.f a0 = some r) :
  Calls Tryz.prog 218 #[.int .u8 a0] w fun e w' => e = .returned (.bool r) ∧ Drawn0 w w' := by
 have H : (if a0 ≥ 97 then (if a0 ≤ 122 then (some true) else (if a0 ≥ 48 then (if a0 ≤ 57 then (some true) else (if a0 = 46 then (some true) else (if a0 = 95 then (some true) else (some (a0 == 45))))) else (if a0 = 46 then (some true) else (if a0 = 95 then (some true) else (some (a0 == 45)))))) else (if a0 ≥ 48 then (if a0 ≤ 57 then (some true) else (if a0 = 46 then (some true) else (if a0 = 95 then (some true) else (some (a0 == 45))))) else (if a0 = 46 then (some true) else (if a0 = 95 then (some true) else (some (a0 == 45)))))) = some r := h
 clear h
 by_cases c2 : a0 ≥ 97
 ·rw [if_pos c2] at H
  have c2b0 : decide (97 ≤ a0) = true := decide_eq_true c2
  clear c2
  by_cases c3 : a0 ≤ 122
  ·rw [if_pos c3] at H
   have c3b0 : decide (a0 ≤ 122) = true := decide_eq_true c3
   clear c3
   obtain rfl := Option.some.inj H
   go_enter Tryz.func218, Tryz.ntmps218
   go_wp2
   go_ret
   exact ⟨by first | rfl | (simp; done) | (simp [*]; done), by repeat (first | exact Drawn0.refl _ | apply Drawn0.step)⟩
  ·rw [if_neg c3] at H
   have c3b0 : decide (a0 ≤ 122) = false := decide_eq_false c3
   clear c3
   by_cases c4 : a0 ≥ 48
   ·rw [if_pos c4] at H
    have c4b0 : decide (48 ≤ a0) = true := decide_eq_true c4
    clear c4
    by_cases c5 : a0 ≤ 57
    ·rw [if_pos c5] at H
     have c5b0 : decide (a0 ≤ 57) = true := decide_eq_true c5
     clear c5
     obtain rfl := Option.some.inj H
     go_enter Tryz.func218, Tryz.ntmps218
     go_wp2
     go_ret
     exact ⟨by first | rfl | (simp; done) | (simp [*]; done), by repeat (first | exact Drawn0.refl _ | apply Drawn0.step)⟩
    ·rw [if_neg c5] at H
     have c5b0 : decide (a0 ≤ 57) = false := decide_eq_false c5
     clear c5
     by_cases c6 : a0 = 46
     ·rw [if_pos c6] at H
      have c6b0 : (a0 == 46) = true := beq_iff_eq.mpr c6
      have c6b1 : (a0 != 46) = false := bne_eq_false_iff_eq.mpr c6
      clear c6
      obtain rfl := Option.some.inj H
      go_enter Tryz.func218, Tryz.ntmps218
      go_wp2
      go_ret
      exact ⟨by first | rfl | (simp; done) | (simp [*]; done), by repeat (first | exact Drawn0.refl _ | apply Drawn0.step)⟩
     ·rw [if_neg c6] at H
      have c6b0 : (a0 == 46) = false := beq_eq_false_iff_ne.mpr c6
      have c6b1 : (a0 != 46) = true := bne_iff_ne.mpr c6
      by_cases c7 : a0 = 95
      ·rw [if_pos c7] at H
       have c7b0 : (a0 == 95) = true := beq_iff_eq.mpr c7
       have c7b1 : (a0 != 95) = false := bne_eq_false_iff_eq.mpr c7
       clear c7
       obtain rfl := Option.some.inj H
       go_enter Tryz.func218, Tryz.ntmps218
       go_wp2
       go_ret
       exact ⟨by first | rfl | (simp; done) | (simp [*]; done), by repeat (first | exact Drawn0.refl _ | apply Drawn0.step)⟩
      ·rw [if_neg c7] at H
       have c7b0 : (a0 == 95) = false := beq_eq_false_iff_ne.mpr c7
       have c7b1 : (a0 != 95) = true := bne_iff_ne.mpr c7
       obtain rfl := Option.some.inj H
       go_enter Tryz.func218, Tryz.ntmps218
       go_wp2
       go_ret
       exact ⟨by first | rfl | (simp; done) | (simp [*]; done), by repeat (first | exact Drawn0.refl _ | apply Drawn0.step)⟩
   ·rw [if_neg c4] at H
    have c4b0 : decide (48 ≤ a0) = false := decide_eq_false c4
    clear c4
    by_cases c8 : a0 = 46
    ·rw [if_pos c8] at H
     have c8b0 : (a0 == 46) = true := beq_iff_eq.mpr c8
     have c8b1 : (a0 != 46) = false := bne_eq_false_iff_eq.mpr c8
     clear c8
     obtain rfl := Option.some.inj H
     go_enter Tryz.func218, Tryz.ntmps218
     go_wp2
     go_ret
     exact ⟨by first | rfl | (simp; done) | (simp [*]; done), by repeat (first | exact Drawn0.refl _ | apply Drawn0.step)⟩
    ·rw [if_neg c8] at H
     have c8b0 : (a0 == 46) = false := beq_eq_false_iff_ne.mpr c8
     have c8b1 : (a0 != 46) = true := bne_iff_ne.mpr c8
     by_cases c9 : a0 = 95
     ·rw [if_pos c9] at H
      have c9b0 : (a0 == 95) = true := beq_iff_eq.mpr c9
      have c9b1 : (a0 != 95) = false := bne_eq_false_iff_eq.mpr c9
      clear c9
      obtain rfl := Option.some.inj H
      go_enter Tryz.func218, Tryz.ntmps218
      go_wp2
      go_ret
      exact ⟨by first | rfl | (simp; done) | (simp [*]; done), by repeat (first | exact Drawn0.refl _ | apply Drawn0.step)⟩
     ·rw [if_neg c9] at H
      have c9b0 : (a0 == 95) = false := beq_eq_false_iff_ne.mpr c9
      have c9b1 : (a0 != 95) = true := bne_iff_ne.mpr c9
      obtain rfl := Option.some.inj H
      go_enter Tryz.func218, Tryz.ntmps218
      go_wp2
      go_ret
      exact ⟨by first | rfl | (simp; done) | (simp [*]; done), by repeat (first | exact Drawn0.refl _ | apply Drawn0.step)⟩
 ·rw [if_neg c2] at H
  have c2b0 : decide (97 ≤ a0) = false := decide_eq_false c2
  clear c2
  by_cases c10 : a0 ≥ 48
  ·rw [if_pos c10] at H
   have c10b0 : decide (48 ≤ a0) = true := decide_eq_true c10
   clear c10
   by_cases c11 : a0 ≤ 57
   ·rw [if_pos c11] at H
    have c11b0 : decide (a0 ≤ 57) = true := decide_eq_true c11
    clear c11
    obtain rfl := Option.some.inj H
    go_enter Tryz.func218, Tryz.ntmps218
    go_wp2
    go_ret
    exact ⟨by first | rfl | (simp; done) | (simp [*]; done), by repeat (first | exact Drawn0.refl _ | apply Drawn0.step)⟩
   ·rw [if_neg c11] at H
    have c11b0 : decide (a0 ≤ 57) = false := decide_eq_false c11
    clear c11
    by_cases c12 : a0 = 46
    ·rw [if_pos c12] at H
     have c12b0 : (a0 == 46) = true := beq_iff_eq.mpr c12
     have c12b1 : (a0 != 46) = false := bne_eq_false_iff_eq.mpr c12
     clear c12
     obtain rfl := Option.some.inj H
     go_enter Tryz.func218, Tryz.ntmps218
     go_wp2
     go_ret
     exact ⟨by first | rfl | (simp; done) | (simp [*]; done), by repeat (first | exact Drawn0.refl _ | apply Drawn0.step)⟩
    ·rw [if_neg c12] at H
     have c12b0 : (a0 == 46) = false := beq_eq_false_iff_ne.mpr c12
     have c12b1 : (a0 != 46) = true := bne_iff_ne.mpr c12
     by_cases c13 : a0 = 95
     ·rw [if_pos c13] at H
      have c13b0 : (a0 == 95) = true := beq_iff_eq.mpr c13
      have c13b1 : (a0 != 95) = false := bne_eq_false_iff_eq.mpr c13
      clear c13
      obtain rfl := Option.some.inj H
      go_enter Tryz.func218, Tryz.ntmps218
      go_wp2
      go_ret
      exact ⟨by first | rfl | (simp; done) | (simp [*]; done), by repeat (first | exact Drawn0.refl _ | apply Drawn0.step)⟩
     ·rw [if_neg c13] at H
      have c13b0 : (a0 == 95) = false := beq_eq_false_iff_ne.mpr c13
      have c13b1 : (a0 != 95) = true := bne_iff_ne.mpr c13
      obtain rfl := Option.some.inj H
      go_enter Tryz.func218, Tryz.ntmps218
      go_wp2
      go_ret
      exact ⟨by first | rfl | (simp; done) | (simp [*]; done), by repeat (first | exact Drawn0.refl _ | apply Drawn0.step)⟩
  ·rw [if_neg c10] at H
   have c10b0 : decide (48 ≤ a0) = false := decide_eq_false c10
   clear c10
   by_cases c14 : a0 = 46
   ·rw [if_pos c14] at H
    have c14b0 : (a0 == 46) = true := beq_iff_eq.mpr c14
    have c14b1 : (a0 != 46) = false := bne_eq_false_iff_eq.mpr c14
    clear c14
    obtain rfl := Option.some.inj H
    go_enter Tryz.func218, Tryz.ntmps218
    go_wp2
    go_ret
    exact ⟨by first | rfl | (simp; done) | (simp [*]; done), by repeat (first | exact Drawn0.refl _ | apply Drawn0.step)⟩
   ·rw [if_neg c14] at H
    have c14b0 : (a0 == 46) = false := beq_eq_false_iff_ne.mpr c14
    have c14b1 : (a0 != 46) = true := bne_iff_ne.mpr c14
    by_cases c15 : a0 = 95
    ·rw [if_pos c15] at H
     have c15b0 : (a0 == 95) = true := beq_iff_eq.mpr c15
     have c15b1 : (a0 != 95) = false := bne_eq_false_iff_eq.mpr c15
     clear c15
     obtain rfl := Option.some.inj H
     go_enter Tryz.func218, Tryz.ntmps218
     go_wp2
     go_ret
     exact ⟨by first | rfl | (simp; done) | (simp [*]; done), by repeat (first | exact Drawn0.refl _ | apply Drawn0.step)⟩
    ·rw [if_neg c15] at H
     have c15b0 : (a0 == 95) = false := beq_eq_false_iff_ne.mpr c15
     have c15b1 : (a0 != 95) = true := bne_iff_ne.mpr c15
     obtain rfl := Option.some.inj H
     go_enter Tryz.func218, Tryz.ntmps218
     go_wp2
     go_ret
     exact ⟨by first | rfl | (simp; done) | (simp [*]; done), by repeat (first | exact Drawn0.refl _ | apply Drawn0.step)⟩
end Go.Proofs.YthhmkbchdiflcaaGreatDoor.Q

-- Printed by a program of this session (wip/tools/myprint.py) that runs the kit's print, hand-proved functions among the others.
namespace Go.Proofs.YthhmkbchdiflcaaGreatDoor.Q
open Go.RowKit Go.Proofs.YthhmkbchdiflcaaGreatDoorW.PrintWords Go.Proofs.YthhmkbchdiflcaaGreatDoorW.PrintLast Go.Proofs.YthhmkbchdiflcaaGreatDoorW.PrintMore
attribute [local go_sem] max2_int min2_int max_two min_two max_three min_three max_four min_four   -- for this text's walks alone
set_option linter.unusedVariables false
set_option linter.unusedSimpArgs false

/-! ### impl_within: function 71 -/
def impl_within.f (a0 : Int) (a1 : Int) (a2 : Int) : Option (Bool) := if a0 ≥ a1 then (some (decide (a0 ≤ a2))) else (some false)
set_option maxHeartbeats 8000000 in
set_option maxRecDepth 100000 in
theorem impl_within.calls (a0 : Int) (a1 : Int) (a2 : Int) (r : Bool) (w : World) (h : impl_within.f a0 a1 a2 = some r) :
  Calls Tryz.prog 71 #[.int .i64 a0, .int .i64 a1, .int .i64 a2] w fun e w' => e = .returned (.bool r) ∧ Drawn0 w w' := by
 have H : (if a0 ≥ a1 then (some (decide (a0 ≤ a2))) else (some false)) = some r := h
 clear h
 by_cases c4 : a0 ≥ a1
 ·rw [if_pos c4] at H
  have c4b0 : decide (a1 ≤ a0) = true := decide_eq_true c4
  clear c4
  obtain rfl := Option.some.inj H
  go_enter Tryz.func71, Tryz.ntmps71
  go_wp2
  go_ret
  exact ⟨by first | rfl | (simp; done) | (simp [*]; done), by repeat (first | exact Drawn0.refl _ | apply Drawn0.step)⟩
 ·rw [if_neg c4] at H
  have c4b0 : decide (a1 ≤ a0) = false := decide_eq_false c4
  clear c4
  obtain rfl := Option.some.inj H
  go_enter Tryz.func71, Tryz.ntmps71
  go_wp2
  go_ret
  exact ⟨by first | rfl | (simp; done) | (simp [*]; done), by repeat (first | exact Drawn0.refl _ | apply Drawn0.step)⟩
end Go.Proofs.YthhmkbchdiflcaaGreatDoor.Q

-- Printed by a program of this session (wip/tools/myprint.py) that runs the kit's print, hand-proved functions among the others.
namespace Go.Proofs.YthhmkbchdiflcaaGreatDoor.Q
open Go.RowKit Go.Proofs.YthhmkbchdiflcaaGreatDoorW.PrintWords Go.Proofs.YthhmkbchdiflcaaGreatDoorW.PrintLast Go.Proofs.YthhmkbchdiflcaaGreatDoorW.PrintMore
attribute [local go_sem] max2_int min2_int max_two min_two max_three min_three max_four min_four   -- for this text's walks alone
set_option linter.unusedVariables false
set_option linter.unusedSimpArgs false

/-! ### impl_isMode: function 258 -/
def impl_isMode.f (a0 : Int) : Option (Bool) := (impl_within.f a0 0 511).bind fun t329 => (some t329)
set_option maxHeartbeats 8000000 in
set_option maxRecDepth 100000 in
theorem impl_isMode.calls (a0 : Int) (r : Bool) (w : World) (h : impl_isMode.f a0 = some r) :
  Calls Tryz.prog 258 #[.int .i64 a0] w fun e w' => e = .returned (.bool r) ∧ Drawn0 w w' := by
 have H : ((impl_within.f a0 0 511).bind fun t329 => (some t329)) = some r := h
 clear h
 replace H := Option.bind_eq_some_iff.mp H
 obtain ⟨t329, A20, H⟩ := H
 try dsimp only at H
 have A2 := Aside0.mk A20
 clear A20
 obtain rfl := Option.some.inj H
 go_enter Tryz.func258, Tryz.ntmps258
 go_wp2_with (first | ((with_reducible refine gate_callee (f := 71) rfl ?_); refine goesL_ (some 4) rfl rfl Tryz.func71 (by kernel_rfl) rfl #[.int .i64 a0, .int .i64 0, .int .i64 511] rfl (by (try simp only [List.map_toArray, List.map_cons, List.map_nil]); first | done | rfl | (simp only [List.length_drop, List.length_take]; rfl)) ?_; (with_reducible refine (impl_within.calls a0 0 511 t329 _ A2.out).mono ?_); rintro e w' ⟨rfl, ⟨nd, rfl⟩⟩; refine ⟨_, rfl, ?_⟩))
 go_ret
 exact ⟨by first | rfl | (simp; done) | (simp [*]; done), by repeat (first | exact Drawn0.refl _ | apply Drawn0.step)⟩
end Go.Proofs.YthhmkbchdiflcaaGreatDoor.Q

-- Printed by a program of this session (wip/tools/myprint.py) that runs the kit's print, hand-proved functions among the others.
namespace Go.Proofs.YthhmkbchdiflcaaGreatDoor.Q
open Go.RowKit Go.Proofs.YthhmkbchdiflcaaGreatDoorW.PrintWords Go.Proofs.YthhmkbchdiflcaaGreatDoorW.PrintLast Go.Proofs.YthhmkbchdiflcaaGreatDoorW.PrintMore
attribute [local go_sem] max2_int min2_int max_two min_two max_three min_three max_four min_four   -- for this text's walks alone
set_option linter.unusedVariables false
set_option linter.unusedSimpArgs false

/-! ### impl_isId: function 259 -/
def impl_isId.f (a0 : Int) : Option (Bool) := (impl_within.f a0 0 99).bind fun t330 => (some t330)
set_option maxHeartbeats 8000000 in
set_option maxRecDepth 100000 in
theorem impl_isId.calls (a0 : Int) (r : Bool) (w : World) (h : impl_isId.f a0 = some r) :
  Calls Tryz.prog 259 #[.int .i64 a0] w fun e w' => e = .returned (.bool r) ∧ Drawn0 w w' := by
 have H : ((impl_within.f a0 0 99).bind fun t330 => (some t330)) = some r := h
 clear h
 replace H := Option.bind_eq_some_iff.mp H
 obtain ⟨t330, A20, H⟩ := H
 try dsimp only at H
 have A2 := Aside0.mk A20
 clear A20
 obtain rfl := Option.some.inj H
 go_enter Tryz.func259, Tryz.ntmps259
 go_wp2_with (first | ((with_reducible refine gate_callee (f := 71) rfl ?_); refine goesL_ (some 4) rfl rfl Tryz.func71 (by kernel_rfl) rfl #[.int .i64 a0, .int .i64 0, .int .i64 99] rfl (by (try simp only [List.map_toArray, List.map_cons, List.map_nil]); first | done | rfl | (simp only [List.length_drop, List.length_take]; rfl)) ?_; (with_reducible refine (impl_within.calls a0 0 99 t330 _ A2.out).mono ?_); rintro e w' ⟨rfl, ⟨nd, rfl⟩⟩; refine ⟨_, rfl, ?_⟩))
 go_ret
 exact ⟨by first | rfl | (simp; done) | (simp [*]; done), by repeat (first | exact Drawn0.refl _ | apply Drawn0.step)⟩
end Go.Proofs.YthhmkbchdiflcaaGreatDoor.Q

-- Printed by a program of this session (wip/tools/myprint.py) that runs the kit's print, hand-proved functions among the others.
namespace Go.Proofs.YthhmkbchdiflcaaGreatDoor.Q
open Go.RowKit Go.Proofs.YthhmkbchdiflcaaGreatDoorW.PrintWords Go.Proofs.YthhmkbchdiflcaaGreatDoorW.PrintLast Go.Proofs.YthhmkbchdiflcaaGreatDoorW.PrintMore
attribute [local go_sem] max2_int min2_int max_two min_two max_three min_three max_four min_four   -- for this text's walks alone
set_option linter.unusedVariables false
set_option linter.unusedSimpArgs false

/-! ### impl_isTime: function 260 -/
def impl_isTime.f (a0 : Int) : Option (Bool) := (impl_within.f a0 0 1000000).bind fun t331 => (some t331)
set_option maxHeartbeats 8000000 in
set_option maxRecDepth 100000 in
theorem impl_isTime.calls (a0 : Int) (r : Bool) (w : World) (h : impl_isTime.f a0 = some r) :
  Calls Tryz.prog 260 #[.int .i64 a0] w fun e w' => e = .returned (.bool r) ∧ Drawn0 w w' := by
 have H : ((impl_within.f a0 0 1000000).bind fun t331 => (some t331)) = some r := h
 clear h
 replace H := Option.bind_eq_some_iff.mp H
 obtain ⟨t331, A20, H⟩ := H
 try dsimp only at H
 have A2 := Aside0.mk A20
 clear A20
 obtain rfl := Option.some.inj H
 go_enter Tryz.func260, Tryz.ntmps260
 go_wp2_with (first | ((with_reducible refine gate_callee (f := 71) rfl ?_); refine goesL_ (some 4) rfl rfl Tryz.func71 (by kernel_rfl) rfl #[.int .i64 a0, .int .i64 0, .int .i64 1000000] rfl (by (try simp only [List.map_toArray, List.map_cons, List.map_nil]); first | done | rfl | (simp only [List.length_drop, List.length_take]; rfl)) ?_; (with_reducible refine (impl_within.calls a0 0 1000000 t331 _ A2.out).mono ?_); rintro e w' ⟨rfl, ⟨nd, rfl⟩⟩; refine ⟨_, rfl, ?_⟩))
 go_ret
 exact ⟨by first | rfl | (simp; done) | (simp [*]; done), by repeat (first | exact Drawn0.refl _ | apply Drawn0.step)⟩
end Go.Proofs.YthhmkbchdiflcaaGreatDoor.Q

-- Printed by a program of this session (wip/tools/myprint.py) that runs the kit's print, hand-proved functions among the others.
namespace Go.Proofs.YthhmkbchdiflcaaGreatDoor.Q
open Go.RowKit Go.Proofs.YthhmkbchdiflcaaGreatDoorW.PrintWords Go.Proofs.YthhmkbchdiflcaaGreatDoorW.PrintLast Go.Proofs.YthhmkbchdiflcaaGreatDoorW.PrintMore
attribute [local go_sem] max2_int min2_int max_two min_two max_three min_three max_four min_four   -- for this text's walks alone
set_option linter.unusedVariables false
set_option linter.unusedSimpArgs false

/-! ### impl_isDots: function 212 -/
def impl_isDots.f (a0 : ByteArray) : Option (Bool) := if a0.toList = ([46] : List UInt8) then (some true) else (some (a0.toList == ([46, 46] : List UInt8)))
set_option maxHeartbeats 8000000 in
set_option maxRecDepth 100000 in
theorem impl_isDots.calls (a0 : ByteArray) (r : Bool) (w : World) (h : impl_isDots.f a0 = some r) :
  Calls Tryz.prog 212 #[.string a0] w fun e w' => e = .returned (.bool r) ∧ Drawn0 w w' := by
 have H : (if a0.toList = ([46] : List UInt8) then (some true) else (some (a0.toList == ([46, 46] : List UInt8)))) = some r := h
 clear h
 by_cases c2 : a0.toList = ([46] : List UInt8)
 ·rw [if_pos c2] at H
  have c2b0 : (a0.toList == ([46] : List UInt8)) = true := beq_iff_eq.mpr c2
  have c2b1 : (a0.toList != ([46] : List UInt8)) = false := bne_eq_false_iff_eq.mpr c2
  clear c2
  obtain rfl := Option.some.inj H
  go_enter Tryz.func212, Tryz.ntmps212
  go_wp2
  go_ret
  exact ⟨by first | rfl | (simp; done) | (simp [*]; done), by repeat (first | exact Drawn0.refl _ | apply Drawn0.step)⟩
 ·rw [if_neg c2] at H
  have c2b0 : (a0.toList == ([46] : List UInt8)) = false := beq_eq_false_iff_ne.mpr c2
  have c2b1 : (a0.toList != ([46] : List UInt8)) = true := bne_iff_ne.mpr c2
  obtain rfl := Option.some.inj H
  go_enter Tryz.func212, Tryz.ntmps212
  go_wp2
  go_ret
  exact ⟨by first | rfl | (simp; done) | (simp [*]; done), by repeat (first | exact Drawn0.refl _ | apply Drawn0.step)⟩
end Go.Proofs.YthhmkbchdiflcaaGreatDoor.Q

-- Printed by a program of this session (wip/tools/myprint.py) that runs the kit's print, hand-proved functions among the others.
namespace Go.Proofs.YthhmkbchdiflcaaGreatDoor.Q
open Go.RowKit Go.Proofs.YthhmkbchdiflcaaGreatDoorW.PrintWords Go.Proofs.YthhmkbchdiflcaaGreatDoorW.PrintLast Go.Proofs.YthhmkbchdiflcaaGreatDoorW.PrintMore
attribute [local go_sem] max2_int min2_int max_two min_two max_three min_three max_four min_four   -- for this text's walks alone
set_option linter.unusedVariables false
set_option linter.unusedSimpArgs false

/-! ### spec_l18At: function 76 -/
def spec_l18At.l0 : Nat → ByteArray → List (S74) → Int → Int → Option (Int)
 | 0, _, _, _, _ => none
 | k + 1, x1, x7, x8, x9 => if x9 < x8 then (if 0 ≤ x9 then (if x9 < (x7.length : Int) then (if ((rd_T74 x7 x9).f0).toList = x1.toList then (some x9) else (spec_l18At.l0 k x1 x7 x8 (wrap64 (x9 + 1)))) else (none)) else (none)) else (some (-1))
def spec_l18At.f (k : Nat) (l0 : List (S74)) (a1 : ByteArray) : Option (Int) := spec_l18At.l0 k a1 l0 (l0.length : Int) 0
set_option maxHeartbeats 8000000 in
set_option maxRecDepth 100000 in
theorem spec_l18At.calls (k : Nat) (A0 : Option Addr) (c0 : Nat) (l0 : List (S74)) (a1 : ByteArray) (r : Int) (w : World) (hr0 : Kd.C k74 w A0 l0.length l0) (hc0 : l0.length ≤ c0) (h : spec_l18At.f k l0 a1 = some r) :
  Calls Tryz.prog 76 #[.slice A0 l0.length c0, .string a1] w fun e w' => e = .returned (.int .i64 r) ∧ Below w.heap.size w w' := by
 have hu74 := Tryz.underlying74
 have HR0 := Aside0.mk hr0
 have HC0 := Aside0.mk hc0
 clear hr0 hc0
 have HB := Aside0.mk (Below.refl w.heap.size w)
 have H : (spec_l18At.l0 k a1 l0 (l0.length : Int) 0) = some r := h
 clear h
 have H' := Aside0.mk H
 clear H
 go_enter Tryz.func76, Tryz.ntmps76
 go_wp2
 go_loopg [9] k (fun kq v9 w' => ∃ (x9_1 : Int), v9 = .int .i64 x9_1 ∧ Aside0 (spec_l18At.l0 kq a1 l0 (l0.length : Int) x9_1 = some r) ∧ Aside0 (kq ≤ k) ∧ Aside0 (Below w.heap.size w w'))
 case atStart => exact ⟨(0), (by first | rfl | (simp; done) | (simp [*]; done)), H', ⟨Nat.le_refl _⟩, ⟨(Gtr.bw HB.out)⟩⟩
 case round =>
  clear H'
  try clear p2
  obtain ⟨x9_1, rfl, HA, HK1, HB⟩ := hrel
  cases gk with
  | zero => exact absurd HA.out (by simp [spec_l18At.l0])
  | succ k1 =>
   have H := HA.out
   clear HA
   simp only [spec_l18At.l0] at H
   by_cases c3 : x9_1 < (l0.length : Int)
   ·rw [if_pos c3] at H
    have c3b0 : decide (x9_1 < (l0.length : Int)) = true := decide_eq_true c3
    clear c3
    refine Or.elim (Classical.em (0 ≤ x9_1)) (fun c4 => ?_) (fun c4 => by rw [if_neg c4] at H; exact absurd H (by simp))
    rw [if_pos c4] at H
    have c4b0 : decide (0 ≤ x9_1) = true := decide_eq_true c4
    clear c4
    refine Or.elim (Classical.em (x9_1 < (l0.length : Int))) (fun c5 => ?_) (fun c5 => by rw [if_neg c5] at H; exact absurd H (by simp))
    rw [if_pos c5] at H
    have c5b0 : decide (x9_1 < (l0.length : Int)) = true := decide_eq_true c5
    clear c5
    by_cases c6 : ((rd_T74 l0 x9_1).f0).toList = a1.toList
    ·rw [if_pos c6] at H
     have c6b0 : (((rd_T74 l0 x9_1).f0).toList == a1.toList) = true := beq_iff_eq.mpr c6
     have c6b1 : (((rd_T74 l0 x9_1).f0).toList != a1.toList) = false := bne_eq_false_iff_eq.mpr c6
     clear c6
     obtain rfl := Option.some.inj H
     have p241 : 0 ≤ (x9_1 : Int) := of_decide_eq_true (by first | (with_reducible assumption) | assumption)
     have q241 : x9_1 < (l0.length : Int) := of_decide_eq_true (by first | (with_reducible assumption) | assumption)
     obtain ⟨ad241, e241, hx241_0, hx241_1, hx241_2, hx241_3, hx241_4, hx241_5, hx241_6, hx241_7⟩ := at_T74 HR0.out x9_1 p241 q241
     cases e241
     replace hx241_0 := (HB.out.cell (World.block_lt_of_cell? w _ hx241_0)).trans hx241_0
     replace hx241_1 := (HB.out.cell (World.block_lt_of_cell? w _ hx241_1)).trans hx241_1
     replace hx241_2 := (HB.out.cell (World.block_lt_of_cell? w _ hx241_2)).trans hx241_2
     replace hx241_3 := (HB.out.cell (World.block_lt_of_cell? w _ hx241_3)).trans hx241_3
     replace hx241_4 := (HB.out.cell (World.block_lt_of_cell? w _ hx241_4)).trans hx241_4
     replace hx241_5 := (HB.out.cell (World.block_lt_of_cell? w _ hx241_5)).trans hx241_5
     replace hx241_6 := (HB.out.cell (World.block_lt_of_cell? w _ hx241_6)).trans hx241_6
     replace hx241_7 := (HB.out.cell (World.block_lt_of_cell? w _ hx241_7)).trans hx241_7
     replace p241 := eq_true p241
     replace q241 := eq_true q241
     go_wp2_with (first | ((with_reducible refine gate_dst (N := 6) rfl ?_); refine box_event ?hg (N := 6) ?hd (cs := #[.string (⟨#[]⟩ : ByteArray), .int .i64 0, .int .i64 0, .int .i64 0, .int .i64 0, .int .i64 0, .int .i64 0, .string (⟨#[]⟩ : ByteArray)]) (t := 74) ?hr ?_; (case hd => rfl); (case hg => rfl); (case hr => first | (go_simp; done) | (go_simp; rfl)); intro gb242 hg w7 hbox hb; have n0_ := Aside0.mk (below_step (Gtr.bw HB.out) hb); have n1_ := Aside0.mk (hbox); have n2_ := Aside0.mk ((by rw [hg]; exact (below_size (Gtr.bw HB.out)) : w.heap.size ≤ gb242)); have n3_ := Aside0.mk ((by rw [hg]; exact (below_size (Gtr.bw HB.out)) : w.heap.size ≤ gb242)); clear HB; have HB := n0_; have BK242 := n1_; have GW242 := n2_; have GE242 := n3_; clear n0_ n1_ n2_ n3_; clear hb hbox hg; have hcz8_0 : w7.cell? ⟨gb242, 0, none⟩ = some (.string (⟨#[]⟩ : ByteArray)) := (blk_cell BK242.out 0).trans rfl; have hcz8_1 : w7.cell? ⟨gb242, 1, none⟩ = some (.int .i64 0) := (blk_cell BK242.out 1).trans rfl; have hcz8_2 : w7.cell? ⟨gb242, 2, none⟩ = some (.int .i64 0) := (blk_cell BK242.out 2).trans rfl; have hcz8_3 : w7.cell? ⟨gb242, 3, none⟩ = some (.int .i64 0) := (blk_cell BK242.out 3).trans rfl; have hcz8_4 : w7.cell? ⟨gb242, 4, none⟩ = some (.int .i64 0) := (blk_cell BK242.out 4).trans rfl; have hcz8_5 : w7.cell? ⟨gb242, 5, none⟩ = some (.int .i64 0) := (blk_cell BK242.out 5).trans rfl; have hcz8_6 : w7.cell? ⟨gb242, 6, none⟩ = some (.int .i64 0) := (blk_cell BK242.out 6).trans rfl; have hcz8_7 : w7.cell? ⟨gb242, 7, none⟩ = some (.string (⟨#[]⟩ : ByteArray)) := (blk_cell BK242.out 7).trans rfl; have hfz8_0 := blk_frozen BK242.out 0; have hfz8_1 := blk_frozen BK242.out 1; have hfz8_2 := blk_frozen BK242.out 2; have hfz8_3 := blk_frozen BK242.out 3; have hfz8_4 := blk_frozen BK242.out 4; have hfz8_5 := blk_frozen BK242.out 5; have hfz8_6 := blk_frozen BK242.out 6; have hfz8_7 := blk_frozen BK242.out 7))
     go_ret
     exact ⟨by first | rfl | (simp [errW_none, errW_some] <;> rfl) | (simp [*, errW_none, errW_some] <;> rfl), (Gtr.bw HB.out)⟩
    ·rw [if_neg c6] at H
     have c6b0 : (((rd_T74 l0 x9_1).f0).toList == a1.toList) = false := beq_eq_false_iff_ne.mpr c6
     have c6b1 : (((rd_T74 l0 x9_1).f0).toList != a1.toList) = true := bne_iff_ne.mpr c6
     have H' := Aside0.mk H
     clear H
     have p241 : 0 ≤ (x9_1 : Int) := of_decide_eq_true (by first | (with_reducible assumption) | assumption)
     have q241 : x9_1 < (l0.length : Int) := of_decide_eq_true (by first | (with_reducible assumption) | assumption)
     obtain ⟨ad241, e241, hx241_0, hx241_1, hx241_2, hx241_3, hx241_4, hx241_5, hx241_6, hx241_7⟩ := at_T74 HR0.out x9_1 p241 q241
     cases e241
     replace hx241_0 := (HB.out.cell (World.block_lt_of_cell? w _ hx241_0)).trans hx241_0
     replace hx241_1 := (HB.out.cell (World.block_lt_of_cell? w _ hx241_1)).trans hx241_1
     replace hx241_2 := (HB.out.cell (World.block_lt_of_cell? w _ hx241_2)).trans hx241_2
     replace hx241_3 := (HB.out.cell (World.block_lt_of_cell? w _ hx241_3)).trans hx241_3
     replace hx241_4 := (HB.out.cell (World.block_lt_of_cell? w _ hx241_4)).trans hx241_4
     replace hx241_5 := (HB.out.cell (World.block_lt_of_cell? w _ hx241_5)).trans hx241_5
     replace hx241_6 := (HB.out.cell (World.block_lt_of_cell? w _ hx241_6)).trans hx241_6
     replace hx241_7 := (HB.out.cell (World.block_lt_of_cell? w _ hx241_7)).trans hx241_7
     replace p241 := eq_true p241
     replace q241 := eq_true q241
     go_wp2_with (first | ((with_reducible refine gate_dst (N := 6) rfl ?_); refine box_event ?hg (N := 6) ?hd (cs := #[.string (⟨#[]⟩ : ByteArray), .int .i64 0, .int .i64 0, .int .i64 0, .int .i64 0, .int .i64 0, .int .i64 0, .string (⟨#[]⟩ : ByteArray)]) (t := 74) ?hr ?_; (case hd => rfl); (case hg => rfl); (case hr => first | (go_simp; done) | (go_simp; rfl)); intro gb242 hg w9 hbox hb; have n0_ := Aside0.mk (below_step (Gtr.bw HB.out) hb); have n1_ := Aside0.mk (hbox); have n2_ := Aside0.mk ((by rw [hg]; exact (below_size (Gtr.bw HB.out)) : w.heap.size ≤ gb242)); have n3_ := Aside0.mk ((by rw [hg]; exact (below_size (Gtr.bw HB.out)) : w.heap.size ≤ gb242)); clear HB; have HB := n0_; have BK242 := n1_; have GW242 := n2_; have GE242 := n3_; clear n0_ n1_ n2_ n3_; clear hb hbox hg; have hcz10_0 : w9.cell? ⟨gb242, 0, none⟩ = some (.string (⟨#[]⟩ : ByteArray)) := (blk_cell BK242.out 0).trans rfl; have hcz10_1 : w9.cell? ⟨gb242, 1, none⟩ = some (.int .i64 0) := (blk_cell BK242.out 1).trans rfl; have hcz10_2 : w9.cell? ⟨gb242, 2, none⟩ = some (.int .i64 0) := (blk_cell BK242.out 2).trans rfl; have hcz10_3 : w9.cell? ⟨gb242, 3, none⟩ = some (.int .i64 0) := (blk_cell BK242.out 3).trans rfl; have hcz10_4 : w9.cell? ⟨gb242, 4, none⟩ = some (.int .i64 0) := (blk_cell BK242.out 4).trans rfl; have hcz10_5 : w9.cell? ⟨gb242, 5, none⟩ = some (.int .i64 0) := (blk_cell BK242.out 5).trans rfl; have hcz10_6 : w9.cell? ⟨gb242, 6, none⟩ = some (.int .i64 0) := (blk_cell BK242.out 6).trans rfl; have hcz10_7 : w9.cell? ⟨gb242, 7, none⟩ = some (.string (⟨#[]⟩ : ByteArray)) := (blk_cell BK242.out 7).trans rfl; have hfz10_0 := blk_frozen BK242.out 0; have hfz10_1 := blk_frozen BK242.out 1; have hfz10_2 := blk_frozen BK242.out 2; have hfz10_3 := blk_frozen BK242.out 3; have hfz10_4 := blk_frozen BK242.out 4; have hfz10_5 := blk_frozen BK242.out 5; have hfz10_6 := blk_frozen BK242.out 6; have hfz10_7 := blk_frozen BK242.out 7))
     go_roundg k1
     case measure => have := HK1.out; omega
     case rel => exact ⟨(wrap64 (x9_1 + 1)), (by first | rfl | (simp; done) | (simp [*]; done)), H', ⟨by have := HK1.out; omega⟩, ⟨(Gtr.bw HB.out)⟩⟩
   ·rw [if_neg c3] at H
    have c3b0 : decide (x9_1 < (l0.length : Int)) = false := decide_eq_false c3
    clear c3
    obtain rfl := Option.some.inj H
    go_wp2
    go_ret
    exact ⟨by first | rfl | (simp [errW_none, errW_some] <;> rfl) | (simp [*, errW_none, errW_some] <;> rfl), (Gtr.bw HB.out)⟩
end Go.Proofs.YthhmkbchdiflcaaGreatDoor.Q

-- Printed by a program of this session (wip/tools/myprint.py) that runs the kit's print, hand-proved functions among the others.
namespace Go.Proofs.YthhmkbchdiflcaaGreatDoor.Q
open Go.RowKit Go.Proofs.YthhmkbchdiflcaaGreatDoorW.PrintWords Go.Proofs.YthhmkbchdiflcaaGreatDoorW.PrintLast Go.Proofs.YthhmkbchdiflcaaGreatDoorW.PrintMore
attribute [local go_sem] max2_int min2_int max_two min_two max_three min_three max_four min_four   -- for this text's walks alone
set_option linter.unusedVariables false
set_option linter.unusedSimpArgs false

/-! ### spec_l18Bare: function 78 -/
def spec_l18Bare.f (a0_0 : ByteArray) (a0_1 : Int) (a0_2 : Int) (a0_3 : Int) (a0_4 : Int) (a0_5 : Int) (a0_6 : Int) (a0_7 : ByteArray) : Option (ByteArray × Int × Int × Int × Int × Int × Int × ByteArray) := some (a0_0, a0_1, a0_2, a0_3, a0_4, a0_5, 0, a0_7)
set_option maxHeartbeats 8000000 in
set_option maxRecDepth 100000 in
theorem spec_l18Bare.calls (a0_0 : ByteArray) (a0_1 : Int) (a0_2 : Int) (a0_3 : Int) (a0_4 : Int) (a0_5 : Int) (a0_6 : Int) (a0_7 : ByteArray) (r1 : ByteArray) (r2 : Int) (r3 : Int) (r4 : Int) (r5 : Int) (r6 : Int) (r7 : Int) (r8 : ByteArray) (w : World) (h : spec_l18Bare.f a0_0 a0_1 a0_2 a0_3 a0_4 a0_5 a0_6 a0_7 = some (r1, r2, r3, r4, r5, r6, r7, r8)) :
  Calls Tryz.prog 78 #[.agg #[.string a0_0, .int .i64 a0_1, .int .i64 a0_2, .int .i64 a0_3, .int .i64 a0_4, .int .i64 a0_5, .int .i64 a0_6, .string a0_7]] w fun e w' => e = .returned (.agg #[.string r1, .int .i64 r2, .int .i64 r3, .int .i64 r4, .int .i64 r5, .int .i64 r6, .int .i64 r7, .string r8]) ∧ Below w.heap.size w w' := by
 have hu74 := Tryz.underlying74
 have HB := Aside0.mk (Below.refl w.heap.size w)
 have H : (some (a0_0, a0_1, a0_2, a0_3, a0_4, a0_5, 0, a0_7)) = some (r1, r2, r3, r4, r5, r6, r7, r8) := h
 clear h
 simp only [Option.some.injEq, Prod.mk.injEq] at H
 obtain ⟨rfl, rfl, rfl, rfl, rfl, rfl, rfl, rfl⟩ := H
 go_enter Tryz.func78, Tryz.ntmps78
 go_wp2_with (first | ((with_reducible refine gate_dst (N := 1) rfl ?_); refine box_event ?hg (N := 1) ?hd (cs := #[.string a0_0, .int .i64 a0_1, .int .i64 a0_2, .int .i64 a0_3, .int .i64 a0_4, .int .i64 a0_5, .int .i64 a0_6, .string a0_7]) (t := 74) ?hr ?_; (case hd => rfl); (case hg => rfl); (case hr => first | (go_simp; done) | (go_simp; rfl)); intro gb243 hg w2 hbox hb; have n0_ := Aside0.mk (below_step (Gtr.bw HB.out) hb); have n1_ := Aside0.mk (hbox); have n2_ := Aside0.mk ((by rw [hg]; exact (below_size (Gtr.bw HB.out)) : w.heap.size ≤ gb243)); have n3_ := Aside0.mk ((by rw [hg]; exact (below_size (Gtr.bw HB.out)) : w.heap.size ≤ gb243)); clear HB; have HB := n0_; have BK243 := n1_; have GW243 := n2_; have GE243 := n3_; clear n0_ n1_ n2_ n3_; clear hb hbox hg) | ((with_reducible refine gate_dst (N := 2) rfl ?_); refine box_event ?hg (N := 2) ?hd (cs := #[.string (⟨#[]⟩ : ByteArray), .int .i64 0, .int .i64 0, .int .i64 0, .int .i64 0, .int .i64 0, .int .i64 0, .string (⟨#[]⟩ : ByteArray)]) (t := 74) ?hr ?_; (case hd => rfl); (case hg => rfl); (case hr => first | (go_simp; done) | (go_simp; rfl)); intro gb244 hg w3 hbox hb; have n0_ := Aside0.mk (blk_below (g := gb243) (o := .cells #[.string a0_0, .int .i64 a0_1, .int .i64 a0_2, .int .i64 a0_3, .int .i64 a0_4, .int .i64 a0_5, .int .i64 a0_6, .string a0_7] 74 (0, 0)) (by (with_reducible repeat (first | refine blk_drewN ?_ _ | refine blk_drew ?_ | refine blk_alloc ?_ _)); exact BK243.out) hb); have n1_ := Aside0.mk (below_step (Gtr.bw HB.out) hb); have n2_ := Aside0.mk (hbox); have n3_ := Aside0.mk ((by rw [hg]; exact (below_size (Gtr.bw HB.out)) : w.heap.size ≤ gb244)); have n4_ := Aside0.mk ((by rw [hg]; exact (below_size (Gtr.bw HB.out)) : w.heap.size ≤ gb244)); have n5_ := Aside0.mk ((by rw [hg]; exact Nat.ne_of_lt (blk_lt (g := gb243) (o := .cells #[.string a0_0, .int .i64 a0_1, .int .i64 a0_2, .int .i64 a0_3, .int .i64 a0_4, .int .i64 a0_5, .int .i64 a0_6, .string a0_7] 74 (0, 0)) (by (with_reducible repeat (first | refine blk_drewN ?_ _ | refine blk_drew ?_ | refine blk_alloc ?_ _)); exact BK243.out)) : gb243 ≠ gb244)); have n6_ := Aside0.mk ((by rw [hg]; exact Nat.ne_of_gt (blk_lt (g := gb243) (o := .cells #[.string a0_0, .int .i64 a0_1, .int .i64 a0_2, .int .i64 a0_3, .int .i64 a0_4, .int .i64 a0_5, .int .i64 a0_6, .string a0_7] 74 (0, 0)) (by (with_reducible repeat (first | refine blk_drewN ?_ _ | refine blk_drew ?_ | refine blk_alloc ?_ _)); exact BK243.out)) : gb244 ≠ gb243)); clear BK243; clear HB; have BK243 := n0_; have HB := n1_; have BK244 := n2_; have GW244 := n3_; have GE244 := n4_; have NB243_244 := n5_; have NB244_243 := n6_; clear n0_ n1_ n2_ n3_ n4_ n5_ n6_; clear hb hbox hg; have hnb4 := NB243_244.out; have hnc4 := NB244_243.out; have hcz5_0 : w3.cell? ⟨gb243, 0, none⟩ = some (.string a0_0) := (blk_cell BK243.out 0).trans rfl; have hcz5_1 : w3.cell? ⟨gb243, 1, none⟩ = some (.int .i64 a0_1) := (blk_cell BK243.out 1).trans rfl; have hcz5_2 : w3.cell? ⟨gb243, 2, none⟩ = some (.int .i64 a0_2) := (blk_cell BK243.out 2).trans rfl; have hcz5_3 : w3.cell? ⟨gb243, 3, none⟩ = some (.int .i64 a0_3) := (blk_cell BK243.out 3).trans rfl; have hcz5_4 : w3.cell? ⟨gb243, 4, none⟩ = some (.int .i64 a0_4) := (blk_cell BK243.out 4).trans rfl; have hcz5_5 : w3.cell? ⟨gb243, 5, none⟩ = some (.int .i64 a0_5) := (blk_cell BK243.out 5).trans rfl; have hcz5_6 : w3.cell? ⟨gb243, 6, none⟩ = some (.int .i64 a0_6) := (blk_cell BK243.out 6).trans rfl; have hcz5_7 : w3.cell? ⟨gb243, 7, none⟩ = some (.string a0_7) := (blk_cell BK243.out 7).trans rfl; have hfz5_0 := blk_frozen BK243.out 0; have hfz5_1 := blk_frozen BK243.out 1; have hfz5_2 := blk_frozen BK243.out 2; have hfz5_3 := blk_frozen BK243.out 3; have hfz5_4 := blk_frozen BK243.out 4; have hfz5_5 := blk_frozen BK243.out 5; have hfz5_6 := blk_frozen BK243.out 6; have hfz5_7 := blk_frozen BK243.out 7; have hcz6_0 : w3.cell? ⟨gb244, 0, none⟩ = some (.string (⟨#[]⟩ : ByteArray)) := (blk_cell BK244.out 0).trans rfl; have hcz6_1 : w3.cell? ⟨gb244, 1, none⟩ = some (.int .i64 0) := (blk_cell BK244.out 1).trans rfl; have hcz6_2 : w3.cell? ⟨gb244, 2, none⟩ = some (.int .i64 0) := (blk_cell BK244.out 2).trans rfl; have hcz6_3 : w3.cell? ⟨gb244, 3, none⟩ = some (.int .i64 0) := (blk_cell BK244.out 3).trans rfl; have hcz6_4 : w3.cell? ⟨gb244, 4, none⟩ = some (.int .i64 0) := (blk_cell BK244.out 4).trans rfl; have hcz6_5 : w3.cell? ⟨gb244, 5, none⟩ = some (.int .i64 0) := (blk_cell BK244.out 5).trans rfl; have hcz6_6 : w3.cell? ⟨gb244, 6, none⟩ = some (.int .i64 0) := (blk_cell BK244.out 6).trans rfl; have hcz6_7 : w3.cell? ⟨gb244, 7, none⟩ = some (.string (⟨#[]⟩ : ByteArray)) := (blk_cell BK244.out 7).trans rfl; have hfz6_0 := blk_frozen BK244.out 0; have hfz6_1 := blk_frozen BK244.out 1; have hfz6_2 := blk_frozen BK244.out 2; have hfz6_3 := blk_frozen BK244.out 3; have hfz6_4 := blk_frozen BK244.out 4; have hfz6_5 := blk_frozen BK244.out 5; have hfz6_6 := blk_frozen BK244.out 6; have hfz6_7 := blk_frozen BK244.out 7))
 refine bodyPost_ret (results_cell_row rfl _ _ gb244 74 #[.string a0_0, .int .i64 a0_1, .int .i64 a0_2, .int .i64 a0_3, .int .i64 a0_4, .int .i64 a0_5, .int .i64 0, .string a0_7] (0, 0) _ rfl (by (with_reducible repeat (first | refine blk_drewN ?_ _ | refine blk_drew ?_ | refine blk_alloc ?_ _)); refine blk_put (cs := #[.string a0_0, .int .i64 a0_1, .int .i64 a0_2, .int .i64 a0_3, .int .i64 a0_4, .int .i64 a0_5, .int .i64 0, .string (⟨#[]⟩ : ByteArray)]) ?_ 7 _ rfl; (with_reducible repeat (first | refine blk_drewN ?_ _ | refine blk_drew ?_ | refine blk_alloc ?_ _)); refine blk_put (cs := #[.string a0_0, .int .i64 a0_1, .int .i64 a0_2, .int .i64 a0_3, .int .i64 a0_4, .int .i64 a0_5, .int .i64 0, .string (⟨#[]⟩ : ByteArray)]) ?_ 6 _ rfl; (with_reducible repeat (first | refine blk_drewN ?_ _ | refine blk_drew ?_ | refine blk_alloc ?_ _)); refine blk_put (cs := #[.string a0_0, .int .i64 a0_1, .int .i64 a0_2, .int .i64 a0_3, .int .i64 a0_4, .int .i64 0, .int .i64 0, .string (⟨#[]⟩ : ByteArray)]) ?_ 5 _ rfl; (with_reducible repeat (first | refine blk_drewN ?_ _ | refine blk_drew ?_ | refine blk_alloc ?_ _)); refine blk_put (cs := #[.string a0_0, .int .i64 a0_1, .int .i64 a0_2, .int .i64 a0_3, .int .i64 0, .int .i64 0, .int .i64 0, .string (⟨#[]⟩ : ByteArray)]) ?_ 4 _ rfl; (with_reducible repeat (first | refine blk_drewN ?_ _ | refine blk_drew ?_ | refine blk_alloc ?_ _)); refine blk_put (cs := #[.string a0_0, .int .i64 a0_1, .int .i64 a0_2, .int .i64 0, .int .i64 0, .int .i64 0, .int .i64 0, .string (⟨#[]⟩ : ByteArray)]) ?_ 3 _ rfl; (with_reducible repeat (first | refine blk_drewN ?_ _ | refine blk_drew ?_ | refine blk_alloc ?_ _)); refine blk_put (cs := #[.string a0_0, .int .i64 a0_1, .int .i64 0, .int .i64 0, .int .i64 0, .int .i64 0, .int .i64 0, .string (⟨#[]⟩ : ByteArray)]) ?_ 2 _ rfl; (with_reducible repeat (first | refine blk_drewN ?_ _ | refine blk_drew ?_ | refine blk_alloc ?_ _)); refine blk_put (cs := #[.string a0_0, .int .i64 0, .int .i64 0, .int .i64 0, .int .i64 0, .int .i64 0, .int .i64 0, .string (⟨#[]⟩ : ByteArray)]) ?_ 1 _ rfl; (with_reducible repeat (first | refine blk_drewN ?_ _ | refine blk_drew ?_ | refine blk_alloc ?_ _)); refine blk_put (cs := #[.string (⟨#[]⟩ : ByteArray), .int .i64 0, .int .i64 0, .int .i64 0, .int .i64 0, .int .i64 0, .int .i64 0, .string (⟨#[]⟩ : ByteArray)]) ?_ 0 _ rfl; (with_reducible repeat (first | refine blk_drewN ?_ _ | refine blk_drew ?_ | refine blk_alloc ?_ _)); refine blk_far ?_ NB244_243.out _; (with_reducible repeat (first | refine blk_drewN ?_ _ | refine blk_drew ?_ | refine blk_alloc ?_ _)); exact BK244.out) Tryz.underlying74 rfl (by kernel_rfl)) rfl ?_
 exact ⟨by first | rfl | (simp [errW_none, errW_some] <;> rfl) | (simp [*, errW_none, errW_some] <;> rfl), (Gtr.bw HB.out)⟩
end Go.Proofs.YthhmkbchdiflcaaGreatDoor.Q

-- Printed by a program of this session (wip/tools/myprint.py) that runs the kit's print, hand-proved functions among the others.
namespace Go.Proofs.YthhmkbchdiflcaaGreatDoor.Q
open Go.RowKit Go.Proofs.YthhmkbchdiflcaaGreatDoorW.PrintWords Go.Proofs.YthhmkbchdiflcaaGreatDoorW.PrintLast Go.Proofs.YthhmkbchdiflcaaGreatDoorW.PrintMore
attribute [local go_sem] max2_int min2_int max_two min_two max_three min_three max_four min_four   -- for this text's walks alone
set_option linter.unusedVariables false
set_option linter.unusedSimpArgs false

/-! ### impl_bare: function 137 -/
def impl_bare.f (a0_0 : ByteArray) (a0_1 : Int) (a0_2 : Int) (a0_3 : Int) (a0_4 : Int) (a0_5 : Int) (a0_6 : Int) (a0_7 : ByteArray) : Option (ByteArray × Int × Int × Int × Int × Int × Int × ByteArray) := some (a0_0, a0_1, a0_2, a0_3, a0_4, a0_5, 0, a0_7)
set_option maxHeartbeats 8000000 in
set_option maxRecDepth 100000 in
theorem impl_bare.calls (a0_0 : ByteArray) (a0_1 : Int) (a0_2 : Int) (a0_3 : Int) (a0_4 : Int) (a0_5 : Int) (a0_6 : Int) (a0_7 : ByteArray) (r1 : ByteArray) (r2 : Int) (r3 : Int) (r4 : Int) (r5 : Int) (r6 : Int) (r7 : Int) (r8 : ByteArray) (w : World) (h : impl_bare.f a0_0 a0_1 a0_2 a0_3 a0_4 a0_5 a0_6 a0_7 = some (r1, r2, r3, r4, r5, r6, r7, r8)) :
  Calls Tryz.prog 137 #[.agg #[.string a0_0, .int .i64 a0_1, .int .i64 a0_2, .int .i64 a0_3, .int .i64 a0_4, .int .i64 a0_5, .int .i64 a0_6, .string a0_7]] w fun e w' => e = .returned (.agg #[.string r1, .int .i64 r2, .int .i64 r3, .int .i64 r4, .int .i64 r5, .int .i64 r6, .int .i64 r7, .string r8]) ∧ Below w.heap.size w w' := by
 have hu74 := Tryz.underlying74
 have HB := Aside0.mk (Below.refl w.heap.size w)
 have H : (some (a0_0, a0_1, a0_2, a0_3, a0_4, a0_5, 0, a0_7)) = some (r1, r2, r3, r4, r5, r6, r7, r8) := h
 clear h
 simp only [Option.some.injEq, Prod.mk.injEq] at H
 obtain ⟨rfl, rfl, rfl, rfl, rfl, rfl, rfl, rfl⟩ := H
 go_enter Tryz.func137, Tryz.ntmps137
 go_wp2_with (first | ((with_reducible refine gate_dst (N := 1) rfl ?_); refine box_event ?hg (N := 1) ?hd (cs := #[.string a0_0, .int .i64 a0_1, .int .i64 a0_2, .int .i64 a0_3, .int .i64 a0_4, .int .i64 a0_5, .int .i64 a0_6, .string a0_7]) (t := 74) ?hr ?_; (case hd => rfl); (case hg => rfl); (case hr => first | (go_simp; done) | (go_simp; rfl)); intro gb354 hg w2 hbox hb; have n0_ := Aside0.mk (below_step (Gtr.bw HB.out) hb); have n1_ := Aside0.mk (hbox); have n2_ := Aside0.mk ((by rw [hg]; exact (below_size (Gtr.bw HB.out)) : w.heap.size ≤ gb354)); have n3_ := Aside0.mk ((by rw [hg]; exact (below_size (Gtr.bw HB.out)) : w.heap.size ≤ gb354)); clear HB; have HB := n0_; have BK354 := n1_; have GW354 := n2_; have GE354 := n3_; clear n0_ n1_ n2_ n3_; clear hb hbox hg) | ((with_reducible refine gate_dst (N := 2) rfl ?_); refine box_event ?hg (N := 2) ?hd (cs := #[.string (⟨#[]⟩ : ByteArray), .int .i64 0, .int .i64 0, .int .i64 0, .int .i64 0, .int .i64 0, .int .i64 0, .string (⟨#[]⟩ : ByteArray)]) (t := 74) ?hr ?_; (case hd => rfl); (case hg => rfl); (case hr => first | (go_simp; done) | (go_simp; rfl)); intro gb355 hg w3 hbox hb; have n0_ := Aside0.mk (blk_below (g := gb354) (o := .cells #[.string a0_0, .int .i64 a0_1, .int .i64 a0_2, .int .i64 a0_3, .int .i64 a0_4, .int .i64 a0_5, .int .i64 a0_6, .string a0_7] 74 (0, 0)) (by (with_reducible repeat (first | refine blk_drewN ?_ _ | refine blk_drew ?_ | refine blk_alloc ?_ _)); exact BK354.out) hb); have n1_ := Aside0.mk (below_step (Gtr.bw HB.out) hb); have n2_ := Aside0.mk (hbox); have n3_ := Aside0.mk ((by rw [hg]; exact (below_size (Gtr.bw HB.out)) : w.heap.size ≤ gb355)); have n4_ := Aside0.mk ((by rw [hg]; exact (below_size (Gtr.bw HB.out)) : w.heap.size ≤ gb355)); have n5_ := Aside0.mk ((by rw [hg]; exact Nat.ne_of_lt (blk_lt (g := gb354) (o := .cells #[.string a0_0, .int .i64 a0_1, .int .i64 a0_2, .int .i64 a0_3, .int .i64 a0_4, .int .i64 a0_5, .int .i64 a0_6, .string a0_7] 74 (0, 0)) (by (with_reducible repeat (first | refine blk_drewN ?_ _ | refine blk_drew ?_ | refine blk_alloc ?_ _)); exact BK354.out)) : gb354 ≠ gb355)); have n6_ := Aside0.mk ((by rw [hg]; exact Nat.ne_of_gt (blk_lt (g := gb354) (o := .cells #[.string a0_0, .int .i64 a0_1, .int .i64 a0_2, .int .i64 a0_3, .int .i64 a0_4, .int .i64 a0_5, .int .i64 a0_6, .string a0_7] 74 (0, 0)) (by (with_reducible repeat (first | refine blk_drewN ?_ _ | refine blk_drew ?_ | refine blk_alloc ?_ _)); exact BK354.out)) : gb355 ≠ gb354)); clear BK354; clear HB; have BK354 := n0_; have HB := n1_; have BK355 := n2_; have GW355 := n3_; have GE355 := n4_; have NB354_355 := n5_; have NB355_354 := n6_; clear n0_ n1_ n2_ n3_ n4_ n5_ n6_; clear hb hbox hg; have hnb4 := NB354_355.out; have hnc4 := NB355_354.out; have hcz5_0 : w3.cell? ⟨gb354, 0, none⟩ = some (.string a0_0) := (blk_cell BK354.out 0).trans rfl; have hcz5_1 : w3.cell? ⟨gb354, 1, none⟩ = some (.int .i64 a0_1) := (blk_cell BK354.out 1).trans rfl; have hcz5_2 : w3.cell? ⟨gb354, 2, none⟩ = some (.int .i64 a0_2) := (blk_cell BK354.out 2).trans rfl; have hcz5_3 : w3.cell? ⟨gb354, 3, none⟩ = some (.int .i64 a0_3) := (blk_cell BK354.out 3).trans rfl; have hcz5_4 : w3.cell? ⟨gb354, 4, none⟩ = some (.int .i64 a0_4) := (blk_cell BK354.out 4).trans rfl; have hcz5_5 : w3.cell? ⟨gb354, 5, none⟩ = some (.int .i64 a0_5) := (blk_cell BK354.out 5).trans rfl; have hcz5_6 : w3.cell? ⟨gb354, 6, none⟩ = some (.int .i64 a0_6) := (blk_cell BK354.out 6).trans rfl; have hcz5_7 : w3.cell? ⟨gb354, 7, none⟩ = some (.string a0_7) := (blk_cell BK354.out 7).trans rfl; have hfz5_0 := blk_frozen BK354.out 0; have hfz5_1 := blk_frozen BK354.out 1; have hfz5_2 := blk_frozen BK354.out 2; have hfz5_3 := blk_frozen BK354.out 3; have hfz5_4 := blk_frozen BK354.out 4; have hfz5_5 := blk_frozen BK354.out 5; have hfz5_6 := blk_frozen BK354.out 6; have hfz5_7 := blk_frozen BK354.out 7; have hcz6_0 : w3.cell? ⟨gb355, 0, none⟩ = some (.string (⟨#[]⟩ : ByteArray)) := (blk_cell BK355.out 0).trans rfl; have hcz6_1 : w3.cell? ⟨gb355, 1, none⟩ = some (.int .i64 0) := (blk_cell BK355.out 1).trans rfl; have hcz6_2 : w3.cell? ⟨gb355, 2, none⟩ = some (.int .i64 0) := (blk_cell BK355.out 2).trans rfl; have hcz6_3 : w3.cell? ⟨gb355, 3, none⟩ = some (.int .i64 0) := (blk_cell BK355.out 3).trans rfl; have hcz6_4 : w3.cell? ⟨gb355, 4, none⟩ = some (.int .i64 0) := (blk_cell BK355.out 4).trans rfl; have hcz6_5 : w3.cell? ⟨gb355, 5, none⟩ = some (.int .i64 0) := (blk_cell BK355.out 5).trans rfl; have hcz6_6 : w3.cell? ⟨gb355, 6, none⟩ = some (.int .i64 0) := (blk_cell BK355.out 6).trans rfl; have hcz6_7 : w3.cell? ⟨gb355, 7, none⟩ = some (.string (⟨#[]⟩ : ByteArray)) := (blk_cell BK355.out 7).trans rfl; have hfz6_0 := blk_frozen BK355.out 0; have hfz6_1 := blk_frozen BK355.out 1; have hfz6_2 := blk_frozen BK355.out 2; have hfz6_3 := blk_frozen BK355.out 3; have hfz6_4 := blk_frozen BK355.out 4; have hfz6_5 := blk_frozen BK355.out 5; have hfz6_6 := blk_frozen BK355.out 6; have hfz6_7 := blk_frozen BK355.out 7))
 refine bodyPost_ret (results_cell_row rfl _ _ gb355 74 #[.string a0_0, .int .i64 a0_1, .int .i64 a0_2, .int .i64 a0_3, .int .i64 a0_4, .int .i64 a0_5, .int .i64 0, .string a0_7] (0, 0) _ rfl (by (with_reducible repeat (first | refine blk_drewN ?_ _ | refine blk_drew ?_ | refine blk_alloc ?_ _)); refine blk_put (cs := #[.string a0_0, .int .i64 a0_1, .int .i64 a0_2, .int .i64 a0_3, .int .i64 a0_4, .int .i64 a0_5, .int .i64 0, .string (⟨#[]⟩ : ByteArray)]) ?_ 7 _ rfl; (with_reducible repeat (first | refine blk_drewN ?_ _ | refine blk_drew ?_ | refine blk_alloc ?_ _)); refine blk_put (cs := #[.string a0_0, .int .i64 a0_1, .int .i64 a0_2, .int .i64 a0_3, .int .i64 a0_4, .int .i64 a0_5, .int .i64 0, .string (⟨#[]⟩ : ByteArray)]) ?_ 6 _ rfl; (with_reducible repeat (first | refine blk_drewN ?_ _ | refine blk_drew ?_ | refine blk_alloc ?_ _)); refine blk_put (cs := #[.string a0_0, .int .i64 a0_1, .int .i64 a0_2, .int .i64 a0_3, .int .i64 a0_4, .int .i64 0, .int .i64 0, .string (⟨#[]⟩ : ByteArray)]) ?_ 5 _ rfl; (with_reducible repeat (first | refine blk_drewN ?_ _ | refine blk_drew ?_ | refine blk_alloc ?_ _)); refine blk_put (cs := #[.string a0_0, .int .i64 a0_1, .int .i64 a0_2, .int .i64 a0_3, .int .i64 0, .int .i64 0, .int .i64 0, .string (⟨#[]⟩ : ByteArray)]) ?_ 4 _ rfl; (with_reducible repeat (first | refine blk_drewN ?_ _ | refine blk_drew ?_ | refine blk_alloc ?_ _)); refine blk_put (cs := #[.string a0_0, .int .i64 a0_1, .int .i64 a0_2, .int .i64 0, .int .i64 0, .int .i64 0, .int .i64 0, .string (⟨#[]⟩ : ByteArray)]) ?_ 3 _ rfl; (with_reducible repeat (first | refine blk_drewN ?_ _ | refine blk_drew ?_ | refine blk_alloc ?_ _)); refine blk_put (cs := #[.string a0_0, .int .i64 a0_1, .int .i64 0, .int .i64 0, .int .i64 0, .int .i64 0, .int .i64 0, .string (⟨#[]⟩ : ByteArray)]) ?_ 2 _ rfl; (with_reducible repeat (first | refine blk_drewN ?_ _ | refine blk_drew ?_ | refine blk_alloc ?_ _)); refine blk_put (cs := #[.string a0_0, .int .i64 0, .int .i64 0, .int .i64 0, .int .i64 0, .int .i64 0, .int .i64 0, .string (⟨#[]⟩ : ByteArray)]) ?_ 1 _ rfl; (with_reducible repeat (first | refine blk_drewN ?_ _ | refine blk_drew ?_ | refine blk_alloc ?_ _)); refine blk_put (cs := #[.string (⟨#[]⟩ : ByteArray), .int .i64 0, .int .i64 0, .int .i64 0, .int .i64 0, .int .i64 0, .int .i64 0, .string (⟨#[]⟩ : ByteArray)]) ?_ 0 _ rfl; (with_reducible repeat (first | refine blk_drewN ?_ _ | refine blk_drew ?_ | refine blk_alloc ?_ _)); refine blk_far ?_ NB355_354.out _; (with_reducible repeat (first | refine blk_drewN ?_ _ | refine blk_drew ?_ | refine blk_alloc ?_ _)); exact BK355.out) Tryz.underlying74 rfl (by kernel_rfl)) rfl ?_
 exact ⟨by first | rfl | (simp [errW_none, errW_some] <;> rfl) | (simp [*, errW_none, errW_some] <;> rfl), (Gtr.bw HB.out)⟩
end Go.Proofs.YthhmkbchdiflcaaGreatDoor.Q

-- Printed by a program of this session (wip/tools/myprint.py) that runs the kit's print, hand-proved functions among the others.
namespace Go.Proofs.YthhmkbchdiflcaaGreatDoor.Q
open Go.RowKit Go.Proofs.YthhmkbchdiflcaaGreatDoorW.PrintWords Go.Proofs.YthhmkbchdiflcaaGreatDoorW.PrintLast Go.Proofs.YthhmkbchdiflcaaGreatDoorW.PrintMore
attribute [local go_sem] max2_int min2_int max_two min_two max_three min_three max_four min_four   -- for this text's walks alone
set_option linter.unusedVariables false
set_option linter.unusedSimpArgs false

/-! ### cmp_isNaN_string: function 255 -/
def cmp_isNaN_string.f (a0 : ByteArray) : Option (Bool) := some (a0.toList != a0.toList)
set_option maxHeartbeats 8000000 in
set_option maxRecDepth 100000 in
theorem cmp_isNaN_string.calls (a0 : ByteArray) (r : Bool) (w : World) (h : cmp_isNaN_string.f a0 = some r) :
  Calls Tryz.prog 255 #[.string a0] w fun e w' => e = .returned (.bool r) ∧ Drawn0 w w' := by
 have H : (some (a0.toList != a0.toList)) = some r := h
 clear h
 obtain rfl := Option.some.inj H
 go_enter Tryz.func255, Tryz.ntmps255
 go_wp2
 go_ret
 exact ⟨by first | rfl | (simp; done) | (simp [*]; done), by repeat (first | exact Drawn0.refl _ | apply Drawn0.step)⟩
end Go.Proofs.YthhmkbchdiflcaaGreatDoor.Q

-- Printed by a program of this session (wip/tools/myprint.py) that runs the kit's print, hand-proved functions among the others.
namespace Go.Proofs.YthhmkbchdiflcaaGreatDoor.Q
open Go.RowKit Go.Proofs.YthhmkbchdiflcaaGreatDoorW.PrintWords Go.Proofs.YthhmkbchdiflcaaGreatDoorW.PrintLast Go.Proofs.YthhmkbchdiflcaaGreatDoorW.PrintMore
attribute [local go_sem] max2_int min2_int max_two min_two max_three min_three max_four min_four   -- for this text's walks alone
set_option linter.unusedVariables false
set_option linter.unusedSimpArgs false

/-! ### cmp_Compare_string: function 209 -/
def cmp_Compare_string.f (a0 : ByteArray) (a1 : ByteArray) : Option (Int) := (cmp_isNaN_string.f a0).bind fun t312 => ((cmp_isNaN_string.f a1).bind fun t313 => (if t312 = true then (if t313 = true then (some 0) else (some (-1))) else (if t313 = true then (some 1) else (if (Op.bytesLess a0.toList a1.toList) = true then (some (-1)) else (if (Op.bytesLess a1.toList a0.toList) = true then (some 1) else (some 0))))))
set_option maxHeartbeats 8000000 in
set_option maxRecDepth 100000 in
theorem cmp_Compare_string.calls (a0 : ByteArray) (a1 : ByteArray) (r : Int) (w : World) (h : cmp_Compare_string.f a0 a1 = some r) :
  Calls Tryz.prog 209 #[.string a0, .string a1] w fun e w' => e = .returned (.int .i64 r) ∧ Drawn0 w w' := by
 have H : ((cmp_isNaN_string.f a0).bind fun t312 => ((cmp_isNaN_string.f a1).bind fun t313 => (if t312 = true then (if t313 = true then (some 0) else (some (-1))) else (if t313 = true then (some 1) else (if (Op.bytesLess a0.toList a1.toList) = true then (some (-1)) else (if (Op.bytesLess a1.toList a0.toList) = true then (some 1) else (some 0))))))) = some r := h
 clear h
 replace H := Option.bind_eq_some_iff.mp H
 obtain ⟨t312, A30, H⟩ := H
 try dsimp only at H
 have A3 := Aside0.mk A30
 clear A30
 replace H := Option.bind_eq_some_iff.mp H
 obtain ⟨t313, A40, H⟩ := H
 try dsimp only at H
 have A4 := Aside0.mk A40
 clear A40
 by_cases c5 : t312 = true
 ·subst c5
  have H1 := H
  rw [if_pos rfl] at H1
  clear H
  have H := H1
  clear H1
  by_cases c6 : t313 = true
  ·subst c6
   have H1 := H
   rw [if_pos rfl] at H1
   clear H
   have H := H1
   clear H1
   obtain rfl := Option.some.inj H
   go_enter Tryz.func209, Tryz.ntmps209
   go_wp2_with (first | ((with_reducible refine gate_callee (f := 255) rfl ?_); refine goesL_ (some 8) rfl rfl Tryz.func255 (by kernel_rfl) rfl #[.string a0] rfl (by (try simp only [List.map_toArray, List.map_cons, List.map_nil]); first | done | rfl | (simp only [List.length_drop, List.length_take]; rfl)) ?_; (with_reducible refine (cmp_isNaN_string.calls a0 true _ A3.out).mono ?_); rintro e w' ⟨rfl, ⟨nd, rfl⟩⟩; refine ⟨_, rfl, ?_⟩) | ((with_reducible refine gate_callee (f := 255) rfl ?_); refine goesL_ (some 10) rfl rfl Tryz.func255 (by kernel_rfl) rfl #[.string a1] rfl (by (try simp only [List.map_toArray, List.map_cons, List.map_nil]); first | done | rfl | (simp only [List.length_drop, List.length_take]; rfl)) ?_; (with_reducible refine (cmp_isNaN_string.calls a1 true _ A4.out).mono ?_); rintro e w' ⟨rfl, ⟨nd, rfl⟩⟩; refine ⟨_, rfl, ?_⟩))
   go_ret
   exact ⟨by first | rfl | (simp; done) | (simp [*]; done), by repeat (first | exact Drawn0.refl _ | apply Drawn0.step)⟩
  ·replace c6 := Bool.eq_false_iff.mpr c6
   subst c6
   have H1 : (some (-1)) = some r := by rw [if_neg (show ¬ (false = true) by decide)] at H; exact H
   clear H
   have H := H1
   clear H1
   obtain rfl := Option.some.inj H
   go_enter Tryz.func209, Tryz.ntmps209
   go_wp2_with (first | ((with_reducible refine gate_callee (f := 255) rfl ?_); refine goesL_ (some 8) rfl rfl Tryz.func255 (by kernel_rfl) rfl #[.string a0] rfl (by (try simp only [List.map_toArray, List.map_cons, List.map_nil]); first | done | rfl | (simp only [List.length_drop, List.length_take]; rfl)) ?_; (with_reducible refine (cmp_isNaN_string.calls a0 true _ A3.out).mono ?_); rintro e w' ⟨rfl, ⟨nd, rfl⟩⟩; refine ⟨_, rfl, ?_⟩) | ((with_reducible refine gate_callee (f := 255) rfl ?_); refine goesL_ (some 10) rfl rfl Tryz.func255 (by kernel_rfl) rfl #[.string a1] rfl (by (try simp only [List.map_toArray, List.map_cons, List.map_nil]); first | done | rfl | (simp only [List.length_drop, List.length_take]; rfl)) ?_; (with_reducible refine (cmp_isNaN_string.calls a1 false _ A4.out).mono ?_); rintro e w' ⟨rfl, ⟨nd, rfl⟩⟩; refine ⟨_, rfl, ?_⟩))
   go_ret
   exact ⟨by first | rfl | (simp; done) | (simp [*]; done), by repeat (first | exact Drawn0.refl _ | apply Drawn0.step)⟩
 ·replace c5 := Bool.eq_false_iff.mpr c5
  subst c5
  have H1 : (if t313 = true then (some 1) else (if (Op.bytesLess a0.toList a1.toList) = true then (some (-1)) else (if (Op.bytesLess a1.toList a0.toList) = true then (some 1) else (some 0)))) = some r := by rw [if_neg (show ¬ (false = true) by decide)] at H; exact H
  clear H
  have H := H1
  clear H1
  by_cases c7 : t313 = true
  ·subst c7
   have H1 := H
   rw [if_pos rfl] at H1
   clear H
   have H := H1
   clear H1
   obtain rfl := Option.some.inj H
   go_enter Tryz.func209, Tryz.ntmps209
   go_wp2_with (first | ((with_reducible refine gate_callee (f := 255) rfl ?_); refine goesL_ (some 8) rfl rfl Tryz.func255 (by kernel_rfl) rfl #[.string a0] rfl (by (try simp only [List.map_toArray, List.map_cons, List.map_nil]); first | done | rfl | (simp only [List.length_drop, List.length_take]; rfl)) ?_; (with_reducible refine (cmp_isNaN_string.calls a0 false _ A3.out).mono ?_); rintro e w' ⟨rfl, ⟨nd, rfl⟩⟩; refine ⟨_, rfl, ?_⟩) | ((with_reducible refine gate_callee (f := 255) rfl ?_); refine goesL_ (some 10) rfl rfl Tryz.func255 (by kernel_rfl) rfl #[.string a1] rfl (by (try simp only [List.map_toArray, List.map_cons, List.map_nil]); first | done | rfl | (simp only [List.length_drop, List.length_take]; rfl)) ?_; (with_reducible refine (cmp_isNaN_string.calls a1 true _ A4.out).mono ?_); rintro e w' ⟨rfl, ⟨nd, rfl⟩⟩; refine ⟨_, rfl, ?_⟩))
   go_ret
   exact ⟨by first | rfl | (simp; done) | (simp [*]; done), by repeat (first | exact Drawn0.refl _ | apply Drawn0.step)⟩
  ·replace c7 := Bool.eq_false_iff.mpr c7
   subst c7
   have H1 : (if (Op.bytesLess a0.toList a1.toList) = true then (some (-1)) else (if (Op.bytesLess a1.toList a0.toList) = true then (some 1) else (some 0))) = some r := by rw [if_neg (show ¬ (false = true) by decide)] at H; exact H
   clear H
   have H := H1
   clear H1
   by_cases c8 : (Op.bytesLess a0.toList a1.toList) = true
   ·rw [if_pos c8] at H
    have c8b0 : (Op.bytesLess a0.toList a1.toList) = true := c8
    clear c8
    obtain rfl := Option.some.inj H
    go_enter Tryz.func209, Tryz.ntmps209
    go_wp2_with (first | ((with_reducible refine gate_callee (f := 255) rfl ?_); refine goesL_ (some 8) rfl rfl Tryz.func255 (by kernel_rfl) rfl #[.string a0] rfl (by (try simp only [List.map_toArray, List.map_cons, List.map_nil]); first | done | rfl | (simp only [List.length_drop, List.length_take]; rfl)) ?_; (with_reducible refine (cmp_isNaN_string.calls a0 false _ A3.out).mono ?_); rintro e w' ⟨rfl, ⟨nd, rfl⟩⟩; refine ⟨_, rfl, ?_⟩) | ((with_reducible refine gate_callee (f := 255) rfl ?_); refine goesL_ (some 10) rfl rfl Tryz.func255 (by kernel_rfl) rfl #[.string a1] rfl (by (try simp only [List.map_toArray, List.map_cons, List.map_nil]); first | done | rfl | (simp only [List.length_drop, List.length_take]; rfl)) ?_; (with_reducible refine (cmp_isNaN_string.calls a1 false _ A4.out).mono ?_); rintro e w' ⟨rfl, ⟨nd, rfl⟩⟩; refine ⟨_, rfl, ?_⟩))
    go_ret
    exact ⟨by first | rfl | (simp; done) | (simp [*]; done), by repeat (first | exact Drawn0.refl _ | apply Drawn0.step)⟩
   ·rw [if_neg c8] at H
    have c8b0 : (Op.bytesLess a0.toList a1.toList) = false := by simpa using c8
    clear c8
    by_cases c9 : (Op.bytesLess a1.toList a0.toList) = true
    ·rw [if_pos c9] at H
     have c9b0 : (Op.bytesLess a1.toList a0.toList) = true := c9
     clear c9
     obtain rfl := Option.some.inj H
     go_enter Tryz.func209, Tryz.ntmps209
     go_wp2_with (first | ((with_reducible refine gate_callee (f := 255) rfl ?_); refine goesL_ (some 8) rfl rfl Tryz.func255 (by kernel_rfl) rfl #[.string a0] rfl (by (try simp only [List.map_toArray, List.map_cons, List.map_nil]); first | done | rfl | (simp only [List.length_drop, List.length_take]; rfl)) ?_; (with_reducible refine (cmp_isNaN_string.calls a0 false _ A3.out).mono ?_); rintro e w' ⟨rfl, ⟨nd, rfl⟩⟩; refine ⟨_, rfl, ?_⟩) | ((with_reducible refine gate_callee (f := 255) rfl ?_); refine goesL_ (some 10) rfl rfl Tryz.func255 (by kernel_rfl) rfl #[.string a1] rfl (by (try simp only [List.map_toArray, List.map_cons, List.map_nil]); first | done | rfl | (simp only [List.length_drop, List.length_take]; rfl)) ?_; (with_reducible refine (cmp_isNaN_string.calls a1 false _ A4.out).mono ?_); rintro e w' ⟨rfl, ⟨nd, rfl⟩⟩; refine ⟨_, rfl, ?_⟩))
     go_ret
     exact ⟨by first | rfl | (simp; done) | (simp [*]; done), by repeat (first | exact Drawn0.refl _ | apply Drawn0.step)⟩
    ·rw [if_neg c9] at H
     have c9b0 : (Op.bytesLess a1.toList a0.toList) = false := by simpa using c9
     clear c9
     obtain rfl := Option.some.inj H
     go_enter Tryz.func209, Tryz.ntmps209
     go_wp2_with (first | ((with_reducible refine gate_callee (f := 255) rfl ?_); refine goesL_ (some 8) rfl rfl Tryz.func255 (by kernel_rfl) rfl #[.string a0] rfl (by (try simp only [List.map_toArray, List.map_cons, List.map_nil]); first | done | rfl | (simp only [List.length_drop, List.length_take]; rfl)) ?_; (with_reducible refine (cmp_isNaN_string.calls a0 false _ A3.out).mono ?_); rintro e w' ⟨rfl, ⟨nd, rfl⟩⟩; refine ⟨_, rfl, ?_⟩) | ((with_reducible refine gate_callee (f := 255) rfl ?_); refine goesL_ (some 10) rfl rfl Tryz.func255 (by kernel_rfl) rfl #[.string a1] rfl (by (try simp only [List.map_toArray, List.map_cons, List.map_nil]); first | done | rfl | (simp only [List.length_drop, List.length_take]; rfl)) ?_; (with_reducible refine (cmp_isNaN_string.calls a1 false _ A4.out).mono ?_); rintro e w' ⟨rfl, ⟨nd, rfl⟩⟩; refine ⟨_, rfl, ?_⟩))
     go_ret
     exact ⟨by first | rfl | (simp; done) | (simp [*]; done), by repeat (first | exact Drawn0.refl _ | apply Drawn0.step)⟩
end Go.Proofs.YthhmkbchdiflcaaGreatDoor.Q

-- Printed by a program of this session (wip/tools/myprint.py) that runs the kit's print, hand-proved functions among the others.
namespace Go.Proofs.YthhmkbchdiflcaaGreatDoor.Q
open Go.RowKit Go.Proofs.YthhmkbchdiflcaaGreatDoorW.PrintWords Go.Proofs.YthhmkbchdiflcaaGreatDoorW.PrintLast Go.Proofs.YthhmkbchdiflcaaGreatDoorW.PrintMore
attribute [local go_sem] max2_int min2_int max_two min_two max_three min_three max_four min_four   -- for this text's walks alone
set_option linter.unusedVariables false
set_option linter.unusedSimpArgs false

/-! ### slices_Compare_string_string: function 145 -/
def slices_Compare_string_string.l0 : Nat → List ByteArray → List ByteArray → List ByteArray → Int → Int → Option (Int)
 | 0, _, _, _, _, _ => none
 | k + 1, x0, x1, x9, x10, x11 => if x11 < x10 then (if 0 ≤ x11 then (if x11 < (x9.length : Int) then (if x11 ≥ (x1.length : Int) then (some 1) else (if x11 < (x1.length : Int) then ((cmp_Compare_string.f (rdOf ByteArray.empty x9 x11) (rdOf ByteArray.empty x1 x11)).bind fun t316 => (if t316 = 0 then (slices_Compare_string_string.l0 k x0 x1 x9 x10 (wrap64 (x11 + 1))) else (some t316))) else (none))) else (none)) else (none)) else (if (x0.length : Int) < (x1.length : Int) then (some (-1)) else (some 0))
def slices_Compare_string_string.f (k : Nat) (l0 : List ByteArray) (l1 : List ByteArray) : Option (Int) := slices_Compare_string_string.l0 k l0 l1 l0 (l0.length : Int) 0
set_option maxHeartbeats 8000000 in
set_option maxRecDepth 100000 in
theorem slices_Compare_string_string.calls (k : Nat) (A0 : Option Addr) (c0 : Nat) (l0 : List ByteArray) (A1 : Option Addr) (c1 : Nat) (l1 : List ByteArray) (r : Int) (w : World) (hr0 : Kd.C Kd.string w A0 l0.length l0) (hc0 : l0.length ≤ c0) (hr1 : Kd.C Kd.string w A1 l1.length l1) (hc1 : l1.length ≤ c1) (h : slices_Compare_string_string.f k l0 l1 = some r) :
  Calls Tryz.prog 145 #[.slice A0 l0.length c0, .slice A1 l1.length c1] w fun e w' => e = .returned (.int .i64 r) ∧ Drawn0 w w' := by
 have HR0 := Aside0.mk hr0
 have HC0 := Aside0.mk hc0
 clear hr0 hc0
 have HR1 := Aside0.mk hr1
 have HC1 := Aside0.mk hc1
 clear hr1 hc1
 have H : (slices_Compare_string_string.l0 k l0 l1 l0 (l0.length : Int) 0) = some r := h
 clear h
 have H' := Aside0.mk H
 clear H
 go_enter Tryz.func145, Tryz.ntmps145
 go_wp2
 go_loopg [11] k (fun kq v11 w' => ∃ (x11_1 : Int), v11 = .int .i64 x11_1 ∧ Aside0 (slices_Compare_string_string.l0 kq l0 l1 l0 (l0.length : Int) x11_1 = some r) ∧ Aside0 (kq ≤ k) ∧ Drawn0 w w')
 case atStart => exact ⟨(0), (by first | rfl | (simp; done) | (simp [*]; done)), H', ⟨Nat.le_refl _⟩, by repeat (first | exact Drawn0.refl _ | apply Drawn0.step)⟩
 case round =>
  clear H'
  (try clear c1);(try clear p2)
  obtain ⟨x11_1, rfl, HA, HK1, ⟨m1, rfl⟩⟩ := hrel
  cases gk with
  | zero => exact absurd HA.out (by simp [slices_Compare_string_string.l0])
  | succ k1 =>
   have H := HA.out
   clear HA
   simp only [slices_Compare_string_string.l0] at H
   by_cases c3 : x11_1 < (l0.length : Int)
   ·rw [if_pos c3] at H
    have c3b0 : decide (x11_1 < (l0.length : Int)) = true := decide_eq_true c3
    clear c3
    refine Or.elim (Classical.em (0 ≤ x11_1)) (fun c4 => ?_) (fun c4 => by rw [if_neg c4] at H; exact absurd H (by simp))
    rw [if_pos c4] at H
    have c4b0 : decide (0 ≤ x11_1) = true := decide_eq_true c4
    clear c4
    refine Or.elim (Classical.em (x11_1 < (l0.length : Int))) (fun c5 => ?_) (fun c5 => by rw [if_neg c5] at H; exact absurd H (by simp))
    rw [if_pos c5] at H
    have c5b0 : decide (x11_1 < (l0.length : Int)) = true := decide_eq_true c5
    clear c5
    by_cases c6 : x11_1 ≥ (l1.length : Int)
    ·rw [if_pos c6] at H
     have c6b0 : decide ((l1.length : Int) ≤ x11_1) = true := decide_eq_true c6
     clear c6
     obtain rfl := Option.some.inj H
     have p314 : 0 ≤ (x11_1 : Int) := of_decide_eq_true (by first | (with_reducible assumption) | assumption)
     have q314 : x11_1 < (l0.length : Int) := of_decide_eq_true (by first | (with_reducible assumption) | assumption)
     obtain ⟨ad314, e314, hx314_0⟩ := Kd.at_string HR0.out x11_1 p314 q314
     cases e314
     replace p314 := eq_true p314
     replace q314 := eq_true q314
     go_wp2
     go_ret
     exact ⟨by first | rfl | (simp; done) | (simp [*]; done), by repeat (first | exact Drawn0.refl _ | apply Drawn0.step)⟩
    ·rw [if_neg c6] at H
     have c6b0 : decide ((l1.length : Int) ≤ x11_1) = false := decide_eq_false c6
     clear c6
     refine Or.elim (Classical.em (x11_1 < (l1.length : Int))) (fun c7 => ?_) (fun c7 => by rw [if_neg c7] at H; exact absurd H (by simp))
     rw [if_pos c7] at H
     have c7b0 : decide (x11_1 < (l1.length : Int)) = true := decide_eq_true c7
     clear c7
     replace H := Option.bind_eq_some_iff.mp H
     obtain ⟨t316, A80, H⟩ := H
     try dsimp only at H
     have A8 := Aside0.mk A80
     clear A80
     by_cases c9 : t316 = 0
     ·rw [if_pos c9] at H
      have c9b0 : (t316 == 0) = true := beq_iff_eq.mpr c9
      have c9b1 : (t316 != 0) = false := bne_eq_false_iff_eq.mpr c9
      clear c9
      have H' := Aside0.mk H
      clear H
      have p314 : 0 ≤ (x11_1 : Int) := of_decide_eq_true (by first | (with_reducible assumption) | assumption)
      have q314 : x11_1 < (l0.length : Int) := of_decide_eq_true (by first | (with_reducible assumption) | assumption)
      obtain ⟨ad314, e314, hx314_0⟩ := Kd.at_string HR0.out x11_1 p314 q314
      cases e314
      replace p314 := eq_true p314
      replace q314 := eq_true q314
      have p315 : 0 ≤ (x11_1 : Int) := of_decide_eq_true (by first | (with_reducible assumption) | assumption)
      have q315 : x11_1 < (l1.length : Int) := of_decide_eq_true (by first | (with_reducible assumption) | assumption)
      obtain ⟨ad315, e315, hx315_0⟩ := Kd.at_string HR1.out x11_1 p315 q315
      cases e315
      replace p315 := eq_true p315
      replace q315 := eq_true q315
      go_wp2_with (first | ((with_reducible refine gate_callee (f := 209) rfl ?_); refine goesL_ (some 26) rfl rfl Tryz.func209 (by kernel_rfl) rfl #[.string (rdOf ByteArray.empty l0 x11_1), .string (rdOf ByteArray.empty l1 x11_1)] rfl (by (try simp only [List.map_toArray, List.map_cons, List.map_nil]); first | done | rfl | (simp only [List.length_drop, List.length_take]; rfl)) ?_; (with_reducible refine (cmp_Compare_string.calls (rdOf ByteArray.empty l0 x11_1) (rdOf ByteArray.empty l1 x11_1) t316 _ A8.out).mono ?_); rintro e w' ⟨rfl, ⟨nd, rfl⟩⟩; refine ⟨_, rfl, ?_⟩))
      go_roundg k1
      case measure => have := HK1.out; omega
      case rel => exact ⟨(wrap64 (x11_1 + 1)), (by first | rfl | (simp; done) | (simp [*]; done)), H', ⟨by have := HK1.out; omega⟩, by repeat (first | exact Drawn0.refl _ | apply Drawn0.step)⟩
     ·rw [if_neg c9] at H
      have c9b0 : (t316 == 0) = false := beq_eq_false_iff_ne.mpr c9
      have c9b1 : (t316 != 0) = true := bne_iff_ne.mpr c9
      obtain rfl := Option.some.inj H
      have p314 : 0 ≤ (x11_1 : Int) := of_decide_eq_true (by first | (with_reducible assumption) | assumption)
      have q314 : x11_1 < (l0.length : Int) := of_decide_eq_true (by first | (with_reducible assumption) | assumption)
      obtain ⟨ad314, e314, hx314_0⟩ := Kd.at_string HR0.out x11_1 p314 q314
      cases e314
      replace p314 := eq_true p314
      replace q314 := eq_true q314
      have p315 : 0 ≤ (x11_1 : Int) := of_decide_eq_true (by first | (with_reducible assumption) | assumption)
      have q315 : x11_1 < (l1.length : Int) := of_decide_eq_true (by first | (with_reducible assumption) | assumption)
      obtain ⟨ad315, e315, hx315_0⟩ := Kd.at_string HR1.out x11_1 p315 q315
      cases e315
      replace p315 := eq_true p315
      replace q315 := eq_true q315
      go_wp2_with (first | ((with_reducible refine gate_callee (f := 209) rfl ?_); refine goesL_ (some 26) rfl rfl Tryz.func209 (by kernel_rfl) rfl #[.string (rdOf ByteArray.empty l0 x11_1), .string (rdOf ByteArray.empty l1 x11_1)] rfl (by (try simp only [List.map_toArray, List.map_cons, List.map_nil]); first | done | rfl | (simp only [List.length_drop, List.length_take]; rfl)) ?_; (with_reducible refine (cmp_Compare_string.calls (rdOf ByteArray.empty l0 x11_1) (rdOf ByteArray.empty l1 x11_1) t316 _ A8.out).mono ?_); rintro e w' ⟨rfl, ⟨nd, rfl⟩⟩; refine ⟨_, rfl, ?_⟩))
      go_ret
      exact ⟨by first | rfl | (simp; done) | (simp [*]; done), by repeat (first | exact Drawn0.refl _ | apply Drawn0.step)⟩
   ·rw [if_neg c3] at H
    have c3b0 : decide (x11_1 < (l0.length : Int)) = false := decide_eq_false c3
    clear c3
    by_cases c10 : (l0.length : Int) < (l1.length : Int)
    ·rw [if_pos c10] at H
     have c10b0 : decide ((l0.length : Int) < (l1.length : Int)) = true := decide_eq_true c10
     have c10b1 : decide (l0.length < l1.length) = true := decide_eq_true (Int.ofNat_lt.mp c10)
     clear c10
     obtain rfl := Option.some.inj H
     go_wp2
     go_ret
     exact ⟨by first | rfl | (simp; done) | (simp [*]; done), by repeat (first | exact Drawn0.refl _ | apply Drawn0.step)⟩
    ·rw [if_neg c10] at H
     have c10b0 : decide ((l0.length : Int) < (l1.length : Int)) = false := decide_eq_false c10
     have c10b1 : decide (l0.length < l1.length) = false := decide_eq_false (fun h => c10 (Int.ofNat_lt.mpr h))
     clear c10
     obtain rfl := Option.some.inj H
     go_wp2
     go_ret
     exact ⟨by first | rfl | (simp; done) | (simp [*]; done), by repeat (first | exact Drawn0.refl _ | apply Drawn0.step)⟩
end Go.Proofs.YthhmkbchdiflcaaGreatDoor.Q
