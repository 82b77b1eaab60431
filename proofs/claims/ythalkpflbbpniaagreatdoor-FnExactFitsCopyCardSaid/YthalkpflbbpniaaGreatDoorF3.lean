/- Texts of this claim, merged by a program (wip/tools/merge.py): Q38, Q58, Q70, Q23, HGraph, HHeld, HTree, Q108, HCompact. -/
import Derived.Test.YthalkpflbbpniaaGreatDoorF2
import Derived.Lib.SlicesCompact
-- Printed by a program of this session (wip/tools/myprint.py) that runs the kit's print, hand-proved functions among the others.
namespace Go.Proofs.YthalkpflbbpniaaGreatDoor.Q
open Go.RowKit Go.Proofs.YthalkpflbbpniaaGreatDoorW.PrintWords Go.Proofs.YthalkpflbbpniaaGreatDoorW.PrintLast Go.Proofs.YthalkpflbbpniaaGreatDoorW.PrintMore
attribute [local go_sem] max2_int min2_int max_two min_two max_three min_three max_four min_four   -- for this text's walks alone
set_option linter.unusedVariables false
set_option linter.unusedSimpArgs false

/-! ### spec_l3Links: function 72 -/
mutual
def spec_l3Links.l0 : Nat → Int → Int → List (S70) → Int → Int → Option (Int)
 | 0, _, _, _, _, _ => none
 | k + 1, x1, x5, x11, x12, x13 => if x13 < x12 then (if 0 ≤ x13 then (if x13 < (x11.length : Int) then (spec_l3Links.l1 k x1 x5 x11 x12 x13 ((rd_T70 x11 x13).f6) (((rd_T70 x11 x13).f6).length : Int) 0) else (none)) else (none)) else (some x5)
def spec_l3Links.l1 : Nat → Int → Int → List (S70) → Int → Int → List (S101) → Int → Int → Option (Int)
 | 0, _, _, _, _, _, _, _, _ => none
 | k + 1, x1, x5, x11, x12, x13, x18, x19, x20 => if x20 < x19 then (if 0 ≤ x20 then (if x20 < (x18.length : Int) then (if ((rd_T101 x18 x20).f1) = x1 then (spec_l3Links.l1 k x1 (wrap64 (x5 + 1)) x11 x12 x13 x18 x19 (wrap64 (x20 + 1))) else (spec_l3Links.l1 k x1 x5 x11 x12 x13 x18 x19 (wrap64 (x20 + 1)))) else (none)) else (none)) else (spec_l3Links.l0 k x1 x5 x11 x12 (wrap64 (x13 + 1)))
end
def spec_l3Links.f (k : Nat) (l0_0 : List (S70)) (a0_1 : Int) (a1 : Int) : Option (Int) := spec_l3Links.l0 k a1 0 l0_0 (l0_0.length : Int) 0
set_option maxHeartbeats 8000000 in
set_option maxRecDepth 100000 in
theorem spec_l3Links.calls (k : Nat) (A0_0 : Option Addr) (c0_0 : Nat) (l0_0 : List (S70)) (a0_1 : Int) (a1 : Int) (r : Int) (w : World) (hr0_0 : Kd.C k70 w A0_0 l0_0.length l0_0) (hc0_0 : l0_0.length ≤ c0_0) (h : spec_l3Links.f k l0_0 a0_1 a1 = some r) :
  Calls Tryz.prog 72 #[.agg #[.slice A0_0 l0_0.length c0_0, .int .i64 a0_1], .int .i64 a1] w fun e w' => e = .returned (.int .i64 r) ∧ Below w.heap.size w w' := by
 have hu34 := Tryz.underlying34
 have hu70 := Tryz.underlying70
 have hu101 := Tryz.underlying101
 have HR0_0 := Aside0.mk hr0_0
 have HC0_0 := Aside0.mk hc0_0
 clear hr0_0 hc0_0
 have HB := Aside0.mk (Below.refl w.heap.size w)
 have H : (spec_l3Links.l0 k a1 0 l0_0 (l0_0.length : Int) 0) = some r := h
 clear h
 have H' := Aside0.mk H
 clear H
 go_enter Tryz.func72, Tryz.ntmps72
 go_wp2_with (first | ((with_reducible refine gate_dst (N := 2) rfl ?_); refine box_event ?hg (N := 2) ?hd (cs := #[.slice A0_0 l0_0.length c0_0, .int .i64 a0_1]) (t := 34) ?hr ?_; (case hd => rfl); (case hg => rfl); (case hr => first | (go_simp; done) | (go_simp; rfl)); intro gb200 hg w3 hbox hb; have n0_ := Aside0.mk (below_step (by repeat (first | (with_reducible first | exact HB.out | apply below_alloc | apply pw_below_drewN | apply below_drew1) | exact HB.out)) hb); have n1_ := Aside0.mk (hbox); have n2_ := Aside0.mk ((by rw [hg]; exact (below_size (by repeat (first | (with_reducible first | exact HB.out | apply below_alloc | apply pw_below_drewN | apply below_drew1) | exact HB.out))) : w.heap.size ≤ gb200)); have n3_ := Aside0.mk ((by rw [hg]; exact (below_size (by repeat (first | (with_reducible first | exact HB.out | apply below_alloc | apply pw_below_drewN | apply below_drew1) | exact HB.out))) : w.heap.size ≤ gb200)); clear HB; have HB := n0_; have BK200 := n1_; have GW200 := n2_; have GE200 := n3_; clear n0_ n1_ n2_ n3_; clear hb hbox hg; have hcz4_0 : w3.cell? ⟨gb200, 0, none⟩ = some (.slice A0_0 l0_0.length c0_0) := (blk_cell BK200.out 0).trans rfl; have hcz4_1 : w3.cell? ⟨gb200, 1, none⟩ = some (.int .i64 a0_1) := (blk_cell BK200.out 1).trans rfl; have hfz4_0 := blk_frozen BK200.out 0; have hfz4_1 := blk_frozen BK200.out 1))
 go_loopg [5, 13] k (fun kq v5 v13 w' => ∃ (x5_1 : Int) (x13_1 : Int), v5 = .int .i64 x5_1 ∧ v13 = .int .i64 x13_1 ∧ Aside0 (spec_l3Links.l0 kq a1 x5_1 l0_0 (l0_0.length : Int) x13_1 = some r) ∧ Aside0 (kq ≤ k) ∧ Aside0 (w'.heap[gb200]? = some (.cells #[(.slice A0_0 l0_0.length c0_0), .int .i64 a0_1] 34 (0, 0))) ∧ Aside0 (Below w.heap.size w w'))
 case atStart => exact ⟨(0), (0), (by first | rfl | (simp; done) | (simp [*]; done)), (by first | rfl | (simp; done) | (simp [*]; done)), H', ⟨Nat.le_refl _⟩, ⟨by (with_reducible repeat (first | refine blk_drewN ?_ _ | refine blk_drew ?_ | refine blk_alloc ?_ _)); exact BK200.out⟩, ⟨by repeat (first | (with_reducible first | exact HB.out | apply below_alloc | apply pw_below_drewN | apply below_drew1 | refine below_set ?_ GE200.out) | exact HB.out)⟩⟩
 case round =>
  clear H'
  (try clear p2);(try clear hcz4_0);(try clear hcz4_1);(try clear hfz4_0);(try clear hfz4_1)
  obtain ⟨x5_1, x13_1, rfl, rfl, HA, HK1, BK200, HB⟩ := hrel
  cases gk with
  | zero => exact absurd HA.out (by simp [spec_l3Links.l0])
  | succ k1 =>
   have H := HA.out
   clear HA
   simp only [spec_l3Links.l0] at H
   by_cases c5 : x13_1 < (l0_0.length : Int)
   ·rw [if_pos c5] at H
    have c5b0 : decide (x13_1 < (l0_0.length : Int)) = true := decide_eq_true c5
    clear c5
    refine Or.elim (Classical.em (0 ≤ x13_1)) (fun c6 => ?_) (fun c6 => by rw [if_neg c6] at H; exact absurd H (by simp))
    rw [if_pos c6] at H
    have c6b0 : decide (0 ≤ x13_1) = true := decide_eq_true c6
    clear c6
    refine Or.elim (Classical.em (x13_1 < (l0_0.length : Int))) (fun c7 => ?_) (fun c7 => by rw [if_neg c7] at H; exact absurd H (by simp))
    rw [if_pos c7] at H
    have c7b0 : decide (x13_1 < (l0_0.length : Int)) = true := decide_eq_true c7
    clear c7
    have H' := Aside0.mk H
    clear H
    have p201 : 0 ≤ (x13_1 : Int) := of_decide_eq_true (by first | (with_reducible assumption) | assumption)
    have q201 : x13_1 < (l0_0.length : Int) := of_decide_eq_true (by first | (with_reducible assumption) | assumption)
    obtain ⟨ad201, A201_6, c201_6, e201, hx201_0, hx201_1, hx201_2, hx201_3, hx201_4, hx201_5, hx201_6, hl201_6, hi201_6⟩ := at_T70 HR0_0.out x13_1 p201 q201
    cases e201
    replace hx201_0 := (HB.out.cell (World.block_lt_of_cell? w _ hx201_0)).trans hx201_0
    replace hx201_1 := (HB.out.cell (World.block_lt_of_cell? w _ hx201_1)).trans hx201_1
    replace hx201_2 := (HB.out.cell (World.block_lt_of_cell? w _ hx201_2)).trans hx201_2
    replace hx201_3 := (HB.out.cell (World.block_lt_of_cell? w _ hx201_3)).trans hx201_3
    replace hx201_4 := (HB.out.cell (World.block_lt_of_cell? w _ hx201_4)).trans hx201_4
    replace hx201_5 := (HB.out.cell (World.block_lt_of_cell? w _ hx201_5)).trans hx201_5
    replace hx201_6 := (HB.out.cell (World.block_lt_of_cell? w _ hx201_6)).trans hx201_6
    have HR201_6 := Aside0.mk hi201_6
    have HC201_6 := Aside0.mk hl201_6
    clear hi201_6 hl201_6
    replace p201 := eq_true p201
    replace q201 := eq_true q201
    go_wp2_with (first | ((with_reducible refine gate_dst (N := 7) rfl ?_); refine box_event ?hg (N := 7) ?hd (cs := #[.int .i64 0, .int .i64 0, .int .i64 0, .int .i64 0, .int .i64 0, .string (⟨#[]⟩ : ByteArray), .slice none 0 0]) (t := 70) ?hr ?_; (case hd => rfl); (case hg => rfl); (case hr => first | (go_simp; done) | (go_simp; rfl)); intro gb202 hg w8 hbox hb; have n0_ := Aside0.mk (blk_below (g := gb200) (o := .cells #[.slice (some ad201) l0_0.length c0_0, .int .i64 a0_1] 34 (0, 0)) (by (with_reducible repeat (first | refine blk_drewN ?_ _ | refine blk_drew ?_ | refine blk_alloc ?_ _)); exact BK200.out) hb); have n1_ := Aside0.mk (below_step (by repeat (first | (with_reducible first | exact HB.out | apply below_alloc | apply pw_below_drewN | apply below_drew1 | refine below_set ?_ GE200.out) | exact HB.out)) hb); have n2_ := Aside0.mk (hbox); have n3_ := Aside0.mk ((by rw [hg]; exact (below_size (by repeat (first | (with_reducible first | exact HB.out | apply below_alloc | apply pw_below_drewN | apply below_drew1 | refine below_set ?_ GE200.out) | exact HB.out))) : w.heap.size ≤ gb202)); have n4_ := Aside0.mk ((by rw [hg]; exact (below_size (by repeat (first | (with_reducible first | exact HB.out | apply below_alloc | apply pw_below_drewN | apply below_drew1 | refine below_set ?_ GE200.out) | exact HB.out))) : w.heap.size ≤ gb202)); have n5_ := Aside0.mk ((by rw [hg]; exact Nat.ne_of_lt (blk_lt (g := gb200) (o := .cells #[.slice (some ad201) l0_0.length c0_0, .int .i64 a0_1] 34 (0, 0)) (by (with_reducible repeat (first | refine blk_drewN ?_ _ | refine blk_drew ?_ | refine blk_alloc ?_ _)); exact BK200.out)) : gb200 ≠ gb202)); have n6_ := Aside0.mk ((by rw [hg]; exact Nat.ne_of_gt (blk_lt (g := gb200) (o := .cells #[.slice (some ad201) l0_0.length c0_0, .int .i64 a0_1] 34 (0, 0)) (by (with_reducible repeat (first | refine blk_drewN ?_ _ | refine blk_drew ?_ | refine blk_alloc ?_ _)); exact BK200.out)) : gb202 ≠ gb200)); clear BK200; clear HB; have BK200 := n0_; have HB := n1_; have BK202 := n2_; have GW202 := n3_; have GE202 := n4_; have NB200_202 := n5_; have NB202_200 := n6_; clear n0_ n1_ n2_ n3_ n4_ n5_ n6_; clear hb hbox hg; have hnb9 := NB202_200.out; have hnc9 := NB200_202.out; have hcz10_0 : w8.cell? ⟨gb202, 0, none⟩ = some (.int .i64 0) := (blk_cell BK202.out 0).trans rfl; have hcz10_1 : w8.cell? ⟨gb202, 1, none⟩ = some (.int .i64 0) := (blk_cell BK202.out 1).trans rfl; have hcz10_2 : w8.cell? ⟨gb202, 2, none⟩ = some (.int .i64 0) := (blk_cell BK202.out 2).trans rfl; have hcz10_3 : w8.cell? ⟨gb202, 3, none⟩ = some (.int .i64 0) := (blk_cell BK202.out 3).trans rfl; have hcz10_4 : w8.cell? ⟨gb202, 4, none⟩ = some (.int .i64 0) := (blk_cell BK202.out 4).trans rfl; have hcz10_5 : w8.cell? ⟨gb202, 5, none⟩ = some (.string (⟨#[]⟩ : ByteArray)) := (blk_cell BK202.out 5).trans rfl; have hcz10_6 : w8.cell? ⟨gb202, 6, none⟩ = some (.slice none 0 0) := (blk_cell BK202.out 6).trans rfl; have hfz10_0 := blk_frozen BK202.out 0; have hfz10_1 := blk_frozen BK202.out 1; have hfz10_2 := blk_frozen BK202.out 2; have hfz10_3 := blk_frozen BK202.out 3; have hfz10_4 := blk_frozen BK202.out 4; have hfz10_5 := blk_frozen BK202.out 5; have hfz10_6 := blk_frozen BK202.out 6))
    go_loopg [5, 20] k1 (fun kq v5 v20 w' => ∃ (x5_2 : Int) (x20_2 : Int), v5 = .int .i64 x5_2 ∧ v20 = .int .i64 x20_2 ∧ Aside0 (spec_l3Links.l1 kq a1 x5_2 l0_0 (l0_0.length : Int) x13_1 ((rd_T70 l0_0 x13_1).f6) (((rd_T70 l0_0 x13_1).f6).length : Int) x20_2 = some r) ∧ Aside0 (kq ≤ k1) ∧ Aside0 (w'.heap[gb200]? = some (.cells #[(.slice (some ad201) l0_0.length c0_0), .int .i64 a0_1] 34 (0, 0))) ∧ Aside0 (w'.heap[gb202]? = some (.cells #[.int .i64 ((rd_T70 l0_0 x13_1).f0), .int .i64 ((rd_T70 l0_0 x13_1).f1), .int .i64 ((rd_T70 l0_0 x13_1).f2), .int .i64 ((rd_T70 l0_0 x13_1).f3), .int .i64 ((rd_T70 l0_0 x13_1).f4), .string ((rd_T70 l0_0 x13_1).f5), (.slice A201_6 ((rd_T70 l0_0 x13_1).f6).length c201_6)] 70 (0, 0))) ∧ Aside0 (Below w.heap.size w w'))
    case atStart => exact ⟨(x5_1), (0), (by first | rfl | (simp; done) | (simp [*]; done)), (by first | rfl | (simp; done) | (simp [*]; done)), H', ⟨Nat.le_refl _⟩, ⟨by (with_reducible repeat (first | refine blk_drewN ?_ _ | refine blk_drew ?_ | refine blk_alloc ?_ _)); refine blk_far ?_ NB200_202.out _; (with_reducible repeat (first | refine blk_drewN ?_ _ | refine blk_drew ?_ | refine blk_alloc ?_ _)); refine blk_far ?_ NB200_202.out _; (with_reducible repeat (first | refine blk_drewN ?_ _ | refine blk_drew ?_ | refine blk_alloc ?_ _)); refine blk_far ?_ NB200_202.out _; (with_reducible repeat (first | refine blk_drewN ?_ _ | refine blk_drew ?_ | refine blk_alloc ?_ _)); refine blk_far ?_ NB200_202.out _; (with_reducible repeat (first | refine blk_drewN ?_ _ | refine blk_drew ?_ | refine blk_alloc ?_ _)); refine blk_far ?_ NB200_202.out _; (with_reducible repeat (first | refine blk_drewN ?_ _ | refine blk_drew ?_ | refine blk_alloc ?_ _)); refine blk_far ?_ NB200_202.out _; (with_reducible repeat (first | refine blk_drewN ?_ _ | refine blk_drew ?_ | refine blk_alloc ?_ _)); refine blk_far ?_ NB200_202.out _; (with_reducible repeat (first | refine blk_drewN ?_ _ | refine blk_drew ?_ | refine blk_alloc ?_ _)); exact BK200.out⟩, ⟨by (with_reducible repeat (first | refine blk_drewN ?_ _ | refine blk_drew ?_ | refine blk_alloc ?_ _)); refine blk_put (cs := #[.int .i64 ((rd_T70 l0_0 x13_1).f0), .int .i64 ((rd_T70 l0_0 x13_1).f1), .int .i64 ((rd_T70 l0_0 x13_1).f2), .int .i64 ((rd_T70 l0_0 x13_1).f3), .int .i64 ((rd_T70 l0_0 x13_1).f4), .string ((rd_T70 l0_0 x13_1).f5), .slice none 0 0]) ?_ 6 _ rfl; (with_reducible repeat (first | refine blk_drewN ?_ _ | refine blk_drew ?_ | refine blk_alloc ?_ _)); refine blk_put (cs := #[.int .i64 ((rd_T70 l0_0 x13_1).f0), .int .i64 ((rd_T70 l0_0 x13_1).f1), .int .i64 ((rd_T70 l0_0 x13_1).f2), .int .i64 ((rd_T70 l0_0 x13_1).f3), .int .i64 ((rd_T70 l0_0 x13_1).f4), .string (⟨#[]⟩ : ByteArray), .slice none 0 0]) ?_ 5 _ rfl; (with_reducible repeat (first | refine blk_drewN ?_ _ | refine blk_drew ?_ | refine blk_alloc ?_ _)); refine blk_put (cs := #[.int .i64 ((rd_T70 l0_0 x13_1).f0), .int .i64 ((rd_T70 l0_0 x13_1).f1), .int .i64 ((rd_T70 l0_0 x13_1).f2), .int .i64 ((rd_T70 l0_0 x13_1).f3), .int .i64 0, .string (⟨#[]⟩ : ByteArray), .slice none 0 0]) ?_ 4 _ rfl; (with_reducible repeat (first | refine blk_drewN ?_ _ | refine blk_drew ?_ | refine blk_alloc ?_ _)); refine blk_put (cs := #[.int .i64 ((rd_T70 l0_0 x13_1).f0), .int .i64 ((rd_T70 l0_0 x13_1).f1), .int .i64 ((rd_T70 l0_0 x13_1).f2), .int .i64 0, .int .i64 0, .string (⟨#[]⟩ : ByteArray), .slice none 0 0]) ?_ 3 _ rfl; (with_reducible repeat (first | refine blk_drewN ?_ _ | refine blk_drew ?_ | refine blk_alloc ?_ _)); refine blk_put (cs := #[.int .i64 ((rd_T70 l0_0 x13_1).f0), .int .i64 ((rd_T70 l0_0 x13_1).f1), .int .i64 0, .int .i64 0, .int .i64 0, .string (⟨#[]⟩ : ByteArray), .slice none 0 0]) ?_ 2 _ rfl; (with_reducible repeat (first | refine blk_drewN ?_ _ | refine blk_drew ?_ | refine blk_alloc ?_ _)); refine blk_put (cs := #[.int .i64 ((rd_T70 l0_0 x13_1).f0), .int .i64 0, .int .i64 0, .int .i64 0, .int .i64 0, .string (⟨#[]⟩ : ByteArray), .slice none 0 0]) ?_ 1 _ rfl; (with_reducible repeat (first | refine blk_drewN ?_ _ | refine blk_drew ?_ | refine blk_alloc ?_ _)); refine blk_put (cs := #[.int .i64 0, .int .i64 0, .int .i64 0, .int .i64 0, .int .i64 0, .string (⟨#[]⟩ : ByteArray), .slice none 0 0]) ?_ 0 _ rfl; (with_reducible repeat (first | refine blk_drewN ?_ _ | refine blk_drew ?_ | refine blk_alloc ?_ _)); exact BK202.out⟩, ⟨by repeat (first | (with_reducible first | exact HB.out | apply below_alloc | apply pw_below_drewN | apply below_drew1 | refine below_set ?_ GE200.out | refine below_set ?_ GE202.out) | exact HB.out)⟩⟩
    case round =>
     clear H'
     (try clear c2);(try clear p2);(try clear q2);(try clear hx2);(try clear c5);(try clear c5b0);(try clear c6);(try clear c6b0);(try clear c7);(try clear c7b0);(try clear c9);(try clear hcz10_0);(try clear hcz10_1);(try clear hcz10_2);(try clear hcz10_3);(try clear hcz10_4);(try clear hcz10_5);(try clear hcz10_6);(try clear hcz4_0);(try clear hcz4_1);(try clear hfz10_0);(try clear hfz10_1);(try clear hfz10_2);(try clear hfz10_3);(try clear hfz10_4);(try clear hfz10_5);(try clear hfz10_6);(try clear hfz4_0);(try clear hfz4_1);(try clear hx201_0);(try clear hx201_1);(try clear hx201_2);(try clear hx201_3);(try clear hx201_4);(try clear hx201_5);(try clear hx201_6);(try clear p2);(try clear p201);(try clear q201)
     obtain ⟨x5_2, x20_2, rfl, rfl, HA, HK2, BK200, BK202, HB⟩ := hrel
     cases gk with
     | zero => exact absurd HA.out (by simp [spec_l3Links.l1])
     | succ k2 =>
      have H := HA.out
      clear HA
      simp only [spec_l3Links.l1] at H
      by_cases c11 : x20_2 < (((rd_T70 l0_0 x13_1).f6).length : Int)
      ·rw [if_pos c11] at H
       have c11b0 : decide (x20_2 < (((rd_T70 l0_0 x13_1).f6).length : Int)) = true := decide_eq_true c11
       clear c11
       refine Or.elim (Classical.em (0 ≤ x20_2)) (fun c12 => ?_) (fun c12 => by rw [if_neg c12] at H; exact absurd H (by simp))
       rw [if_pos c12] at H
       have c12b0 : decide (0 ≤ x20_2) = true := decide_eq_true c12
       clear c12
       refine Or.elim (Classical.em (x20_2 < (((rd_T70 l0_0 x13_1).f6).length : Int))) (fun c13 => ?_) (fun c13 => by rw [if_neg c13] at H; exact absurd H (by simp))
       rw [if_pos c13] at H
       have c13b0 : decide (x20_2 < (((rd_T70 l0_0 x13_1).f6).length : Int)) = true := decide_eq_true c13
       clear c13
       by_cases c14 : ((rd_T101 ((rd_T70 l0_0 x13_1).f6) x20_2).f1) = a1
       ·rw [if_pos c14] at H
        have c14b0 : (((rd_T101 ((rd_T70 l0_0 x13_1).f6) x20_2).f1) == a1) = true := beq_iff_eq.mpr c14
        have c14b1 : (((rd_T101 ((rd_T70 l0_0 x13_1).f6) x20_2).f1) != a1) = false := bne_eq_false_iff_eq.mpr c14
        clear c14
        have H' := Aside0.mk H
        clear H
        have p203 : 0 ≤ (x20_2 : Int) := of_decide_eq_true (by first | (with_reducible assumption) | assumption)
        have q203 : x20_2 < (((rd_T70 l0_0 x13_1).f6).length : Int) := of_decide_eq_true (by first | (with_reducible assumption) | assumption)
        obtain ⟨ad203, e203, hx203_0, hx203_1⟩ := at_T101 HR201_6.out x20_2 p203 q203
        cases e203
        replace hx203_0 := (HB.out.cell (World.block_lt_of_cell? w _ hx203_0)).trans hx203_0
        replace hx203_1 := (HB.out.cell (World.block_lt_of_cell? w _ hx203_1)).trans hx203_1
        replace p203 := eq_true p203
        replace q203 := eq_true q203
        go_wp2_with (first | ((with_reducible refine gate_dst (N := 9) rfl ?_); refine box_event ?hg (N := 9) ?hd (cs := #[.string (⟨#[]⟩ : ByteArray), .int .i64 0]) (t := 101) ?hr ?_; (case hd => rfl); (case hg => rfl); (case hr => first | (go_simp; done) | (go_simp; rfl)); intro gb204 hg w15 hbox hb; have n0_ := Aside0.mk (blk_below (g := gb200) (o := .cells #[.slice (some ad201) l0_0.length c0_0, .int .i64 a0_1] 34 (0, 0)) (by (with_reducible repeat (first | refine blk_drewN ?_ _ | refine blk_drew ?_ | refine blk_alloc ?_ _)); exact BK200.out) hb); have n1_ := Aside0.mk (blk_below (g := gb202) (o := .cells #[.int .i64 ((rd_T70 l0_0 x13_1).f0), .int .i64 ((rd_T70 l0_0 x13_1).f1), .int .i64 ((rd_T70 l0_0 x13_1).f2), .int .i64 ((rd_T70 l0_0 x13_1).f3), .int .i64 ((rd_T70 l0_0 x13_1).f4), .string ((rd_T70 l0_0 x13_1).f5), .slice (some ad203) ((rd_T70 l0_0 x13_1).f6).length c201_6] 70 (0, 0)) (by (with_reducible repeat (first | refine blk_drewN ?_ _ | refine blk_drew ?_ | refine blk_alloc ?_ _)); exact BK202.out) hb); have n2_ := Aside0.mk (below_step (by repeat (first | (with_reducible first | exact HB.out | apply below_alloc | apply pw_below_drewN | apply below_drew1 | refine below_set ?_ GE200.out | refine below_set ?_ GE202.out) | exact HB.out)) hb); have n3_ := Aside0.mk (hbox); have n4_ := Aside0.mk ((by rw [hg]; exact (below_size (by repeat (first | (with_reducible first | exact HB.out | apply below_alloc | apply pw_below_drewN | apply below_drew1 | refine below_set ?_ GE200.out | refine below_set ?_ GE202.out) | exact HB.out))) : w.heap.size ≤ gb204)); have n5_ := Aside0.mk ((by rw [hg]; exact (below_size (by repeat (first | (with_reducible first | exact HB.out | apply below_alloc | apply pw_below_drewN | apply below_drew1 | refine below_set ?_ GE200.out | refine below_set ?_ GE202.out) | exact HB.out))) : w.heap.size ≤ gb204)); have n6_ := Aside0.mk ((by rw [hg]; exact Nat.ne_of_lt (blk_lt (g := gb200) (o := .cells #[.slice (some ad201) l0_0.length c0_0, .int .i64 a0_1] 34 (0, 0)) (by (with_reducible repeat (first | refine blk_drewN ?_ _ | refine blk_drew ?_ | refine blk_alloc ?_ _)); exact BK200.out)) : gb200 ≠ gb204)); have n7_ := Aside0.mk ((by rw [hg]; exact Nat.ne_of_gt (blk_lt (g := gb200) (o := .cells #[.slice (some ad201) l0_0.length c0_0, .int .i64 a0_1] 34 (0, 0)) (by (with_reducible repeat (first | refine blk_drewN ?_ _ | refine blk_drew ?_ | refine blk_alloc ?_ _)); exact BK200.out)) : gb204 ≠ gb200)); have n8_ := Aside0.mk ((by rw [hg]; exact Nat.ne_of_lt (blk_lt (g := gb202) (o := .cells #[.int .i64 ((rd_T70 l0_0 x13_1).f0), .int .i64 ((rd_T70 l0_0 x13_1).f1), .int .i64 ((rd_T70 l0_0 x13_1).f2), .int .i64 ((rd_T70 l0_0 x13_1).f3), .int .i64 ((rd_T70 l0_0 x13_1).f4), .string ((rd_T70 l0_0 x13_1).f5), .slice (some ad203) ((rd_T70 l0_0 x13_1).f6).length c201_6] 70 (0, 0)) (by (with_reducible repeat (first | refine blk_drewN ?_ _ | refine blk_drew ?_ | refine blk_alloc ?_ _)); exact BK202.out)) : gb202 ≠ gb204)); have n9_ := Aside0.mk ((by rw [hg]; exact Nat.ne_of_gt (blk_lt (g := gb202) (o := .cells #[.int .i64 ((rd_T70 l0_0 x13_1).f0), .int .i64 ((rd_T70 l0_0 x13_1).f1), .int .i64 ((rd_T70 l0_0 x13_1).f2), .int .i64 ((rd_T70 l0_0 x13_1).f3), .int .i64 ((rd_T70 l0_0 x13_1).f4), .string ((rd_T70 l0_0 x13_1).f5), .slice (some ad203) ((rd_T70 l0_0 x13_1).f6).length c201_6] 70 (0, 0)) (by (with_reducible repeat (first | refine blk_drewN ?_ _ | refine blk_drew ?_ | refine blk_alloc ?_ _)); exact BK202.out)) : gb204 ≠ gb202)); clear BK200; clear BK202; clear HB; have BK200 := n0_; have BK202 := n1_; have HB := n2_; have BK204 := n3_; have GW204 := n4_; have GE204 := n5_; have NB200_204 := n6_; have NB204_200 := n7_; have NB202_204 := n8_; have NB204_202 := n9_; clear n0_ n1_ n2_ n3_ n4_ n5_ n6_ n7_ n8_ n9_; clear hb hbox hg; have hnb16 := NB204_200.out; have hnc16 := NB200_204.out; have hnb17 := NB204_202.out; have hnc17 := NB202_204.out; have hcz18_0 : w15.cell? ⟨gb204, 0, none⟩ = some (.string (⟨#[]⟩ : ByteArray)) := (blk_cell BK204.out 0).trans rfl; have hcz18_1 : w15.cell? ⟨gb204, 1, none⟩ = some (.int .i64 0) := (blk_cell BK204.out 1).trans rfl; have hfz18_0 := blk_frozen BK204.out 0; have hfz18_1 := blk_frozen BK204.out 1))
        go_roundg k2
        case measure => have := HK1.out; have := HK2.out; omega
        case rel => exact ⟨(wrap64 (x5_2 + 1)), (wrap64 (x20_2 + 1)), (by first | rfl | (simp; done) | (simp [*]; done)), (by first | rfl | (simp; done) | (simp [*]; done)), H', ⟨by have := HK1.out; have := HK2.out; omega⟩, ⟨by (with_reducible repeat (first | refine blk_drewN ?_ _ | refine blk_drew ?_ | refine blk_alloc ?_ _)); refine blk_far ?_ NB200_204.out _; (with_reducible repeat (first | refine blk_drewN ?_ _ | refine blk_drew ?_ | refine blk_alloc ?_ _)); refine blk_far ?_ NB200_204.out _; (with_reducible repeat (first | refine blk_drewN ?_ _ | refine blk_drew ?_ | refine blk_alloc ?_ _)); exact BK200.out⟩, ⟨by (with_reducible repeat (first | refine blk_drewN ?_ _ | refine blk_drew ?_ | refine blk_alloc ?_ _)); refine blk_far ?_ NB202_204.out _; (with_reducible repeat (first | refine blk_drewN ?_ _ | refine blk_drew ?_ | refine blk_alloc ?_ _)); refine blk_far ?_ NB202_204.out _; (with_reducible repeat (first | refine blk_drewN ?_ _ | refine blk_drew ?_ | refine blk_alloc ?_ _)); exact BK202.out⟩, ⟨by repeat (first | (with_reducible first | exact HB.out | apply below_alloc | apply pw_below_drewN | apply below_drew1 | refine below_set ?_ GE200.out | refine below_set ?_ GE202.out | refine below_set ?_ GE204.out) | exact HB.out)⟩⟩
       ·rw [if_neg c14] at H
        have c14b0 : (((rd_T101 ((rd_T70 l0_0 x13_1).f6) x20_2).f1) == a1) = false := beq_eq_false_iff_ne.mpr c14
        have c14b1 : (((rd_T101 ((rd_T70 l0_0 x13_1).f6) x20_2).f1) != a1) = true := bne_iff_ne.mpr c14
        have H' := Aside0.mk H
        clear H
        have p203 : 0 ≤ (x20_2 : Int) := of_decide_eq_true (by first | (with_reducible assumption) | assumption)
        have q203 : x20_2 < (((rd_T70 l0_0 x13_1).f6).length : Int) := of_decide_eq_true (by first | (with_reducible assumption) | assumption)
        obtain ⟨ad203, e203, hx203_0, hx203_1⟩ := at_T101 HR201_6.out x20_2 p203 q203
        cases e203
        replace hx203_0 := (HB.out.cell (World.block_lt_of_cell? w _ hx203_0)).trans hx203_0
        replace hx203_1 := (HB.out.cell (World.block_lt_of_cell? w _ hx203_1)).trans hx203_1
        replace p203 := eq_true p203
        replace q203 := eq_true q203
        go_wp2_with (first | ((with_reducible refine gate_dst (N := 9) rfl ?_); refine box_event ?hg (N := 9) ?hd (cs := #[.string (⟨#[]⟩ : ByteArray), .int .i64 0]) (t := 101) ?hr ?_; (case hd => rfl); (case hg => rfl); (case hr => first | (go_simp; done) | (go_simp; rfl)); intro gb204 hg w19 hbox hb; have n0_ := Aside0.mk (blk_below (g := gb200) (o := .cells #[.slice (some ad201) l0_0.length c0_0, .int .i64 a0_1] 34 (0, 0)) (by (with_reducible repeat (first | refine blk_drewN ?_ _ | refine blk_drew ?_ | refine blk_alloc ?_ _)); exact BK200.out) hb); have n1_ := Aside0.mk (blk_below (g := gb202) (o := .cells #[.int .i64 ((rd_T70 l0_0 x13_1).f0), .int .i64 ((rd_T70 l0_0 x13_1).f1), .int .i64 ((rd_T70 l0_0 x13_1).f2), .int .i64 ((rd_T70 l0_0 x13_1).f3), .int .i64 ((rd_T70 l0_0 x13_1).f4), .string ((rd_T70 l0_0 x13_1).f5), .slice (some ad203) ((rd_T70 l0_0 x13_1).f6).length c201_6] 70 (0, 0)) (by (with_reducible repeat (first | refine blk_drewN ?_ _ | refine blk_drew ?_ | refine blk_alloc ?_ _)); exact BK202.out) hb); have n2_ := Aside0.mk (below_step (by repeat (first | (with_reducible first | exact HB.out | apply below_alloc | apply pw_below_drewN | apply below_drew1 | refine below_set ?_ GE200.out | refine below_set ?_ GE202.out) | exact HB.out)) hb); have n3_ := Aside0.mk (hbox); have n4_ := Aside0.mk ((by rw [hg]; exact (below_size (by repeat (first | (with_reducible first | exact HB.out | apply below_alloc | apply pw_below_drewN | apply below_drew1 | refine below_set ?_ GE200.out | refine below_set ?_ GE202.out) | exact HB.out))) : w.heap.size ≤ gb204)); have n5_ := Aside0.mk ((by rw [hg]; exact (below_size (by repeat (first | (with_reducible first | exact HB.out | apply below_alloc | apply pw_below_drewN | apply below_drew1 | refine below_set ?_ GE200.out | refine below_set ?_ GE202.out) | exact HB.out))) : w.heap.size ≤ gb204)); have n6_ := Aside0.mk ((by rw [hg]; exact Nat.ne_of_lt (blk_lt (g := gb200) (o := .cells #[.slice (some ad201) l0_0.length c0_0, .int .i64 a0_1] 34 (0, 0)) (by (with_reducible repeat (first | refine blk_drewN ?_ _ | refine blk_drew ?_ | refine blk_alloc ?_ _)); exact BK200.out)) : gb200 ≠ gb204)); have n7_ := Aside0.mk ((by rw [hg]; exact Nat.ne_of_gt (blk_lt (g := gb200) (o := .cells #[.slice (some ad201) l0_0.length c0_0, .int .i64 a0_1] 34 (0, 0)) (by (with_reducible repeat (first | refine blk_drewN ?_ _ | refine blk_drew ?_ | refine blk_alloc ?_ _)); exact BK200.out)) : gb204 ≠ gb200)); have n8_ := Aside0.mk ((by rw [hg]; exact Nat.ne_of_lt (blk_lt (g := gb202) (o := .cells #[.int .i64 ((rd_T70 l0_0 x13_1).f0), .int .i64 ((rd_T70 l0_0 x13_1).f1), .int .i64 ((rd_T70 l0_0 x13_1).f2), .int .i64 ((rd_T70 l0_0 x13_1).f3), .int .i64 ((rd_T70 l0_0 x13_1).f4), .string ((rd_T70 l0_0 x13_1).f5), .slice (some ad203) ((rd_T70 l0_0 x13_1).f6).length c201_6] 70 (0, 0)) (by (with_reducible repeat (first | refine blk_drewN ?_ _ | refine blk_drew ?_ | refine blk_alloc ?_ _)); exact BK202.out)) : gb202 ≠ gb204)); have n9_ := Aside0.mk ((by rw [hg]; exact Nat.ne_of_gt (blk_lt (g := gb202) (o := .cells #[.int .i64 ((rd_T70 l0_0 x13_1).f0), .int .i64 ((rd_T70 l0_0 x13_1).f1), .int .i64 ((rd_T70 l0_0 x13_1).f2), .int .i64 ((rd_T70 l0_0 x13_1).f3), .int .i64 ((rd_T70 l0_0 x13_1).f4), .string ((rd_T70 l0_0 x13_1).f5), .slice (some ad203) ((rd_T70 l0_0 x13_1).f6).length c201_6] 70 (0, 0)) (by (with_reducible repeat (first | refine blk_drewN ?_ _ | refine blk_drew ?_ | refine blk_alloc ?_ _)); exact BK202.out)) : gb204 ≠ gb202)); clear BK200; clear BK202; clear HB; have BK200 := n0_; have BK202 := n1_; have HB := n2_; have BK204 := n3_; have GW204 := n4_; have GE204 := n5_; have NB200_204 := n6_; have NB204_200 := n7_; have NB202_204 := n8_; have NB204_202 := n9_; clear n0_ n1_ n2_ n3_ n4_ n5_ n6_ n7_ n8_ n9_; clear hb hbox hg; have hnb20 := NB204_200.out; have hnc20 := NB200_204.out; have hnb21 := NB204_202.out; have hnc21 := NB202_204.out; have hcz22_0 : w19.cell? ⟨gb204, 0, none⟩ = some (.string (⟨#[]⟩ : ByteArray)) := (blk_cell BK204.out 0).trans rfl; have hcz22_1 : w19.cell? ⟨gb204, 1, none⟩ = some (.int .i64 0) := (blk_cell BK204.out 1).trans rfl; have hfz22_0 := blk_frozen BK204.out 0; have hfz22_1 := blk_frozen BK204.out 1))
        go_roundg k2
        case measure => have := HK1.out; have := HK2.out; omega
        case rel => exact ⟨(x5_2), (wrap64 (x20_2 + 1)), (by first | rfl | (simp; done) | (simp [*]; done)), (by first | rfl | (simp; done) | (simp [*]; done)), H', ⟨by have := HK1.out; have := HK2.out; omega⟩, ⟨by (with_reducible repeat (first | refine blk_drewN ?_ _ | refine blk_drew ?_ | refine blk_alloc ?_ _)); refine blk_far ?_ NB200_204.out _; (with_reducible repeat (first | refine blk_drewN ?_ _ | refine blk_drew ?_ | refine blk_alloc ?_ _)); refine blk_far ?_ NB200_204.out _; (with_reducible repeat (first | refine blk_drewN ?_ _ | refine blk_drew ?_ | refine blk_alloc ?_ _)); exact BK200.out⟩, ⟨by (with_reducible repeat (first | refine blk_drewN ?_ _ | refine blk_drew ?_ | refine blk_alloc ?_ _)); refine blk_far ?_ NB202_204.out _; (with_reducible repeat (first | refine blk_drewN ?_ _ | refine blk_drew ?_ | refine blk_alloc ?_ _)); refine blk_far ?_ NB202_204.out _; (with_reducible repeat (first | refine blk_drewN ?_ _ | refine blk_drew ?_ | refine blk_alloc ?_ _)); exact BK202.out⟩, ⟨by repeat (first | (with_reducible first | exact HB.out | apply below_alloc | apply pw_below_drewN | apply below_drew1 | refine below_set ?_ GE200.out | refine below_set ?_ GE202.out | refine below_set ?_ GE204.out) | exact HB.out)⟩⟩
      ·rw [if_neg c11] at H
       have c11b0 : decide (x20_2 < (((rd_T70 l0_0 x13_1).f6).length : Int)) = false := decide_eq_false c11
       clear c11
       have H' := Aside0.mk H
       clear H
       go_wp2
       go_roundg k2
       case measure => have := HK1.out; have := HK2.out; omega
       case rel => exact ⟨(x5_2), (wrap64 (x13_1 + 1)), (by first | rfl | (simp; done) | (simp [*]; done)), (by first | rfl | (simp; done) | (simp [*]; done)), H', ⟨by have := HK1.out; have := HK2.out; omega⟩, ⟨by (with_reducible repeat (first | refine blk_drewN ?_ _ | refine blk_drew ?_ | refine blk_alloc ?_ _)); exact BK200.out⟩, ⟨by repeat (first | (with_reducible first | exact HB.out | apply below_alloc | apply pw_below_drewN | apply below_drew1 | refine below_set ?_ GE200.out | refine below_set ?_ GE202.out) | exact HB.out)⟩⟩
   ·rw [if_neg c5] at H
    have c5b0 : decide (x13_1 < (l0_0.length : Int)) = false := decide_eq_false c5
    clear c5
    obtain rfl := Option.some.inj H
    go_wp2
    go_ret
    exact ⟨by first | rfl | (simp [errW_none, errW_some] <;> rfl) | (simp [*, errW_none, errW_some] <;> rfl), by repeat (first | (with_reducible first | exact HB.out | apply below_alloc | apply pw_below_drewN | apply below_drew1 | refine below_set ?_ GE200.out) | exact HB.out)⟩
end Go.Proofs.YthalkpflbbpniaaGreatDoor.Q

-- Printed by a program of this session (wip/tools/myprint.py) that runs the kit's print, hand-proved functions among the others.
namespace Go.Proofs.YthalkpflbbpniaaGreatDoor.Q
open Go.RowKit Go.Proofs.YthalkpflbbpniaaGreatDoorW.PrintWords Go.Proofs.YthalkpflbbpniaaGreatDoorW.PrintLast Go.Proofs.YthalkpflbbpniaaGreatDoorW.PrintMore
attribute [local go_sem] max2_int min2_int max_two min_two max_three min_three max_four min_four   -- for this text's walks alone
set_option linter.unusedVariables false
set_option linter.unusedSimpArgs false

/-! ### impl_Fs_bytesIn: function 32 -/
def impl_Fs_bytesIn.l0 : Nat → Int → List (S70) → Int → Int → Option (Int)
 | 0, _, _, _, _ => none
 | k + 1, x3, x7, x8, x9 => if x9 < x8 then (if 0 ≤ x9 then (if x9 < (x7.length : Int) then (impl_Fs_bytesIn.l0 k (wrap64 (x3 + (((rd_T70 x7 x9).f5).size : Int))) x7 x8 (wrap64 (x9 + 1))) else (none)) else (none)) else (some x3)
def impl_Fs_bytesIn.f (k : Nat) (l0_0 : List (S70)) (a0_1 : Int) : Option (Int) := impl_Fs_bytesIn.l0 k 0 l0_0 (l0_0.length : Int) 0
set_option maxHeartbeats 8000000 in
set_option maxRecDepth 100000 in
theorem impl_Fs_bytesIn.calls (k : Nat) (A0_0 : Option Addr) (c0_0 : Nat) (l0_0 : List (S70)) (a0_1 : Int) (r : Int) (w : World) (hr0_0 : Kd.C k70 w A0_0 l0_0.length l0_0) (hc0_0 : l0_0.length ≤ c0_0) (h : impl_Fs_bytesIn.f k l0_0 a0_1 = some r) :
  Calls Tryz.prog 32 #[.agg #[.slice A0_0 l0_0.length c0_0, .int .i64 a0_1]] w fun e w' => e = .returned (.int .i64 r) ∧ Below w.heap.size w w' := by
 have hu34 := Tryz.underlying34
 have hu70 := Tryz.underlying70
 have HR0_0 := Aside0.mk hr0_0
 have HC0_0 := Aside0.mk hc0_0
 clear hr0_0 hc0_0
 have HB := Aside0.mk (Below.refl w.heap.size w)
 have H : (impl_Fs_bytesIn.l0 k 0 l0_0 (l0_0.length : Int) 0) = some r := h
 clear h
 have H' := Aside0.mk H
 clear H
 go_enter Tryz.func32, Tryz.ntmps32
 go_wp2_with (first | ((with_reducible refine gate_dst (N := 1) rfl ?_); refine box_event ?hg (N := 1) ?hd (cs := #[.slice A0_0 l0_0.length c0_0, .int .i64 a0_1]) (t := 34) ?hr ?_; (case hd => rfl); (case hg => rfl); (case hr => first | (go_simp; done) | (go_simp; rfl)); intro gb280 hg w2 hbox hb; have n0_ := Aside0.mk (below_step (by repeat (first | (with_reducible first | exact HB.out | apply below_alloc | apply pw_below_drewN | apply below_drew1) | exact HB.out)) hb); have n1_ := Aside0.mk (hbox); have n2_ := Aside0.mk ((by rw [hg]; exact (below_size (by repeat (first | (with_reducible first | exact HB.out | apply below_alloc | apply pw_below_drewN | apply below_drew1) | exact HB.out))) : w.heap.size ≤ gb280)); have n3_ := Aside0.mk ((by rw [hg]; exact (below_size (by repeat (first | (with_reducible first | exact HB.out | apply below_alloc | apply pw_below_drewN | apply below_drew1) | exact HB.out))) : w.heap.size ≤ gb280)); clear HB; have HB := n0_; have BK280 := n1_; have GW280 := n2_; have GE280 := n3_; clear n0_ n1_ n2_ n3_; clear hb hbox hg; have hcz3_0 : w2.cell? ⟨gb280, 0, none⟩ = some (.slice A0_0 l0_0.length c0_0) := (blk_cell BK280.out 0).trans rfl; have hcz3_1 : w2.cell? ⟨gb280, 1, none⟩ = some (.int .i64 a0_1) := (blk_cell BK280.out 1).trans rfl; have hfz3_0 := blk_frozen BK280.out 0; have hfz3_1 := blk_frozen BK280.out 1))
 go_loopg [3, 9] k (fun kq v3 v9 w' => ∃ (x3_1 : Int) (x9_1 : Int), v3 = .int .i64 x3_1 ∧ v9 = .int .i64 x9_1 ∧ Aside0 (impl_Fs_bytesIn.l0 kq x3_1 l0_0 (l0_0.length : Int) x9_1 = some r) ∧ Aside0 (kq ≤ k) ∧ Aside0 (w'.heap[gb280]? = some (.cells #[(.slice A0_0 l0_0.length c0_0), .int .i64 a0_1] 34 (0, 0))) ∧ Aside0 (Below w.heap.size w w'))
 case atStart => exact ⟨(0), (0), (by first | rfl | (simp; done) | (simp [*]; done)), (by first | rfl | (simp; done) | (simp [*]; done)), H', ⟨Nat.le_refl _⟩, ⟨by (with_reducible repeat (first | refine blk_drewN ?_ _ | refine blk_drew ?_ | refine blk_alloc ?_ _)); exact BK280.out⟩, ⟨by repeat (first | (with_reducible first | exact HB.out | apply below_alloc | apply pw_below_drewN | apply below_drew1 | refine below_set ?_ GE280.out) | exact HB.out)⟩⟩
 case round =>
  clear H'
  (try clear p2);(try clear c3);(try clear hcz3_0);(try clear hcz3_1);(try clear hfz3_0);(try clear hfz3_1)
  obtain ⟨x3_1, x9_1, rfl, rfl, HA, HK1, BK280, HB⟩ := hrel
  cases gk with
  | zero => exact absurd HA.out (by simp [impl_Fs_bytesIn.l0])
  | succ k1 =>
   have H := HA.out
   clear HA
   simp only [impl_Fs_bytesIn.l0] at H
   by_cases c4 : x9_1 < (l0_0.length : Int)
   ·rw [if_pos c4] at H
    have c4b0 : decide (x9_1 < (l0_0.length : Int)) = true := decide_eq_true c4
    clear c4
    refine Or.elim (Classical.em (0 ≤ x9_1)) (fun c5 => ?_) (fun c5 => by rw [if_neg c5] at H; exact absurd H (by simp))
    rw [if_pos c5] at H
    have c5b0 : decide (0 ≤ x9_1) = true := decide_eq_true c5
    clear c5
    refine Or.elim (Classical.em (x9_1 < (l0_0.length : Int))) (fun c6 => ?_) (fun c6 => by rw [if_neg c6] at H; exact absurd H (by simp))
    rw [if_pos c6] at H
    have c6b0 : decide (x9_1 < (l0_0.length : Int)) = true := decide_eq_true c6
    clear c6
    have H' := Aside0.mk H
    clear H
    have p281 : 0 ≤ (x9_1 : Int) := of_decide_eq_true (by first | (with_reducible assumption) | assumption)
    have q281 : x9_1 < (l0_0.length : Int) := of_decide_eq_true (by first | (with_reducible assumption) | assumption)
    obtain ⟨ad281, A281_6, c281_6, e281, hx281_0, hx281_1, hx281_2, hx281_3, hx281_4, hx281_5, hx281_6, hl281_6, hi281_6⟩ := at_T70 HR0_0.out x9_1 p281 q281
    cases e281
    replace hx281_0 := (HB.out.cell (World.block_lt_of_cell? w _ hx281_0)).trans hx281_0
    replace hx281_1 := (HB.out.cell (World.block_lt_of_cell? w _ hx281_1)).trans hx281_1
    replace hx281_2 := (HB.out.cell (World.block_lt_of_cell? w _ hx281_2)).trans hx281_2
    replace hx281_3 := (HB.out.cell (World.block_lt_of_cell? w _ hx281_3)).trans hx281_3
    replace hx281_4 := (HB.out.cell (World.block_lt_of_cell? w _ hx281_4)).trans hx281_4
    replace hx281_5 := (HB.out.cell (World.block_lt_of_cell? w _ hx281_5)).trans hx281_5
    replace hx281_6 := (HB.out.cell (World.block_lt_of_cell? w _ hx281_6)).trans hx281_6
    have HR281_6 := Aside0.mk hi281_6
    have HC281_6 := Aside0.mk hl281_6
    clear hi281_6 hl281_6
    replace p281 := eq_true p281
    replace q281 := eq_true q281
    go_wp2_with (first | ((with_reducible refine gate_dst (N := 5) rfl ?_); refine box_event ?hg (N := 5) ?hd (cs := #[.int .i64 0, .int .i64 0, .int .i64 0, .int .i64 0, .int .i64 0, .string (⟨#[]⟩ : ByteArray), .slice none 0 0]) (t := 70) ?hr ?_; (case hd => rfl); (case hg => rfl); (case hr => first | (go_simp; done) | (go_simp; rfl)); intro gb282 hg w7 hbox hb; have n0_ := Aside0.mk (blk_below (g := gb280) (o := .cells #[.slice (some ad281) l0_0.length c0_0, .int .i64 a0_1] 34 (0, 0)) (by (with_reducible repeat (first | refine blk_drewN ?_ _ | refine blk_drew ?_ | refine blk_alloc ?_ _)); exact BK280.out) hb); have n1_ := Aside0.mk (below_step (by repeat (first | (with_reducible first | exact HB.out | apply below_alloc | apply pw_below_drewN | apply below_drew1 | refine below_set ?_ GE280.out) | exact HB.out)) hb); have n2_ := Aside0.mk (hbox); have n3_ := Aside0.mk ((by rw [hg]; exact (below_size (by repeat (first | (with_reducible first | exact HB.out | apply below_alloc | apply pw_below_drewN | apply below_drew1 | refine below_set ?_ GE280.out) | exact HB.out))) : w.heap.size ≤ gb282)); have n4_ := Aside0.mk ((by rw [hg]; exact (below_size (by repeat (first | (with_reducible first | exact HB.out | apply below_alloc | apply pw_below_drewN | apply below_drew1 | refine below_set ?_ GE280.out) | exact HB.out))) : w.heap.size ≤ gb282)); have n5_ := Aside0.mk ((by rw [hg]; exact Nat.ne_of_lt (blk_lt (g := gb280) (o := .cells #[.slice (some ad281) l0_0.length c0_0, .int .i64 a0_1] 34 (0, 0)) (by (with_reducible repeat (first | refine blk_drewN ?_ _ | refine blk_drew ?_ | refine blk_alloc ?_ _)); exact BK280.out)) : gb280 ≠ gb282)); have n6_ := Aside0.mk ((by rw [hg]; exact Nat.ne_of_gt (blk_lt (g := gb280) (o := .cells #[.slice (some ad281) l0_0.length c0_0, .int .i64 a0_1] 34 (0, 0)) (by (with_reducible repeat (first | refine blk_drewN ?_ _ | refine blk_drew ?_ | refine blk_alloc ?_ _)); exact BK280.out)) : gb282 ≠ gb280)); clear BK280; clear HB; have BK280 := n0_; have HB := n1_; have BK282 := n2_; have GW282 := n3_; have GE282 := n4_; have NB280_282 := n5_; have NB282_280 := n6_; clear n0_ n1_ n2_ n3_ n4_ n5_ n6_; clear hb hbox hg; have hnb8 := NB282_280.out; have hnc8 := NB280_282.out; have hcz9_0 : w7.cell? ⟨gb282, 0, none⟩ = some (.int .i64 0) := (blk_cell BK282.out 0).trans rfl; have hcz9_1 : w7.cell? ⟨gb282, 1, none⟩ = some (.int .i64 0) := (blk_cell BK282.out 1).trans rfl; have hcz9_2 : w7.cell? ⟨gb282, 2, none⟩ = some (.int .i64 0) := (blk_cell BK282.out 2).trans rfl; have hcz9_3 : w7.cell? ⟨gb282, 3, none⟩ = some (.int .i64 0) := (blk_cell BK282.out 3).trans rfl; have hcz9_4 : w7.cell? ⟨gb282, 4, none⟩ = some (.int .i64 0) := (blk_cell BK282.out 4).trans rfl; have hcz9_5 : w7.cell? ⟨gb282, 5, none⟩ = some (.string (⟨#[]⟩ : ByteArray)) := (blk_cell BK282.out 5).trans rfl; have hcz9_6 : w7.cell? ⟨gb282, 6, none⟩ = some (.slice none 0 0) := (blk_cell BK282.out 6).trans rfl; have hfz9_0 := blk_frozen BK282.out 0; have hfz9_1 := blk_frozen BK282.out 1; have hfz9_2 := blk_frozen BK282.out 2; have hfz9_3 := blk_frozen BK282.out 3; have hfz9_4 := blk_frozen BK282.out 4; have hfz9_5 := blk_frozen BK282.out 5; have hfz9_6 := blk_frozen BK282.out 6))
    go_roundg k1
    case measure => have := HK1.out; omega
    case rel => exact ⟨(wrap64 (x3_1 + (((rd_T70 l0_0 x9_1).f5).size : Int))), (wrap64 (x9_1 + 1)), (by first | rfl | (simp; done) | (simp [*]; done)), (by first | rfl | (simp; done) | (simp [*]; done)), H', ⟨by have := HK1.out; omega⟩, ⟨by (with_reducible repeat (first | refine blk_drewN ?_ _ | refine blk_drew ?_ | refine blk_alloc ?_ _)); refine blk_far ?_ NB280_282.out _; (with_reducible repeat (first | refine blk_drewN ?_ _ | refine blk_drew ?_ | refine blk_alloc ?_ _)); refine blk_far ?_ NB280_282.out _; (with_reducible repeat (first | refine blk_drewN ?_ _ | refine blk_drew ?_ | refine blk_alloc ?_ _)); refine blk_far ?_ NB280_282.out _; (with_reducible repeat (first | refine blk_drewN ?_ _ | refine blk_drew ?_ | refine blk_alloc ?_ _)); refine blk_far ?_ NB280_282.out _; (with_reducible repeat (first | refine blk_drewN ?_ _ | refine blk_drew ?_ | refine blk_alloc ?_ _)); refine blk_far ?_ NB280_282.out _; (with_reducible repeat (first | refine blk_drewN ?_ _ | refine blk_drew ?_ | refine blk_alloc ?_ _)); refine blk_far ?_ NB280_282.out _; (with_reducible repeat (first | refine blk_drewN ?_ _ | refine blk_drew ?_ | refine blk_alloc ?_ _)); refine blk_far ?_ NB280_282.out _; (with_reducible repeat (first | refine blk_drewN ?_ _ | refine blk_drew ?_ | refine blk_alloc ?_ _)); exact BK280.out⟩, ⟨by repeat (first | (with_reducible first | exact HB.out | apply below_alloc | apply pw_below_drewN | apply below_drew1 | refine below_set ?_ GE280.out | refine below_set ?_ GE282.out) | exact HB.out)⟩⟩
   ·rw [if_neg c4] at H
    have c4b0 : decide (x9_1 < (l0_0.length : Int)) = false := decide_eq_false c4
    clear c4
    obtain rfl := Option.some.inj H
    go_wp2
    go_ret
    exact ⟨by first | rfl | (simp [errW_none, errW_some] <;> rfl) | (simp [*, errW_none, errW_some] <;> rfl), by repeat (first | (with_reducible first | exact HB.out | apply below_alloc | apply pw_below_drewN | apply below_drew1 | refine below_set ?_ GE280.out) | exact HB.out)⟩
end Go.Proofs.YthalkpflbbpniaaGreatDoor.Q

-- Printed by a program of this session (wip/tools/myprint.py) that runs the kit's print, hand-proved functions among the others.
namespace Go.Proofs.YthalkpflbbpniaaGreatDoor.Q
open Go.RowKit Go.Proofs.YthalkpflbbpniaaGreatDoorW.PrintWords Go.Proofs.YthalkpflbbpniaaGreatDoorW.PrintLast Go.Proofs.YthalkpflbbpniaaGreatDoorW.PrintMore
attribute [local go_sem] max2_int min2_int max_two min_two max_three min_three max_four min_four   -- for this text's walks alone
set_option linter.unusedVariables false
set_option linter.unusedSimpArgs false

/-! ### impl_Fs_links: function 89 -/
mutual
def impl_Fs_links.l0 : Nat → List Int → List (S70) → Int → Int → Option (List Int)
 | 0, _, _, _, _ => none
 | k + 1, x3, x13, x14, x15 => if x15 < x14 then (if 0 ≤ x15 then (if x15 < (x13.length : Int) then (impl_Fs_links.l1 k x3 x13 x14 x15 ((rd_T70 x13 x15).f6) (((rd_T70 x13 x15).f6).length : Int) 0) else (none)) else (none)) else (some x3)
def impl_Fs_links.l1 : Nat → List Int → List (S70) → Int → Int → List (S101) → Int → Int → Option (List Int)
 | 0, _, _, _, _, _, _, _ => none
 | k + 1, x3, x13, x14, x15, x20, x21, x22 => if x22 < x21 then (if 0 ≤ x22 then (if x22 < (x20.length : Int) then (if 0 ≤ ((rd_T101 x20 x22).f1) then (if ((rd_T101 x20 x22).f1) < (x3.length : Int) then (impl_Fs_links.l1 k (x3.set (((rd_T101 x20 x22).f1) : Int).toNat (wrap64 ((rd x3 ((rd_T101 x20 x22).f1)) + 1))) x13 x14 x15 x20 x21 (wrap64 (x22 + 1))) else (none)) else (none)) else (none)) else (none)) else (impl_Fs_links.l0 k x3 x13 x14 (wrap64 (x15 + 1)))
end
def impl_Fs_links.f (k : Nat) (l0_0 : List (S70)) (a0_1 : Int) : Option (List Int) := if 0 ≤ (l0_0.length : Int) then (if ((l0_0.length : Int) : Int).toNat ≤ 35184372088832 then (impl_Fs_links.l0 k (List.replicate ((l0_0.length : Int) : Int).toNat 0) l0_0 (l0_0.length : Int) 0) else (none)) else (none)
set_option maxHeartbeats 8000000 in
set_option maxRecDepth 100000 in
theorem impl_Fs_links.calls (k : Nat) (A0_0 : Option Addr) (c0_0 : Nat) (l0_0 : List (S70)) (a0_1 : Int) (r : List Int) (w : World) (hr0_0 : Kd.C k70 w A0_0 l0_0.length l0_0) (hc0_0 : l0_0.length ≤ c0_0) (h : impl_Fs_links.f k l0_0 a0_1 = some r) :
  Calls Tryz.prog 89 #[.agg #[.slice A0_0 l0_0.length c0_0, .int .i64 a0_1]] w fun e w' => ∃ v0_ : Value, e = .returned (v0_) ∧ Kd.R (Kd.int .i64) 3 w' w.heap.size (fun _ => True) v0_ r ∧ Below w.heap.size w w' := by
 have hu34 := Tryz.underlying34
 have hu70 := Tryz.underlying70
 have hu101 := Tryz.underlying101
 have HR0_0 := Aside0.mk hr0_0
 have HC0_0 := Aside0.mk hc0_0
 clear hr0_0 hc0_0
 have HB := Aside0.mk (Below.refl w.heap.size w)
 have H : (if 0 ≤ (l0_0.length : Int) then (if ((l0_0.length : Int) : Int).toNat ≤ 35184372088832 then (impl_Fs_links.l0 k (List.replicate ((l0_0.length : Int) : Int).toNat 0) l0_0 (l0_0.length : Int) 0) else (none)) else (none)) = some r := h
 clear h
 refine Or.elim (Classical.em (0 ≤ (l0_0.length : Int))) (fun c2 => ?_) (fun c2 => by rw [if_neg c2] at H; exact absurd H (by simp))
 rw [if_pos c2] at H
 have c2b0 := eq_true c2
 have c2b1 : decide (0 ≤ (l0_0.length : Int)) = true := decide_eq_true c2
 clear c2
 refine Or.elim (Classical.em (((l0_0.length : Int) : Int).toNat ≤ 35184372088832)) (fun c3 => ?_) (fun c3 => by rw [if_neg c3] at H; exact absurd H (by simp))
 rw [if_pos c3] at H
 have c3b0 := eq_true c3
 have c3b1 : decide (((l0_0.length : Int) : Int).toNat ≤ 35184372088832) = true := decide_eq_true c3
 clear c3
 obtain ⟨y294, hy294⟩ : ∃ y_ : List Int, y_ = (List.replicate ((l0_0.length : Int) : Int).toNat 0) := ⟨_, rfl⟩
 replace H : (impl_Fs_links.l0 k y294 l0_0 (l0_0.length : Int) 0) = some r := by first | (rw [hy294]; with_reducible exact H) | (have H2_ := (Option.bind_some _ _).symm.trans H; rw [hy294]; with_reducible exact H2_) | (have H2_ := (Option.bind_some _ _).symm.trans H; with_reducible exact H2_) | with_reducible exact H | (rw [hy294]; exact H) | exact H
 have Ny294 := Aside0.mk hy294
 clear hy294
 have H' := Aside0.mk H
 clear H
 go_enter Tryz.func89, Tryz.ntmps89
 go_wp2_with (first | ((with_reducible refine gate_dst (N := 1) rfl ?_); refine box_event ?hg (N := 1) ?hd (cs := #[.slice A0_0 l0_0.length c0_0, .int .i64 a0_1]) (t := 34) ?hr ?_; (case hd => rfl); (case hg => rfl); (case hr => first | (go_simp; done) | (go_simp; rfl)); intro gb293 hg w4 hbox hb; have n0_ := Aside0.mk (below_step (by repeat (first | (with_reducible first | exact HB.out | apply below_alloc | apply pw_below_drewN | apply below_drew1) | exact HB.out)) hb); have n1_ := Aside0.mk (hbox); have n2_ := Aside0.mk ((by rw [hg]; exact (below_size (by repeat (first | (with_reducible first | exact HB.out | apply below_alloc | apply pw_below_drewN | apply below_drew1) | exact HB.out))) : w.heap.size ≤ gb293)); have n3_ := Aside0.mk ((by rw [hg]; exact (below_size (by repeat (first | (with_reducible first | exact HB.out | apply below_alloc | apply pw_below_drewN | apply below_drew1) | exact HB.out))) : w.heap.size ≤ gb293)); clear HB; have HB := n0_; have BK293 := n1_; have GW293 := n2_; have GE293 := n3_; clear n0_ n1_ n2_ n3_; clear hb hbox hg; have hcz5_0 : w4.cell? ⟨gb293, 0, none⟩ = some (.slice A0_0 l0_0.length c0_0) := (blk_cell BK293.out 0).trans rfl; have hcz5_1 : w4.cell? ⟨gb293, 1, none⟩ = some (.int .i64 a0_1) := (blk_cell BK293.out 1).trans rfl; have hfz5_0 := blk_frozen BK293.out 0; have hfz5_1 := blk_frozen BK293.out 1) | ((with_reducible refine gate_dst (N := 11) rfl ?_); refine Kd.R_make (Kd.int .i64) _ 3 rfl (N := 11) rfl 28 _ _ rfl (l0_0.length : Int) rfl rfl Tryz.underlying28 (.int .i64 0) 8 info3 rfl (by decide) (by omega) 0 (ok := fun _ => True) (okp := fun _ => True) rfl (fun _ hk => hk) trivial (of_decide_eq_true (by first | (with_reducible assumption) | assumption)) (Nat.le_trans (Nat.mul_le_mul_right _ (of_decide_eq_true (by first | (with_reducible assumption) | assumption) : (l0_0.length : Int).toNat ≤ 35184372088832)) (by omega)) (Below.refl _ _) (Nat.le_refl _) ?_; intro v295 w6 ho7 hb hg_ hnew_; clear hg_ hnew_; (first | rw [← Ny294.out] at ho7 | (simp only [Int.reduceToNat] at ho7; rw [← Ny294.out] at ho7)); have n0_ := Aside0.mk (Kd.R_lower ho7 (below_size (by repeat (first | (with_reducible first | exact HB.out | apply below_alloc | apply pw_below_drewN | apply below_drew1 | refine below_set ?_ GE293.out) | exact HB.out)))); have n1_ := Aside0.mk (blk_below (g := gb293) (o := .cells #[.slice A0_0 l0_0.length c0_0, .int .i64 a0_1] 34 (0, 0)) (by (with_reducible repeat (first | refine blk_drewN ?_ _ | refine blk_drew ?_ | refine blk_alloc ?_ _)); exact BK293.out) hb); have n2_ := Aside0.mk (below_step (by repeat (first | (with_reducible first | exact HB.out | apply below_alloc | apply pw_below_drewN | apply below_drew1 | refine below_set ?_ GE293.out) | exact HB.out)) hb); clear BK293; clear HB; have HO296 := n0_; have BK293 := n1_; have HB := n2_; clear n0_ n1_ n2_; clear hb ho7; have hcz8_0 : w6.cell? ⟨gb293, 0, none⟩ = some (.slice A0_0 l0_0.length c0_0) := (blk_cell BK293.out 0).trans rfl; have hcz8_1 : w6.cell? ⟨gb293, 1, none⟩ = some (.int .i64 a0_1) := (blk_cell BK293.out 1).trans rfl; have hfz8_0 := blk_frozen BK293.out 0; have hfz8_1 := blk_frozen BK293.out 1))
 go_loopg [15] k (fun kq v15 w' => ∃ (x3_1 : List Int) (x15_1 : Int), v15 = .int .i64 x15_1 ∧ Aside0 (impl_Fs_links.l0 kq x3_1 l0_0 (l0_0.length : Int) x15_1 = some r) ∧ Aside0 (kq ≤ k) ∧ Aside0 (Kd.R (Kd.int .i64) 3 w' w.heap.size (fun _ => True) v295 x3_1) ∧ Aside0 (w'.heap[gb293]? = some (.cells #[(.slice A0_0 l0_0.length c0_0), .int .i64 a0_1] 34 (0, 0))) ∧ Aside0 (Below w.heap.size w w'))
 case atStart => exact ⟨(y294), (0), (by first | rfl | (simp; done) | (simp [*]; done)), H', ⟨Nat.le_refl _⟩, ⟨by (with_reducible repeat (first | apply Kd.R_alloc | apply Kd.R_drewN | apply Kd.R_drew)); exact HO296.out⟩, ⟨by (with_reducible repeat (first | refine blk_drewN ?_ _ | refine blk_drew ?_ | refine blk_alloc ?_ _)); exact BK293.out⟩, ⟨by repeat (first | (with_reducible first | exact HB.out | apply below_alloc | apply pw_below_drewN | apply below_drew1 | refine below_set ?_ GE293.out) | exact HB.out)⟩⟩
 case round =>
  clear H'
  (try clear c2);(try clear c2b0);(try clear c2b1);(try clear p2);(try clear c3);(try clear c3b0);(try clear c3b1);(try clear c8);(try clear hcz5_0);(try clear hcz5_1);(try clear hcz8_0);(try clear hcz8_1);(try clear hfz5_0);(try clear hfz5_1);(try clear hfz8_0);(try clear hfz8_1)
  obtain ⟨x3_1, x15_1, rfl, HA, HK1, HO_3, BK293, HB⟩ := hrel
  cases gk with
  | zero => exact absurd HA.out (by simp [impl_Fs_links.l0])
  | succ k1 =>
   have H := HA.out
   clear HA
   simp only [impl_Fs_links.l0] at H
   by_cases c9 : x15_1 < (l0_0.length : Int)
   ·rw [if_pos c9] at H
    have c9b0 : decide (x15_1 < (l0_0.length : Int)) = true := decide_eq_true c9
    clear c9
    refine Or.elim (Classical.em (0 ≤ x15_1)) (fun c10 => ?_) (fun c10 => by rw [if_neg c10] at H; exact absurd H (by simp))
    rw [if_pos c10] at H
    have c10b0 : decide (0 ≤ x15_1) = true := decide_eq_true c10
    clear c10
    refine Or.elim (Classical.em (x15_1 < (l0_0.length : Int))) (fun c11 => ?_) (fun c11 => by rw [if_neg c11] at H; exact absurd H (by simp))
    rw [if_pos c11] at H
    have c11b0 : decide (x15_1 < (l0_0.length : Int)) = true := decide_eq_true c11
    clear c11
    have H' := Aside0.mk H
    clear H
    have p297 : 0 ≤ (x15_1 : Int) := of_decide_eq_true (by first | (with_reducible assumption) | assumption)
    have q297 : x15_1 < (l0_0.length : Int) := of_decide_eq_true (by first | (with_reducible assumption) | assumption)
    obtain ⟨ad297, A297_6, c297_6, e297, hx297_0, hx297_1, hx297_2, hx297_3, hx297_4, hx297_5, hx297_6, hl297_6, hi297_6⟩ := at_T70 HR0_0.out x15_1 p297 q297
    cases e297
    replace hx297_0 := (HB.out.cell (World.block_lt_of_cell? w _ hx297_0)).trans hx297_0
    replace hx297_1 := (HB.out.cell (World.block_lt_of_cell? w _ hx297_1)).trans hx297_1
    replace hx297_2 := (HB.out.cell (World.block_lt_of_cell? w _ hx297_2)).trans hx297_2
    replace hx297_3 := (HB.out.cell (World.block_lt_of_cell? w _ hx297_3)).trans hx297_3
    replace hx297_4 := (HB.out.cell (World.block_lt_of_cell? w _ hx297_4)).trans hx297_4
    replace hx297_5 := (HB.out.cell (World.block_lt_of_cell? w _ hx297_5)).trans hx297_5
    replace hx297_6 := (HB.out.cell (World.block_lt_of_cell? w _ hx297_6)).trans hx297_6
    have HR297_6 := Aside0.mk hi297_6
    have HC297_6 := Aside0.mk hl297_6
    clear hi297_6 hl297_6
    replace p297 := eq_true p297
    replace q297 := eq_true q297
    go_wp2_with (first | ((with_reducible refine gate_dst (N := 5) rfl ?_); refine box_event ?hg (N := 5) ?hd (cs := #[.int .i64 0, .int .i64 0, .int .i64 0, .int .i64 0, .int .i64 0, .string (⟨#[]⟩ : ByteArray), .slice none 0 0]) (t := 70) ?hr ?_; (case hd => rfl); (case hg => rfl); (case hr => first | (go_simp; done) | (go_simp; rfl)); intro gb298 hg w12 hbox hb; have n0_ := Aside0.mk (Kd.R_below (by (with_reducible repeat (first | apply Kd.R_alloc | apply Kd.R_drewN | apply Kd.R_drew)); exact HO_3.out) hb); have n1_ := Aside0.mk (blk_below (g := gb293) (o := .cells #[.slice (some ad297) l0_0.length c0_0, .int .i64 a0_1] 34 (0, 0)) (by (with_reducible repeat (first | refine blk_drewN ?_ _ | refine blk_drew ?_ | refine blk_alloc ?_ _)); exact BK293.out) hb); have n2_ := Aside0.mk (below_step (by repeat (first | (with_reducible first | exact HB.out | apply below_alloc | apply pw_below_drewN | apply below_drew1 | refine below_set ?_ GE293.out) | exact HB.out)) hb); have n3_ := Aside0.mk (hbox); have n4_ := Aside0.mk ((by rw [hg]; exact (below_size (by repeat (first | (with_reducible first | exact HB.out | apply below_alloc | apply pw_below_drewN | apply below_drew1 | refine below_set ?_ GE293.out) | exact HB.out))) : w.heap.size ≤ gb298)); have n5_ := Aside0.mk ((by rw [hg]; exact (below_size (by repeat (first | (with_reducible first | exact HB.out | apply below_alloc | apply pw_below_drewN | apply below_drew1 | refine below_set ?_ GE293.out) | exact HB.out))) : w.heap.size ≤ gb298)); have n6_ := Aside0.mk ((by rw [hg]; exact Nat.ne_of_lt (blk_lt (g := gb293) (o := .cells #[.slice (some ad297) l0_0.length c0_0, .int .i64 a0_1] 34 (0, 0)) (by (with_reducible repeat (first | refine blk_drewN ?_ _ | refine blk_drew ?_ | refine blk_alloc ?_ _)); exact BK293.out)) : gb293 ≠ gb298)); have n7_ := Aside0.mk ((by rw [hg]; exact Nat.ne_of_gt (blk_lt (g := gb293) (o := .cells #[.slice (some ad297) l0_0.length c0_0, .int .i64 a0_1] 34 (0, 0)) (by (with_reducible repeat (first | refine blk_drewN ?_ _ | refine blk_drew ?_ | refine blk_alloc ?_ _)); exact BK293.out)) : gb298 ≠ gb293)); clear HO_3; clear BK293; clear HB; have HO_3 := n0_; have BK293 := n1_; have HB := n2_; have BK298 := n3_; have GW298 := n4_; have GE298 := n5_; have NB293_298 := n6_; have NB298_293 := n7_; clear n0_ n1_ n2_ n3_ n4_ n5_ n6_ n7_; clear hb hbox hg; have hnb13 := NB298_293.out; have hnc13 := NB293_298.out; have hcz14_0 : w12.cell? ⟨gb298, 0, none⟩ = some (.int .i64 0) := (blk_cell BK298.out 0).trans rfl; have hcz14_1 : w12.cell? ⟨gb298, 1, none⟩ = some (.int .i64 0) := (blk_cell BK298.out 1).trans rfl; have hcz14_2 : w12.cell? ⟨gb298, 2, none⟩ = some (.int .i64 0) := (blk_cell BK298.out 2).trans rfl; have hcz14_3 : w12.cell? ⟨gb298, 3, none⟩ = some (.int .i64 0) := (blk_cell BK298.out 3).trans rfl; have hcz14_4 : w12.cell? ⟨gb298, 4, none⟩ = some (.int .i64 0) := (blk_cell BK298.out 4).trans rfl; have hcz14_5 : w12.cell? ⟨gb298, 5, none⟩ = some (.string (⟨#[]⟩ : ByteArray)) := (blk_cell BK298.out 5).trans rfl; have hcz14_6 : w12.cell? ⟨gb298, 6, none⟩ = some (.slice none 0 0) := (blk_cell BK298.out 6).trans rfl; have hfz14_0 := blk_frozen BK298.out 0; have hfz14_1 := blk_frozen BK298.out 1; have hfz14_2 := blk_frozen BK298.out 2; have hfz14_3 := blk_frozen BK298.out 3; have hfz14_4 := blk_frozen BK298.out 4; have hfz14_5 := blk_frozen BK298.out 5; have hfz14_6 := blk_frozen BK298.out 6))
    go_loopg [22] k1 (fun kq v22 w' => ∃ (x3_2 : List Int) (x22_2 : Int), v22 = .int .i64 x22_2 ∧ Aside0 (impl_Fs_links.l1 kq x3_2 l0_0 (l0_0.length : Int) x15_1 ((rd_T70 l0_0 x15_1).f6) (((rd_T70 l0_0 x15_1).f6).length : Int) x22_2 = some r) ∧ Aside0 (kq ≤ k1) ∧ Aside0 (Kd.R (Kd.int .i64) 3 w' w.heap.size (fun _ => True) v295 x3_2) ∧ Aside0 (w'.heap[gb293]? = some (.cells #[(.slice (some ad297) l0_0.length c0_0), .int .i64 a0_1] 34 (0, 0))) ∧ Aside0 (w'.heap[gb298]? = some (.cells #[.int .i64 ((rd_T70 l0_0 x15_1).f0), .int .i64 ((rd_T70 l0_0 x15_1).f1), .int .i64 ((rd_T70 l0_0 x15_1).f2), .int .i64 ((rd_T70 l0_0 x15_1).f3), .int .i64 ((rd_T70 l0_0 x15_1).f4), .string ((rd_T70 l0_0 x15_1).f5), (.slice A297_6 ((rd_T70 l0_0 x15_1).f6).length c297_6)] 70 (0, 0))) ∧ Aside0 (Below w.heap.size w w'))
    case atStart => exact ⟨(x3_1), (0), (by first | rfl | (simp; done) | (simp [*]; done)), H', ⟨Nat.le_refl _⟩, ⟨by (with_reducible repeat (first | apply Kd.R_alloc | apply Kd.R_drewN | apply Kd.R_drew)); exact Kd.R_mono (Kd.R_far (p := ⟨gb298, 6, none⟩) (Kd.R_far (p := ⟨gb298, 5, none⟩) (Kd.R_far (p := ⟨gb298, 4, none⟩) (Kd.R_far (p := ⟨gb298, 3, none⟩) (Kd.R_far (p := ⟨gb298, 2, none⟩) (Kd.R_far (p := ⟨gb298, 1, none⟩) (Kd.R_far (p := ⟨gb298, 0, none⟩) (Kd.R_types HO_3.out BK298.out (by decide)) (fun _ hk => hk.2) (.int .i64 ((rd_T70 l0_0 x15_1).f0))) (fun _ hk => hk.2) (.int .i64 ((rd_T70 l0_0 x15_1).f1))) (fun _ hk => hk.2) (.int .i64 ((rd_T70 l0_0 x15_1).f2))) (fun _ hk => hk.2) (.int .i64 ((rd_T70 l0_0 x15_1).f3))) (fun _ hk => hk.2) (.int .i64 ((rd_T70 l0_0 x15_1).f4))) (fun _ hk => hk.2) (.string ((rd_T70 l0_0 x15_1).f5))) (fun _ hk => hk.2) (.slice A297_6 ((rd_T70 l0_0 x15_1).f6).length c297_6)) (fun _ hk => trivial)⟩, ⟨by (with_reducible repeat (first | refine blk_drewN ?_ _ | refine blk_drew ?_ | refine blk_alloc ?_ _)); refine blk_far ?_ NB293_298.out _; (with_reducible repeat (first | refine blk_drewN ?_ _ | refine blk_drew ?_ | refine blk_alloc ?_ _)); refine blk_far ?_ NB293_298.out _; (with_reducible repeat (first | refine blk_drewN ?_ _ | refine blk_drew ?_ | refine blk_alloc ?_ _)); refine blk_far ?_ NB293_298.out _; (with_reducible repeat (first | refine blk_drewN ?_ _ | refine blk_drew ?_ | refine blk_alloc ?_ _)); refine blk_far ?_ NB293_298.out _; (with_reducible repeat (first | refine blk_drewN ?_ _ | refine blk_drew ?_ | refine blk_alloc ?_ _)); refine blk_far ?_ NB293_298.out _; (with_reducible repeat (first | refine blk_drewN ?_ _ | refine blk_drew ?_ | refine blk_alloc ?_ _)); refine blk_far ?_ NB293_298.out _; (with_reducible repeat (first | refine blk_drewN ?_ _ | refine blk_drew ?_ | refine blk_alloc ?_ _)); refine blk_far ?_ NB293_298.out _; (with_reducible repeat (first | refine blk_drewN ?_ _ | refine blk_drew ?_ | refine blk_alloc ?_ _)); exact BK293.out⟩, ⟨by (with_reducible repeat (first | refine blk_drewN ?_ _ | refine blk_drew ?_ | refine blk_alloc ?_ _)); refine blk_put (cs := #[.int .i64 ((rd_T70 l0_0 x15_1).f0), .int .i64 ((rd_T70 l0_0 x15_1).f1), .int .i64 ((rd_T70 l0_0 x15_1).f2), .int .i64 ((rd_T70 l0_0 x15_1).f3), .int .i64 ((rd_T70 l0_0 x15_1).f4), .string ((rd_T70 l0_0 x15_1).f5), .slice none 0 0]) ?_ 6 _ rfl; (with_reducible repeat (first | refine blk_drewN ?_ _ | refine blk_drew ?_ | refine blk_alloc ?_ _)); refine blk_put (cs := #[.int .i64 ((rd_T70 l0_0 x15_1).f0), .int .i64 ((rd_T70 l0_0 x15_1).f1), .int .i64 ((rd_T70 l0_0 x15_1).f2), .int .i64 ((rd_T70 l0_0 x15_1).f3), .int .i64 ((rd_T70 l0_0 x15_1).f4), .string (⟨#[]⟩ : ByteArray), .slice none 0 0]) ?_ 5 _ rfl; (with_reducible repeat (first | refine blk_drewN ?_ _ | refine blk_drew ?_ | refine blk_alloc ?_ _)); refine blk_put (cs := #[.int .i64 ((rd_T70 l0_0 x15_1).f0), .int .i64 ((rd_T70 l0_0 x15_1).f1), .int .i64 ((rd_T70 l0_0 x15_1).f2), .int .i64 ((rd_T70 l0_0 x15_1).f3), .int .i64 0, .string (⟨#[]⟩ : ByteArray), .slice none 0 0]) ?_ 4 _ rfl; (with_reducible repeat (first | refine blk_drewN ?_ _ | refine blk_drew ?_ | refine blk_alloc ?_ _)); refine blk_put (cs := #[.int .i64 ((rd_T70 l0_0 x15_1).f0), .int .i64 ((rd_T70 l0_0 x15_1).f1), .int .i64 ((rd_T70 l0_0 x15_1).f2), .int .i64 0, .int .i64 0, .string (⟨#[]⟩ : ByteArray), .slice none 0 0]) ?_ 3 _ rfl; (with_reducible repeat (first | refine blk_drewN ?_ _ | refine blk_drew ?_ | refine blk_alloc ?_ _)); refine blk_put (cs := #[.int .i64 ((rd_T70 l0_0 x15_1).f0), .int .i64 ((rd_T70 l0_0 x15_1).f1), .int .i64 0, .int .i64 0, .int .i64 0, .string (⟨#[]⟩ : ByteArray), .slice none 0 0]) ?_ 2 _ rfl; (with_reducible repeat (first | refine blk_drewN ?_ _ | refine blk_drew ?_ | refine blk_alloc ?_ _)); refine blk_put (cs := #[.int .i64 ((rd_T70 l0_0 x15_1).f0), .int .i64 0, .int .i64 0, .int .i64 0, .int .i64 0, .string (⟨#[]⟩ : ByteArray), .slice none 0 0]) ?_ 1 _ rfl; (with_reducible repeat (first | refine blk_drewN ?_ _ | refine blk_drew ?_ | refine blk_alloc ?_ _)); refine blk_put (cs := #[.int .i64 0, .int .i64 0, .int .i64 0, .int .i64 0, .int .i64 0, .string (⟨#[]⟩ : ByteArray), .slice none 0 0]) ?_ 0 _ rfl; (with_reducible repeat (first | refine blk_drewN ?_ _ | refine blk_drew ?_ | refine blk_alloc ?_ _)); exact BK298.out⟩, ⟨by repeat (first | (with_reducible first | exact HB.out | apply below_alloc | apply pw_below_drewN | apply below_drew1 | refine below_set ?_ GE293.out | refine below_set ?_ GE298.out) | exact HB.out)⟩⟩
    case round =>
     clear H'
     (try clear c1);(try clear c2);(try clear c2b0);(try clear c2b1);(try clear p2);(try clear q2);(try clear hx2);(try clear c3);(try clear c3b0);(try clear c3b1);(try clear c8);(try clear c9);(try clear c9b0);(try clear c10);(try clear c10b0);(try clear c11);(try clear c11b0);(try clear c13);(try clear hcz14_0);(try clear hcz14_1);(try clear hcz14_2);(try clear hcz14_3);(try clear hcz14_4);(try clear hcz14_5);(try clear hcz14_6);(try clear hcz5_0);(try clear hcz5_1);(try clear hcz8_0);(try clear hcz8_1);(try clear hfz14_0);(try clear hfz14_1);(try clear hfz14_2);(try clear hfz14_3);(try clear hfz14_4);(try clear hfz14_5);(try clear hfz14_6);(try clear hfz5_0);(try clear hfz5_1);(try clear hfz8_0);(try clear hfz8_1);(try clear hx297_0);(try clear hx297_1);(try clear hx297_2);(try clear hx297_3);(try clear hx297_4);(try clear hx297_5);(try clear hx297_6);(try clear p2);(try clear p297);(try clear q297)
     obtain ⟨x3_2, x22_2, rfl, HA, HK2, HO_3, BK293, BK298, HB⟩ := hrel
     cases gk with
     | zero => exact absurd HA.out (by simp [impl_Fs_links.l1])
     | succ k2 =>
      have H := HA.out
      clear HA
      simp only [impl_Fs_links.l1] at H
      by_cases c15 : x22_2 < (((rd_T70 l0_0 x15_1).f6).length : Int)
      ·rw [if_pos c15] at H
       have c15b0 : decide (x22_2 < (((rd_T70 l0_0 x15_1).f6).length : Int)) = true := decide_eq_true c15
       clear c15
       refine Or.elim (Classical.em (0 ≤ x22_2)) (fun c16 => ?_) (fun c16 => by rw [if_neg c16] at H; exact absurd H (by simp))
       rw [if_pos c16] at H
       have c16b0 : decide (0 ≤ x22_2) = true := decide_eq_true c16
       clear c16
       refine Or.elim (Classical.em (x22_2 < (((rd_T70 l0_0 x15_1).f6).length : Int))) (fun c17 => ?_) (fun c17 => by rw [if_neg c17] at H; exact absurd H (by simp))
       rw [if_pos c17] at H
       have c17b0 : decide (x22_2 < (((rd_T70 l0_0 x15_1).f6).length : Int)) = true := decide_eq_true c17
       clear c17
       refine Or.elim (Classical.em (0 ≤ ((rd_T101 ((rd_T70 l0_0 x15_1).f6) x22_2).f1))) (fun c18 => ?_) (fun c18 => by rw [if_neg c18] at H; exact absurd H (by simp))
       rw [if_pos c18] at H
       have c18b0 : decide (0 ≤ ((rd_T101 ((rd_T70 l0_0 x15_1).f6) x22_2).f1)) = true := decide_eq_true c18
       clear c18
       refine Or.elim (Classical.em (((rd_T101 ((rd_T70 l0_0 x15_1).f6) x22_2).f1) < (x3_2.length : Int))) (fun c19 => ?_) (fun c19 => by rw [if_neg c19] at H; exact absurd H (by simp))
       rw [if_pos c19] at H
       have c19b0 : decide (((rd_T101 ((rd_T70 l0_0 x15_1).f6) x22_2).f1) < (x3_2.length : Int)) = true := decide_eq_true c19
       clear c19
       obtain ⟨y302, hy302⟩ : ∃ y_ : List Int, y_ = (x3_2.set (((rd_T101 ((rd_T70 l0_0 x15_1).f6) x22_2).f1) : Int).toNat (wrap64 ((rd x3_2 ((rd_T101 ((rd_T70 l0_0 x15_1).f6) x22_2).f1)) + 1))) := ⟨_, rfl⟩
       replace H : (impl_Fs_links.l1 k2 y302 l0_0 (l0_0.length : Int) x15_1 ((rd_T70 l0_0 x15_1).f6) (((rd_T70 l0_0 x15_1).f6).length : Int) (wrap64 (x22_2 + 1))) = some r := by first | (rw [hy302]; with_reducible exact H) | (have H2_ := (Option.bind_some _ _).symm.trans H; rw [hy302]; with_reducible exact H2_) | (have H2_ := (Option.bind_some _ _).symm.trans H; with_reducible exact H2_) | with_reducible exact H | (rw [hy302]; exact H) | exact H
       have Ny302 := Aside0.mk hy302
       clear hy302
       have H' := Aside0.mk H
       clear H
       have p299 : 0 ≤ (x22_2 : Int) := of_decide_eq_true (by first | (with_reducible assumption) | assumption)
       have q299 : x22_2 < (((rd_T70 l0_0 x15_1).f6).length : Int) := of_decide_eq_true (by first | (with_reducible assumption) | assumption)
       obtain ⟨ad299, e299, hx299_0, hx299_1⟩ := at_T101 HR297_6.out x22_2 p299 q299
       cases e299
       replace hx299_0 := (HB.out.cell (World.block_lt_of_cell? w _ hx299_0)).trans hx299_0
       replace hx299_1 := (HB.out.cell (World.block_lt_of_cell? w _ hx299_1)).trans hx299_1
       replace p299 := eq_true p299
       replace q299 := eq_true q299
       go_wp2_with (first | ((with_reducible refine gate_dst (N := 7) rfl ?_); refine box_event ?hg (N := 7) ?hd (cs := #[.string (⟨#[]⟩ : ByteArray), .int .i64 0]) (t := 101) ?hr ?_; (case hd => rfl); (case hg => rfl); (case hr => first | (go_simp; done) | (go_simp; rfl)); intro gb300 hg w21 hbox hb; have n0_ := Aside0.mk (Kd.R_below (by (with_reducible repeat (first | apply Kd.R_alloc | apply Kd.R_drewN | apply Kd.R_drew)); exact HO_3.out) hb); have n1_ := Aside0.mk (blk_below (g := gb293) (o := .cells #[.slice (some ad297) l0_0.length c0_0, .int .i64 a0_1] 34 (0, 0)) (by (with_reducible repeat (first | refine blk_drewN ?_ _ | refine blk_drew ?_ | refine blk_alloc ?_ _)); exact BK293.out) hb); have n2_ := Aside0.mk (blk_below (g := gb298) (o := .cells #[.int .i64 ((rd_T70 l0_0 x15_1).f0), .int .i64 ((rd_T70 l0_0 x15_1).f1), .int .i64 ((rd_T70 l0_0 x15_1).f2), .int .i64 ((rd_T70 l0_0 x15_1).f3), .int .i64 ((rd_T70 l0_0 x15_1).f4), .string ((rd_T70 l0_0 x15_1).f5), .slice (some ad299) ((rd_T70 l0_0 x15_1).f6).length c297_6] 70 (0, 0)) (by (with_reducible repeat (first | refine blk_drewN ?_ _ | refine blk_drew ?_ | refine blk_alloc ?_ _)); exact BK298.out) hb); have n3_ := Aside0.mk (below_step (by repeat (first | (with_reducible first | exact HB.out | apply below_alloc | apply pw_below_drewN | apply below_drew1 | refine below_set ?_ GE293.out | refine below_set ?_ GE298.out) | exact HB.out)) hb); have n4_ := Aside0.mk (hbox); have n5_ := Aside0.mk ((by rw [hg]; exact (below_size (by repeat (first | (with_reducible first | exact HB.out | apply below_alloc | apply pw_below_drewN | apply below_drew1 | refine below_set ?_ GE293.out | refine below_set ?_ GE298.out) | exact HB.out))) : w.heap.size ≤ gb300)); have n6_ := Aside0.mk ((by rw [hg]; exact (below_size (by repeat (first | (with_reducible first | exact HB.out | apply below_alloc | apply pw_below_drewN | apply below_drew1 | refine below_set ?_ GE293.out | refine below_set ?_ GE298.out) | exact HB.out))) : w.heap.size ≤ gb300)); have n7_ := Aside0.mk ((by rw [hg]; exact Nat.ne_of_lt (blk_lt (g := gb293) (o := .cells #[.slice (some ad297) l0_0.length c0_0, .int .i64 a0_1] 34 (0, 0)) (by (with_reducible repeat (first | refine blk_drewN ?_ _ | refine blk_drew ?_ | refine blk_alloc ?_ _)); exact BK293.out)) : gb293 ≠ gb300)); have n8_ := Aside0.mk ((by rw [hg]; exact Nat.ne_of_gt (blk_lt (g := gb293) (o := .cells #[.slice (some ad297) l0_0.length c0_0, .int .i64 a0_1] 34 (0, 0)) (by (with_reducible repeat (first | refine blk_drewN ?_ _ | refine blk_drew ?_ | refine blk_alloc ?_ _)); exact BK293.out)) : gb300 ≠ gb293)); have n9_ := Aside0.mk ((by rw [hg]; exact Nat.ne_of_lt (blk_lt (g := gb298) (o := .cells #[.int .i64 ((rd_T70 l0_0 x15_1).f0), .int .i64 ((rd_T70 l0_0 x15_1).f1), .int .i64 ((rd_T70 l0_0 x15_1).f2), .int .i64 ((rd_T70 l0_0 x15_1).f3), .int .i64 ((rd_T70 l0_0 x15_1).f4), .string ((rd_T70 l0_0 x15_1).f5), .slice (some ad299) ((rd_T70 l0_0 x15_1).f6).length c297_6] 70 (0, 0)) (by (with_reducible repeat (first | refine blk_drewN ?_ _ | refine blk_drew ?_ | refine blk_alloc ?_ _)); exact BK298.out)) : gb298 ≠ gb300)); have n10_ := Aside0.mk ((by rw [hg]; exact Nat.ne_of_gt (blk_lt (g := gb298) (o := .cells #[.int .i64 ((rd_T70 l0_0 x15_1).f0), .int .i64 ((rd_T70 l0_0 x15_1).f1), .int .i64 ((rd_T70 l0_0 x15_1).f2), .int .i64 ((rd_T70 l0_0 x15_1).f3), .int .i64 ((rd_T70 l0_0 x15_1).f4), .string ((rd_T70 l0_0 x15_1).f5), .slice (some ad299) ((rd_T70 l0_0 x15_1).f6).length c297_6] 70 (0, 0)) (by (with_reducible repeat (first | refine blk_drewN ?_ _ | refine blk_drew ?_ | refine blk_alloc ?_ _)); exact BK298.out)) : gb300 ≠ gb298)); clear HO_3; clear BK293; clear BK298; clear HB; have HO_3 := n0_; have BK293 := n1_; have BK298 := n2_; have HB := n3_; have BK300 := n4_; have GW300 := n5_; have GE300 := n6_; have NB293_300 := n7_; have NB300_293 := n8_; have NB298_300 := n9_; have NB300_298 := n10_; clear n0_ n1_ n2_ n3_ n4_ n5_ n6_ n7_ n8_ n9_ n10_; clear hb hbox hg; have hnb22 := NB300_293.out; have hnc22 := NB293_300.out; have hnb23 := NB300_298.out; have hnc23 := NB298_300.out; have hcz24_0 : w21.cell? ⟨gb300, 0, none⟩ = some (.string (⟨#[]⟩ : ByteArray)) := (blk_cell BK300.out 0).trans rfl; have hcz24_1 : w21.cell? ⟨gb300, 1, none⟩ = some (.int .i64 0) := (blk_cell BK300.out 1).trans rfl; have hfz24_0 := blk_frozen BK300.out 0; have hfz24_1 := blk_frozen BK300.out 1) | ((with_reducible refine gate_store (t := 101) (p := 7) rfl ?_); refine store_event (t := 101) (p := 7) (v := ?vo_w25) (w1 := ((w21.setCell ⟨gb300, 0, none⟩ (.string ((rd_T101 ((rd_T70 l0_0 x15_1).f6) x22_2).f0))).setCell ⟨gb300, 1, none⟩ (.int .i64 ((rd_T101 ((rd_T70 l0_0 x15_1).f6) x22_2).f1)))) ?hg ?ho ?hn ?hr ?_; (case ho => rfl); (case hg => rfl); (case hn => rfl); (case hr => first | (go_simp; done) | (go_simp; rfl)); intro w25 hw; have n0_ : Aside0 (Kd.R (Kd.int .i64) 3 w25 w.heap.size (fun _ => True) v295 x3_2) := ⟨(by rw [hw]; exact (by (with_reducible repeat (first | apply Kd.R_alloc | apply Kd.R_drewN | apply Kd.R_drew)); exact Kd.R_mono (Kd.R_far (p := ⟨gb300, 1, none⟩) (Kd.R_far (p := ⟨gb300, 0, none⟩) (Kd.R_types HO_3.out BK300.out (by decide)) (fun _ hk => hk.2) (.string ((rd_T101 ((rd_T70 l0_0 x15_1).f6) x22_2).f0))) (fun _ hk => hk.2) (.int .i64 ((rd_T101 ((rd_T70 l0_0 x15_1).f6) x22_2).f1))) (fun _ hk => trivial)))⟩; have n1_ : Aside0 (w25.heap[gb293]? = some (.cells #[.slice (some ad297) l0_0.length c0_0, .int .i64 a0_1] 34 (0, 0))) := ⟨(by rw [hw]; exact (by (with_reducible repeat (first | refine blk_drewN ?_ _ | refine blk_drew ?_ | refine blk_alloc ?_ _)); refine blk_far ?_ NB293_300.out _; (with_reducible repeat (first | refine blk_drewN ?_ _ | refine blk_drew ?_ | refine blk_alloc ?_ _)); refine blk_far ?_ NB293_300.out _; (with_reducible repeat (first | refine blk_drewN ?_ _ | refine blk_drew ?_ | refine blk_alloc ?_ _)); exact BK293.out))⟩; have n2_ : Aside0 (w25.heap[gb298]? = some (.cells #[.int .i64 ((rd_T70 l0_0 x15_1).f0), .int .i64 ((rd_T70 l0_0 x15_1).f1), .int .i64 ((rd_T70 l0_0 x15_1).f2), .int .i64 ((rd_T70 l0_0 x15_1).f3), .int .i64 ((rd_T70 l0_0 x15_1).f4), .string ((rd_T70 l0_0 x15_1).f5), .slice (some ad299) ((rd_T70 l0_0 x15_1).f6).length c297_6] 70 (0, 0))) := ⟨(by rw [hw]; exact (by (with_reducible repeat (first | refine blk_drewN ?_ _ | refine blk_drew ?_ | refine blk_alloc ?_ _)); refine blk_far ?_ NB298_300.out _; (with_reducible repeat (first | refine blk_drewN ?_ _ | refine blk_drew ?_ | refine blk_alloc ?_ _)); refine blk_far ?_ NB298_300.out _; (with_reducible repeat (first | refine blk_drewN ?_ _ | refine blk_drew ?_ | refine blk_alloc ?_ _)); exact BK298.out))⟩; have n3_ : Aside0 (w25.heap[gb300]? = some (.cells #[.string ((rd_T101 ((rd_T70 l0_0 x15_1).f6) x22_2).f0), .int .i64 ((rd_T101 ((rd_T70 l0_0 x15_1).f6) x22_2).f1)] 101 (0, 0))) := ⟨(by rw [hw]; exact (by (with_reducible repeat (first | refine blk_drewN ?_ _ | refine blk_drew ?_ | refine blk_alloc ?_ _)); refine blk_put (cs := #[.string ((rd_T101 ((rd_T70 l0_0 x15_1).f6) x22_2).f0), .int .i64 0]) ?_ 1 _ rfl; (with_reducible repeat (first | refine blk_drewN ?_ _ | refine blk_drew ?_ | refine blk_alloc ?_ _)); refine blk_put (cs := #[.string (⟨#[]⟩ : ByteArray), .int .i64 0]) ?_ 0 _ rfl; (with_reducible repeat (first | refine blk_drewN ?_ _ | refine blk_drew ?_ | refine blk_alloc ?_ _)); exact BK300.out))⟩; have n4_ : Aside0 (Below w.heap.size w w25) := ⟨(by rw [hw]; exact (by repeat (first | (with_reducible first | exact HB.out | apply below_alloc | apply pw_below_drewN | apply below_drew1 | refine below_set ?_ GE293.out | refine below_set ?_ GE298.out | refine below_set ?_ GE300.out) | exact HB.out)))⟩; clear hw; clear HO_3; clear BK293; clear BK298; clear BK300; clear HB; have HO_3 := n0_; have BK293 := n1_; have BK298 := n2_; have BK300 := n3_; have HB := n4_; clear n0_ n1_ n2_ n3_ n4_; have hcz26_0 : w25.cell? ⟨gb300, 0, none⟩ = some (.string ((rd_T101 ((rd_T70 l0_0 x15_1).f6) x22_2).f0)) := (blk_cell BK300.out 0).trans rfl; have hcz26_1 : w25.cell? ⟨gb300, 1, none⟩ = some (.int .i64 ((rd_T101 ((rd_T70 l0_0 x15_1).f6) x22_2).f1)) := (blk_cell BK300.out 1).trans rfl; have hfz26_0 := blk_frozen BK300.out 0; have hfz26_1 := blk_frozen BK300.out 1; obtain ⟨Ao27, co27, eo27⟩ := Kd.R_slice HO_3.out; subst eo27; have p301 : 0 ≤ (((rd_T101 ((rd_T70 l0_0 x15_1).f6) x22_2).f1) : Int) := of_decide_eq_true (by first | (with_reducible assumption) | assumption); have q301 : ((rd_T101 ((rd_T70 l0_0 x15_1).f6) x22_2).f1) < (x3_2.length : Int) := of_decide_eq_true (by first | (with_reducible assumption) | assumption); obtain ⟨ad301, e301, hx301_0⟩ := Kd.at_int (Kd.R_reads' HO_3.out).2.2 ((rd_T101 ((rd_T70 l0_0 x15_1).f6) x22_2).f1) p301 q301; cases e301; replace p301 := eq_true p301; replace q301 := eq_true q301; have p20 : 0 ≤ (((rd_T101 ((rd_T70 l0_0 x15_1).f6) x22_2).f1) : Int) := of_decide_eq_true (by first | (with_reducible assumption) | assumption); have q20 : (((rd_T101 ((rd_T70 l0_0 x15_1).f6) x22_2).f1) : Int) < ((x3_2.length : Int) : Int) := of_decide_eq_true (by first | (with_reducible assumption) | assumption); obtain ⟨go20, co20, eo20, gb20, gl20, cl20, HG20⟩ := Kd.R_form HO_3.out (by omega); (first | cases eo20 | (injection eo20 with ea_ en_ ec_; (first | subst ea_ | (injection ea_ with ea_; subst ea_)); subst ec_; clear en_)); have GB20 := Aside0.mk gb20; have GG20 := Aside0.mk HG20; clear gb20 gl20 HG20; (first | simp only [add_plain] at hx301_0 | skip); obtain ⟨hx20_0, hf20_0⟩ := Kd.R_celln 0 HO_3.out (((rd_T101 ((rd_T70 l0_0 x15_1).f6) x22_2).f1) : Int) p20 q20; replace p20 := eq_true p20; replace q20 := eq_true q20; obtain ⟨hy28_, hz28_⟩ := Kd.R_celln 0 HO_3.out (((rd_T101 ((rd_T70 l0_0 x15_1).f6) x22_2).f1) : Int) (of_decide_eq_true (by first | (with_reducible assumption) | assumption)) (of_decide_eq_true (by first | (with_reducible assumption) | assumption)); have HP28 := Kd.R_putg HO_3.out (((rd_T101 ((rd_T70 l0_0 x15_1).f6) x22_2).f1) : Int) (wrap64 ((rd x3_2 ((rd_T101 ((rd_T70 l0_0 x15_1).f6) x22_2).f1)) + 1))) | ((with_reducible refine gate_store (t := 3) (p := 32) rfl ?_); refine store_event (t := 3) (p := 32) (v := ?vo_w29) (w1 := (w25.setCell ⟨go20, (((rd_T101 ((rd_T70 l0_0 x15_1).f6) x22_2).f1) : Int).toNat, none⟩ (.int .i64 (wrap64 ((rd x3_2 ((rd_T101 ((rd_T70 l0_0 x15_1).f6) x22_2).f1)) + 1))))) ?hg ?ho ?hn ?hr ?_; (case ho => rfl); (case hg => rfl); (case hn => rfl); (case hr => first | (go_simp; done) | (go_simp; rfl)); intro w29 hw; have hg : w25.grownBy w29 (some go20) := (by rw [hw]; exact HP28.2); have hp_ : Kd.R (Kd.int .i64) 3 w29 w.heap.size (fun _ => True) (.slice (some ⟨go20, 0, none⟩) x3_2.length co27) y302 := (by rw [hw, Ny302.out]; exact HP28.1); clear HP28; have n0_ := Aside0.mk (hp_); have n1_ := Aside0.mk (blk_grown (g := gb293) (o := .cells #[.slice (some ad297) l0_0.length c0_0, .int .i64 a0_1] 34 (0, 0)) (by (with_reducible repeat (first | refine blk_drewN ?_ _ | refine blk_drew ?_ | refine blk_alloc ?_ _)); exact BK293.out) hg (Kd.R_ne HO_3.out BK293.out (by decide))); have n2_ := Aside0.mk (blk_grown (g := gb298) (o := .cells #[.int .i64 ((rd_T70 l0_0 x15_1).f0), .int .i64 ((rd_T70 l0_0 x15_1).f1), .int .i64 ((rd_T70 l0_0 x15_1).f2), .int .i64 ((rd_T70 l0_0 x15_1).f3), .int .i64 ((rd_T70 l0_0 x15_1).f4), .string ((rd_T70 l0_0 x15_1).f5), .slice (some ad299) ((rd_T70 l0_0 x15_1).f6).length c297_6] 70 (0, 0)) (by (with_reducible repeat (first | refine blk_drewN ?_ _ | refine blk_drew ?_ | refine blk_alloc ?_ _)); exact BK298.out) hg (Kd.R_ne HO_3.out BK298.out (by decide))); have n3_ := Aside0.mk (blk_grown (g := gb300) (o := .cells #[.string ((rd_T101 ((rd_T70 l0_0 x15_1).f6) x22_2).f0), .int .i64 ((rd_T101 ((rd_T70 l0_0 x15_1).f6) x22_2).f1)] 101 (0, 0)) (by (with_reducible repeat (first | refine blk_drewN ?_ _ | refine blk_drew ?_ | refine blk_alloc ?_ _)); exact BK300.out) hg (Kd.R_ne HO_3.out BK300.out (by decide))); have n4_ := Aside0.mk ((by rw [hw]; exact below_set (HB.out) GB20.out : Below w.heap.size w w29)); clear HO_3; clear BK293; clear BK298; clear BK300; clear HB; have HO_3 := n0_; have BK293 := n1_; have BK298 := n2_; have BK300 := n3_; have HB := n4_; clear n0_ n1_ n2_ n3_ n4_; clear hg hw hp_))
       go_roundg k2
       case measure => have := HK1.out; have := HK2.out; omega
       case rel => exact ⟨(y302), (wrap64 (x22_2 + 1)), (by first | rfl | (simp; done) | (simp [*]; done)), H', ⟨by have := HK1.out; have := HK2.out; omega⟩, ⟨by (with_reducible repeat (first | apply Kd.R_alloc | apply Kd.R_drewN | apply Kd.R_drew)); exact HO_3.out⟩, ⟨by (with_reducible repeat (first | refine blk_drewN ?_ _ | refine blk_drew ?_ | refine blk_alloc ?_ _)); exact BK293.out⟩, ⟨by (with_reducible repeat (first | refine blk_drewN ?_ _ | refine blk_drew ?_ | refine blk_alloc ?_ _)); exact BK298.out⟩, ⟨by repeat (first | (with_reducible first | exact HB.out | apply below_alloc | apply pw_below_drewN | apply below_drew1 | refine below_set ?_ GE293.out | refine below_set ?_ GE298.out | refine below_set ?_ GE300.out) | exact HB.out)⟩⟩
      ·rw [if_neg c15] at H
       have c15b0 : decide (x22_2 < (((rd_T70 l0_0 x15_1).f6).length : Int)) = false := decide_eq_false c15
       clear c15
       have H' := Aside0.mk H
       clear H
       go_wp2
       go_roundg k2
       case measure => have := HK1.out; have := HK2.out; omega
       case rel => exact ⟨(x3_2), (wrap64 (x15_1 + 1)), (by first | rfl | (simp; done) | (simp [*]; done)), H', ⟨by have := HK1.out; have := HK2.out; omega⟩, ⟨by (with_reducible repeat (first | apply Kd.R_alloc | apply Kd.R_drewN | apply Kd.R_drew)); exact HO_3.out⟩, ⟨by (with_reducible repeat (first | refine blk_drewN ?_ _ | refine blk_drew ?_ | refine blk_alloc ?_ _)); exact BK293.out⟩, ⟨by repeat (first | (with_reducible first | exact HB.out | apply below_alloc | apply pw_below_drewN | apply below_drew1 | refine below_set ?_ GE293.out | refine below_set ?_ GE298.out) | exact HB.out)⟩⟩
   ·rw [if_neg c9] at H
    have c9b0 : decide (x15_1 < (l0_0.length : Int)) = false := decide_eq_false c9
    clear c9
    obtain rfl := Option.some.inj H
    go_wp2
    go_ret
    exact ⟨_, by first | rfl | (simp [errW_none, errW_some] <;> rfl) | (simp [*, errW_none, errW_some] <;> rfl), by (with_reducible repeat (first | apply Kd.R_alloc | apply Kd.R_drewN | apply Kd.R_drew)); exact HO_3.out, by repeat (first | (with_reducible first | exact HB.out | apply below_alloc | apply pw_below_drewN | apply below_drew1 | refine below_set ?_ GE293.out) | exact HB.out)⟩
end Go.Proofs.YthalkpflbbpniaaGreatDoor.Q

-- Printed by a program of this session (wip/tools/myprint.py) that runs the kit's print, hand-proved functions among the others.
namespace Go.Proofs.YthalkpflbbpniaaGreatDoor.Q
open Go.RowKit Go.Proofs.YthalkpflbbpniaaGreatDoorW.PrintWords Go.Proofs.YthalkpflbbpniaaGreatDoorW.PrintLast Go.Proofs.YthalkpflbbpniaaGreatDoorW.PrintMore
attribute [local go_sem] max2_int min2_int max_two min_two max_three min_three max_four min_four   -- for this text's walks alone
set_option linter.unusedVariables false
set_option linter.unusedSimpArgs false

/-! ### spec_l1Put: function 74 -/
def spec_l1Put.l0 : Nat → List Int → Int → Int → Option (List Int)
 | 0, _, _, _ => none
 | k + 1, x0, x1, x5 => if x5 < (x0.length : Int) then (if 0 ≤ x5 then (if (rd x0 x5) < x1 then (spec_l1Put.l0 k x0 x1 (wrap64 (x5 + 1))) else (if (rd x0 x5) = x1 then (some x0) else ((some (([] : List Int) : List Int)).bind fun y108 => (if x5 ≤ (x0.length : Int) then ((some (x0.take (x5 : Int).toNat : List Int)).bind fun y111 => (if y108.length + y111.length < 17592186044416 then ((some (y108 ++ y111 : List Int)).bind fun y115 => (if y115.length < 17592186044416 then ((some (y115 ++ [x1] : List Int)).bind fun y118 => ((some (x0.drop (x5 : Int).toNat : List Int)).bind fun y121 => (if y118.length + y121.length < 17592186044416 then (some (y118 ++ y121)) else (none)))) else (none))) else (none))) else (none))))) else (none)) else ((some (([] : List Int) : List Int)).bind fun y128 => (if 0 ≤ x5 then (if x5 ≤ (x0.length : Int) then ((some (x0.take (x5 : Int).toNat : List Int)).bind fun y131 => (if y128.length + y131.length < 17592186044416 then ((some (y128 ++ y131 : List Int)).bind fun y135 => (if y135.length < 17592186044416 then ((some (y135 ++ [x1] : List Int)).bind fun y138 => ((some (x0.drop (x5 : Int).toNat : List Int)).bind fun y141 => (if y138.length + y141.length < 17592186044416 then (some (y138 ++ y141)) else (none)))) else (none))) else (none))) else (none)) else (none)))
def spec_l1Put.f (k : Nat) (l0 : List Int) (a1 : Int) : Option (List Int) := spec_l1Put.l0 k l0 a1 0
set_option maxHeartbeats 8000000 in
set_option maxRecDepth 100000 in
theorem spec_l1Put.calls (k : Nat) (P0_ : Nat → Prop) (u9000_ : Value) (l0 : List Int) (a1 : Int) (r : List Int) (w0 w : World) (hB : Below w0.heap.size w0 w) (ho0 : Kd.R (Kd.int .i64) 3 w w0.heap.size P0_ u9000_ l0) (h : spec_l1Put.f k l0 a1 = some r) :
  Calls Tryz.prog 74 #[u9000_, .int .i64 a1] w fun e w' => ∃ v0_ : Value, e = .returned (v0_) ∧ Kd.R (Kd.int .i64) 3 w' w0.heap.size (fun k_ => (P0_ k_ ∨ w.heap.size ≤ k_)) v0_ r ∧ Below w0.heap.size w0 w' ∧ Kept w w' (fun k_ => P0_ k_) := by
 have HO0 := Aside0.mk (show Kd.R (Kd.int .i64) 3 w w0.heap.size (fun k_ => (P0_ k_ ∨ w.heap.size ≤ k_)) u9000_ l0 from Kd.R_mono ho0 (fun k_ hk => (.inl hk)))
 have HK := Aside0.mk (Kept.refl w (fun k_ => P0_ k_))
 have HW0 := Aside0.mk hB.size
 have HB := Aside0.mk hB
 clear hB
 have H : (spec_l1Put.l0 k l0 a1 0) = some r := h
 clear h
 have H' := Aside0.mk H
 clear H
 go_enter Tryz.func74, Tryz.ntmps74
 go_wp2
 go_loopg [5] k (fun kq v5 w' => ∃ (x5_1 : Int), v5 = .int .i64 x5_1 ∧ Aside0 (spec_l1Put.l0 kq l0 a1 x5_1 = some r) ∧ Aside0 (kq ≤ k) ∧ Aside0 (Kd.R (Kd.int .i64) 3 w' w0.heap.size (fun k_ => (P0_ k_ ∨ w.heap.size ≤ k_)) u9000_ l0) ∧ Aside0 (Kept w w' (fun k_ => P0_ k_)) ∧ Aside0 (Below w0.heap.size w0 w'))
 case atStart => exact ⟨(0), (by first | rfl | (simp; done) | (simp [*]; done)), H', ⟨Nat.le_refl _⟩, ⟨by (with_reducible repeat (first | apply Kd.R_alloc | apply Kd.R_drewN | apply Kd.R_drew)); exact HO0.out⟩, ⟨by repeat (first | (with_reducible first | exact HK.out | apply Kept.alloc | apply Kept.drewN | apply Kept.drew) | exact HK.out)⟩, ⟨(Gtr.bw HB.out)⟩⟩
 case round =>
  clear H'
  try clear p2
  obtain ⟨x5_1, rfl, HA, HK1, HO_0, HK, HB⟩ := hrel
  cases gk with
  | zero => exact absurd HA.out (by simp [spec_l1Put.l0])
  | succ k1 =>
   have H := HA.out
   clear HA
   simp only [spec_l1Put.l0] at H
   by_cases c3 : x5_1 < (l0.length : Int)
   ·rw [if_pos c3] at H
    have c3b0 : decide (x5_1 < (l0.length : Int)) = true := decide_eq_true c3
    clear c3
    refine Or.elim (Classical.em (0 ≤ x5_1)) (fun c4 => ?_) (fun c4 => by rw [if_neg c4] at H; exact absurd H (by simp))
    rw [if_pos c4] at H
    have c4b0 : decide (0 ≤ x5_1) = true := decide_eq_true c4
    clear c4
    by_cases c5 : (rd l0 x5_1) < a1
    ·rw [if_pos c5] at H
     have c5b0 : decide ((rd l0 x5_1) < a1) = true := decide_eq_true c5
     clear c5
     have H' := Aside0.mk H
     clear H
     obtain ⟨Ao6, co6, eo6⟩ := Kd.R_slice HO_0.out
     subst eo6
     have p106 : 0 ≤ (x5_1 : Int) := of_decide_eq_true (by first | (with_reducible assumption) | assumption)
     have q106 : x5_1 < (l0.length : Int) := of_decide_eq_true (by first | (with_reducible assumption) | assumption)
     obtain ⟨ad106, e106, hx106_0⟩ := Kd.at_int (Kd.R_reads' HO_0.out).2.2 x5_1 p106 q106
     cases e106
     replace p106 := eq_true p106
     replace q106 := eq_true q106
     go_wp2
     go_roundg k1
     case measure => have := HK1.out; omega
     case rel => exact ⟨(wrap64 (x5_1 + 1)), (by first | rfl | (simp; done) | (simp [*]; done)), H', ⟨by have := HK1.out; omega⟩, ⟨by (with_reducible repeat (first | apply Kd.R_alloc | apply Kd.R_drewN | apply Kd.R_drew)); exact HO_0.out⟩, ⟨by repeat (first | (with_reducible first | exact HK.out | apply Kept.alloc | apply Kept.drewN | apply Kept.drew) | exact HK.out)⟩, ⟨(Gtr.bw HB.out)⟩⟩
    ·rw [if_neg c5] at H
     have c5b0 : decide ((rd l0 x5_1) < a1) = false := decide_eq_false c5
     clear c5
     by_cases c7 : (rd l0 x5_1) = a1
     ·rw [if_pos c7] at H
      have c7b0 : ((rd l0 x5_1) == a1) = true := beq_iff_eq.mpr c7
      have c7b1 : ((rd l0 x5_1) != a1) = false := bne_eq_false_iff_eq.mpr c7
      clear c7
      obtain rfl := Option.some.inj H
      obtain ⟨Ao8, co8, eo8⟩ := Kd.R_slice HO_0.out
      subst eo8
      have p106 : 0 ≤ (x5_1 : Int) := of_decide_eq_true (by first | (with_reducible assumption) | assumption)
      have q106 : x5_1 < (l0.length : Int) := of_decide_eq_true (by first | (with_reducible assumption) | assumption)
      obtain ⟨ad106, e106, hx106_0⟩ := Kd.at_int (Kd.R_reads' HO_0.out).2.2 x5_1 p106 q106
      cases e106
      replace p106 := eq_true p106
      replace q106 := eq_true q106
      have p107 : 0 ≤ (x5_1 : Int) := of_decide_eq_true (by first | (with_reducible assumption) | assumption)
      have q107 : x5_1 < (l0.length : Int) := of_decide_eq_true (by first | (with_reducible assumption) | assumption)
      obtain ⟨ad107, e107, hx107_0⟩ := Kd.at_int (Kd.R_reads' HO_0.out).2.2 x5_1 p107 q107
      obtain rfl : ad106 = ad107 := (by injection e107)
      replace p107 := eq_true p107
      replace q107 := eq_true q107
      go_wp2
      go_ret
      exact ⟨_, by first | rfl | (simp [errW_none, errW_some] <;> rfl) | (simp [*, errW_none, errW_some] <;> rfl), by (with_reducible repeat (first | apply Kd.R_alloc | apply Kd.R_drewN | apply Kd.R_drew)); exact HO_0.out, (Gtr.bw HB.out), by repeat (first | (with_reducible first | exact HK.out | apply Kept.alloc | apply Kept.drewN | apply Kept.drew) | exact HK.out)⟩
     ·rw [if_neg c7] at H
      have c7b0 : ((rd l0 x5_1) == a1) = false := beq_eq_false_iff_ne.mpr c7
      have c7b1 : ((rd l0 x5_1) != a1) = true := bne_iff_ne.mpr c7
      obtain ⟨y108, hy108⟩ : ∃ y_ : List Int, y_ = (([] : List Int)) := ⟨_, rfl⟩
      replace H : (if x5_1 ≤ (l0.length : Int) then ((some (l0.take (x5_1 : Int).toNat : List Int)).bind fun y111 => (if y108.length + y111.length < 17592186044416 then ((some (y108 ++ y111 : List Int)).bind fun y115 => (if y115.length < 17592186044416 then ((some (y115 ++ [a1] : List Int)).bind fun y118 => ((some (l0.drop (x5_1 : Int).toNat : List Int)).bind fun y121 => (if y118.length + y121.length < 17592186044416 then (some (y118 ++ y121)) else (none)))) else (none))) else (none))) else (none)) = some r := by first | (rw [hy108]; with_reducible exact H) | (have H2_ := (Option.bind_some _ _).symm.trans H; rw [hy108]; with_reducible exact H2_) | (have H2_ := (Option.bind_some _ _).symm.trans H; with_reducible exact H2_) | with_reducible exact H | (rw [hy108]; exact H) | exact H
      have Ny108 := Aside0.mk hy108
      clear hy108
      have c9b0 := eq_true (of_decide_eq_true (by first | (with_reducible assumption) | assumption) : 0 ≤ x5_1)
      refine Or.elim (Classical.em (x5_1 ≤ (l0.length : Int))) (fun c10 => ?_) (fun c10 => by rw [if_neg c10] at H; exact absurd H (by simp))
      rw [if_pos c10] at H
      have c10b0 := eq_true c10
      have c10b1 : decide (x5_1 ≤ (l0.length : Int)) = true := decide_eq_true c10
      clear c10
      obtain ⟨y111, hy111⟩ : ∃ y_ : List Int, y_ = (l0.take (x5_1 : Int).toNat) := ⟨_, rfl⟩
      replace H : (if y108.length + y111.length < 17592186044416 then ((some (y108 ++ y111 : List Int)).bind fun y115 => (if y115.length < 17592186044416 then ((some (y115 ++ [a1] : List Int)).bind fun y118 => ((some (l0.drop (x5_1 : Int).toNat : List Int)).bind fun y121 => (if y118.length + y121.length < 17592186044416 then (some (y118 ++ y121)) else (none)))) else (none))) else (none)) = some r := by first | (rw [hy111]; with_reducible exact H) | (have H2_ := (Option.bind_some _ _).symm.trans H; rw [hy111]; with_reducible exact H2_) | (have H2_ := (Option.bind_some _ _).symm.trans H; with_reducible exact H2_) | with_reducible exact H | (rw [hy111]; exact H) | exact H
      have Ny111 := Aside0.mk hy111
      clear hy111
      refine Or.elim (Classical.em (y108.length + y111.length < 17592186044416)) (fun c11 => ?_) (fun c11 => by rw [if_neg c11] at H; exact absurd H (by simp))
      rw [if_pos c11] at H
      have LMc11 := Aside0.mk c11
      clear c11
      obtain ⟨y115, hy115⟩ : ∃ y_ : List Int, y_ = (y108 ++ y111) := ⟨_, rfl⟩
      replace H : (if y115.length < 17592186044416 then ((some (y115 ++ [a1] : List Int)).bind fun y118 => ((some (l0.drop (x5_1 : Int).toNat : List Int)).bind fun y121 => (if y118.length + y121.length < 17592186044416 then (some (y118 ++ y121)) else (none)))) else (none)) = some r := by first | (rw [hy115]; with_reducible exact H) | (have H2_ := (Option.bind_some _ _).symm.trans H; rw [hy115]; with_reducible exact H2_) | (have H2_ := (Option.bind_some _ _).symm.trans H; with_reducible exact H2_) | with_reducible exact H | (rw [hy115]; exact H) | exact H
      have Ny115 := Aside0.mk hy115
      clear hy115
      refine Or.elim (Classical.em (y115.length < 17592186044416)) (fun c12 => ?_) (fun c12 => by rw [if_neg c12] at H; exact absurd H (by simp))
      rw [if_pos c12] at H
      have LMc12 := Aside0.mk c12
      clear c12
      obtain ⟨y118, hy118⟩ : ∃ y_ : List Int, y_ = (y115 ++ [a1]) := ⟨_, rfl⟩
      replace H : ((some (l0.drop (x5_1 : Int).toNat : List Int)).bind fun y121 => (if y118.length + y121.length < 17592186044416 then (some (y118 ++ y121)) else (none))) = some r := by first | (rw [hy118]; with_reducible exact H) | (have H2_ := (Option.bind_some _ _).symm.trans H; rw [hy118]; with_reducible exact H2_) | (have H2_ := (Option.bind_some _ _).symm.trans H; with_reducible exact H2_) | with_reducible exact H | (rw [hy118]; exact H) | exact H
      have Ny118 := Aside0.mk hy118
      clear hy118
      have c13b0 := eq_true (of_decide_eq_true (by first | (with_reducible assumption) | assumption) : 0 ≤ x5_1)
      have c14b0 := eq_true (of_decide_eq_true (by first | (with_reducible assumption) | assumption) : x5_1 ≤ (l0.length : Int))
      obtain ⟨y121, hy121⟩ : ∃ y_ : List Int, y_ = (l0.drop (x5_1 : Int).toNat) := ⟨_, rfl⟩
      replace H : (if y118.length + y121.length < 17592186044416 then (some (y118 ++ y121)) else (none)) = some r := by first | (rw [hy121]; with_reducible exact H) | (have H2_ := (Option.bind_some _ _).symm.trans H; rw [hy121]; with_reducible exact H2_) | (have H2_ := (Option.bind_some _ _).symm.trans H; with_reducible exact H2_) | with_reducible exact H | (rw [hy121]; exact H) | exact H
      have Ny121 := Aside0.mk hy121
      clear hy121
      refine Or.elim (Classical.em (y118.length + y121.length < 17592186044416)) (fun c15 => ?_) (fun c15 => by rw [if_neg c15] at H; exact absurd H (by simp))
      rw [if_pos c15] at H
      have LMc15 := Aside0.mk c15
      clear c15
      obtain ⟨y125, hy125⟩ : ∃ y_ : List Int, y_ = (y118 ++ y121) := ⟨_, rfl⟩
      replace H : (some y125) = some r := by first | (rw [hy125]; with_reducible exact H) | (have H2_ := (Option.bind_some _ _).symm.trans H; rw [hy125]; with_reducible exact H2_) | (have H2_ := (Option.bind_some _ _).symm.trans H; with_reducible exact H2_) | with_reducible exact H | (rw [hy125]; exact H) | exact H
      have Ny125 := Aside0.mk hy125
      clear hy125
      obtain rfl := Option.some.inj H
      obtain ⟨Ao16, co16, eo16⟩ := Kd.R_slice HO_0.out
      subst eo16
      have p106 : 0 ≤ (x5_1 : Int) := of_decide_eq_true (by first | (with_reducible assumption) | assumption)
      have q106 : x5_1 < (l0.length : Int) := of_decide_eq_true (by first | (with_reducible assumption) | assumption)
      obtain ⟨ad106, e106, hx106_0⟩ := Kd.at_int (Kd.R_reads' HO_0.out).2.2 x5_1 p106 q106
      cases e106
      replace p106 := eq_true p106
      replace q106 := eq_true q106
      have p107 : 0 ≤ (x5_1 : Int) := of_decide_eq_true (by first | (with_reducible assumption) | assumption)
      have q107 : x5_1 < (l0.length : Int) := of_decide_eq_true (by first | (with_reducible assumption) | assumption)
      obtain ⟨ad107, e107, hx107_0⟩ := Kd.at_int (Kd.R_reads' HO_0.out).2.2 x5_1 p107 q107
      obtain rfl : ad106 = ad107 := (by injection e107)
      replace p107 := eq_true p107
      replace q107 := eq_true q107
      go_wp2_with (first | ((with_reducible refine gate_dst (N := 34) rfl ?_); refine Kd.R_lit (Kd.int .i64) _ 3 ?hg (N := 34) ?hd (xs := ([] : List Int)) (inner := []) (ok := fun _ => True) (okp := fun _ => True) ?hr ?hp (fun _ hk => hk) trivial (Below.refl _ _) (Nat.le_refl _) (by simp) ?_; (case hd => rfl); (case hg => rfl); (case hr => first | (go_simp; done) | (go_simp; rfl)); (case hp => exact (Reps.none _ _)); intro v109 w17 ho18 hb hg_ hnew_; clear hg_ hnew_; (first | rw [← Ny108.out] at ho18 | (simp only [Int.reduceToNat] at ho18; rw [← Ny108.out] at ho18)); have n0_ := Aside0.mk (Kd.R_elder' (by (with_reducible repeat (first | apply Kd.R_alloc | apply Kd.R_drewN | apply Kd.R_drew)); exact HO_0.out) (Kd.R_base ho18) hb); have n1_ := Aside0.mk (Kd.R_lower (Kd.R_new' (Kd.R_newM (M := fun k_ => (P0_ k_ ∨ w.heap.size ≤ k_)) ho18 (by first | exact HK.out.1 | exact (show Kept w _ (fun k_ => P0_ k_) from by repeat (first | (with_reducible first | exact HK.out | apply Kept.alloc | apply Kept.drewN | apply Kept.drew) | exact HK.out)).1) (fun k_ h_ => .inr h_)) (Kd.R_lt (by (with_reducible repeat (first | apply Kd.R_alloc | apply Kd.R_drewN | apply Kd.R_drew)); exact HO_0.out))) (below_size (Gtr.bw HB.out))); have n2_ := Aside0.mk (Kept.below (S := (fun k_ => P0_ k_)) (by repeat (first | (with_reducible first | exact HK.out | apply Kept.alloc | apply Kept.drewN | apply Kept.drew) | exact HK.out)) hb); have n3_ := Aside0.mk (below_step (Gtr.bw HB.out) hb); clear HO_0; clear HK; clear HB; have HO_0 := n0_; have HO110 := n1_; have HK := n2_; have HB := n3_; clear n0_ n1_ n2_ n3_; clear hb ho18; have q19 : (x5_1 : Int) ≤ ((l0.length : Int) : Int) := of_decide_eq_true (by first | (with_reducible assumption) | assumption); obtain ⟨i019, hi019, _, hsz19, _⟩ := info_parts info3; have hroom19 : l0.length ≤ co16 := (Kd.R_reads' HO_0.out).2.1; have hC19 : Kd.C (Kd.int .i64) _ (some ad106) l0.length l0 := (Kd.R_reads' HO_0.out).2.2; have hcut19 := cut_to (P := Tryz.prog) 28 3 .i64 Tryz.underlying28 hi019 (some ad106) l0.length co16 x5_1 (of_decide_eq_true (by first | (with_reducible assumption) | assumption)) q19 hroom19; have hr19 := Kd.C_take (m := (x5_1 : Int).toNat) hC19 (by omega); have hy19 : y111.length = (x5_1 : Int).toNat := (by rw [Ny111.out, List.length_take]; omega); rw [← Ny111.out] at hr19; rw [← hy19] at hcut19; have HR114 := Aside0.mk hr19; have HC114 := Aside0.mk (show y111.length ≤ co16 from by omega); clear hr19 hC19 hroom19 hi019 hsz19; have KY19 := Aside0.mk hy19; clear hy19; have KL19 := Aside0.mk (show (x5_1 : Int).toNat ≤ l0.length from by omega); replace q19 := eq_true q19) | ((with_reducible refine gate_builtin (b := .append) (xs := #[.tmp 34, .tmp 37]) rfl ?_); at_builtin; refine Kd.R_append_rows (Kd.int .i64) (w0 := w0) w0.heap.size rfl (.tmp 34) (.tmp 37) 28 3 (.int .i64 0) 8 rfl Tryz.underlying28 info3 rfl (by decide) (by omega) v109 y108 y111 _ _ _ (fun k_ => (P0_ k_ ∨ w.heap.size ≤ k_) ∧ some k_ ≠ (.slice (some ad106) l0.length co16 : Value).ownBlock) (fun _ => False) rfl rfl ?aO ?aR (fun _ _ h => h) (fun _ h => h.elim) ?aF ?aB ?aS ?aL ?_; (case aR => repeat (first | exact (by repeat (first | (with_reducible exact HR114.out) | (with_reducible refine Kd.C_alloc ?_ _) | (with_reducible refine Kd.C_drewN ?_ _) | (with_reducible refine Kd.C_drew ?_) | exact HR114.out)) | (with_reducible refine Kd.C_alloc ?_ _) | (with_reducible refine Kd.C_drewN ?_ _) | (with_reducible refine Kd.C_drew ?_))); (case aB => exact (Gtr.bw HB.out)); (case aF => exact (fun k_ hk => ⟨(.inr (Nat.le_trans (by first | exact HK.out.1 | exact (show Kept w _ (fun k_ => P0_ k_) from by repeat (first | (with_reducible first | exact HK.out | apply Kept.alloc | apply Kept.drewN | apply Kept.drew) | exact HK.out)).1) hk)), Kd.fresh' (Kd.R_lt (by (with_reducible repeat (first | apply Kd.R_alloc | apply Kd.R_drewN | apply Kd.R_drew)); exact HO_0.out)) k_ hk⟩)); (case aO => exact (by (with_reducible repeat (first | apply Kd.R_alloc | apply Kd.R_drewN | apply Kd.R_drew)); exact Kd.R_mono HO110.out (fun _ hk => ⟨hk.1.1, hk.2⟩))); (case aS => exact (below_size (Gtr.bw HB.out))); (case aL => have := LMc11.out; omega); intro v116 w20 ho hb hg hat; rw [← Ny115.out] at ho; have n0_ := Aside0.mk (Kd.R_after (ok := (fun k_ => (P0_ k_ ∨ w.heap.size ≤ k_))) (by (with_reducible repeat (first | apply Kd.R_alloc | apply Kd.R_drewN | apply Kd.R_drew)); exact HO_0.out) hg hat); have n1_ := Aside0.mk (hb); have n2_ := Aside0.mk (Kept.of_grown (S := (fun k_ => P0_ k_)) hg (by repeat (first | (with_reducible first | exact HK.out | apply Kept.alloc | apply Kept.drewN | apply Kept.drew) | exact HK.out)) (fun k_ e_ => (HO110.out.1 k_ e_).1.1)); have n3_ := Aside0.mk ((show Kd.C (Kd.int .i64) w20 (some ad106) y111.length y111 from by rw [Ny111.out]; exact Kd.C_take (m := (x5_1 : Int).toNat) ((Kd.R_reads' (Kd.R_after (ok := (fun k_ => (P0_ k_ ∨ w.heap.size ≤ k_))) (by (with_reducible repeat (first | apply Kd.R_alloc | apply Kd.R_drewN | apply Kd.R_drew)); exact HO_0.out) hg hat)).2.2) KL19.out)); have n4_ := Aside0.mk (ho); clear HO_0; clear HB; clear HK; clear HR114; clear HO110; have HO_0 := n0_; have HB := n1_; have HK := n2_; have HR114 := n3_; have HO117 := n4_; clear n0_ n1_ n2_ n3_ n4_; clear ho hb hg hat) | ((with_reducible refine gate_builtin (b := .append) (xs := #[.tmp 39, .tmp 41]) rfl ?_); at_builtin; refine Kd.R_append (Kd.int .i64) (w0 := w0) w0.heap.size rfl (.tmp 39) (.tmp 41) 28 3 (.int .i64 0) 8 rfl Tryz.underlying28 info3 rfl (by decide) (by omega) v116 y115 a1 [.int .i64 a1] (fun k_ => (P0_ k_ ∨ w.heap.size ≤ k_) ∧ some k_ ≠ (.slice (some ad106) l0.length co16 : Value).ownBlock) (fun _ => False) rfl rfl ?aP (fun _ hk => hk.elim) ?aF ?aO ?aB ?aS ?aL ?_; (case aP => exact rfl); (case aB => exact (Gtr.bw HB.out)); (case aF => exact (fun k_ hk => ⟨(.inr (Nat.le_trans (by first | exact HK.out.1 | exact (show Kept w _ (fun k_ => P0_ k_) from by repeat (first | (with_reducible first | exact HK.out | apply Kept.alloc | apply Kept.drewN | apply Kept.drew) | exact HK.out)).1) hk)), Kd.fresh' (Kd.R_lt (by (with_reducible repeat (first | apply Kd.R_alloc | apply Kd.R_drewN | apply Kd.R_drew)); exact HO_0.out)) k_ hk⟩)); (case aO => exact (by (with_reducible repeat (first | apply Kd.R_alloc | apply Kd.R_drewN | apply Kd.R_drew)); exact HO117.out)); (case aS => exact (below_size (Gtr.bw HB.out))); (case aL => have := LMc12.out; omega); intro v119 w21 ho hb hg hat; rw [← Ny118.out] at ho; have n0_ := Aside0.mk (Kd.R_after (ok := (fun k_ => (P0_ k_ ∨ w.heap.size ≤ k_))) (by (with_reducible repeat (first | apply Kd.R_alloc | apply Kd.R_drewN | apply Kd.R_drew)); exact HO_0.out) hg hat); have n1_ := Aside0.mk (hb); have n2_ := Aside0.mk (Kept.of_grown (S := (fun k_ => P0_ k_)) hg (by repeat (first | (with_reducible first | exact HK.out | apply Kept.alloc | apply Kept.drewN | apply Kept.drew) | exact HK.out)) (fun k_ e_ => (HO117.out.1 k_ e_).1)); have n3_ := Aside0.mk ((show Kd.C (Kd.int .i64) w21 (some ad106) y111.length y111 from by rw [Ny111.out]; exact Kd.C_take (m := (x5_1 : Int).toNat) ((Kd.R_reads' (Kd.R_after (ok := (fun k_ => (P0_ k_ ∨ w.heap.size ≤ k_))) (by (with_reducible repeat (first | apply Kd.R_alloc | apply Kd.R_drewN | apply Kd.R_drew)); exact HO_0.out) hg hat)).2.2) KL19.out)); have n4_ := Aside0.mk (ho); clear HO_0; clear HB; clear HK; clear HR114; clear HO117; have HO_0 := n0_; have HB := n1_; have HK := n2_; have HR114 := n3_; have HO120 := n4_; clear n0_ n1_ n2_ n3_ n4_; clear ho hb hg hat; have q22 : (x5_1 : Int) ≤ ((l0.length : Int) : Int) := of_decide_eq_true (by first | (with_reducible assumption) | assumption); obtain ⟨i022, hi022, _, hsz22, _⟩ := info_parts info3; have hroom22 : l0.length ≤ co16 := (Kd.R_reads' HO_0.out).2.1; have hC22 : Kd.C (Kd.int .i64) _ (some ad106) l0.length l0 := (Kd.R_reads' HO_0.out).2.2; have q022 : (0 : Int) ≤ (x5_1 : Int) := of_decide_eq_true (by first | (with_reducible assumption) | assumption); have hcut22 := cut_from (P := Tryz.prog) 28 3 .i64 Tryz.underlying28 hi022 1 hsz22 (some ad106) l0.length co16 x5_1 q022 q22; have hr22 := Kd.C_drop (m := (x5_1 : Int).toNat) (c := co16) hC22 (by omega) hroom22; obtain ⟨A22, hA22⟩ : ∃ A1, A1 = (if co16 = (x5_1 : Int).toNat then (some ad106) else ((some ad106) : Option Addr).map (·.add ((x5_1 : Int).toNat * 1))) := ⟨_, rfl⟩; obtain ⟨c22, hc22⟩ : ∃ c1, c1 = co16 - (x5_1 : Int).toNat := ⟨_, rfl⟩; have hy22 : y121.length = l0.length - (x5_1 : Int).toNat := (by rw [Ny121.out, List.length_drop] <;> omega); rw [show (l0).drop (x5_1 : Int).toNat = y121 from Ny121.out.symm] at hr22; replace hr22 : Kd.C (Kd.int .i64) _ A22 y121.length y121 := (by rw [hA22]; exact hr22); rw [← hy22, ← hA22, ← hc22] at hcut22; have HR124 := Aside0.mk hr22; have HC124 := Aside0.mk (show y121.length ≤ c22 from by rw [hy22, hc22]; exact Nat.sub_le_sub_right hroom22 _); clear hr22 hC22 hroom22 hi022 hsz22 hc22; have KY22 := Aside0.mk hy22; have KA22 := Aside0.mk hA22; clear hy22 hA22; have KL22 := Aside0.mk (show (x5_1 : Int).toNat ≤ l0.length from by omega); replace q22 := eq_true q22) | ((with_reducible refine gate_builtin (b := .append) (xs := #[.tmp 43, .tmp 46]) rfl ?_); at_builtin; refine Kd.R_append_rows (Kd.int .i64) (w0 := w0) w0.heap.size rfl (.tmp 43) (.tmp 46) 28 3 (.int .i64 0) 8 rfl Tryz.underlying28 info3 rfl (by decide) (by omega) v119 y118 y121 _ _ _ (fun k_ => (P0_ k_ ∨ w.heap.size ≤ k_) ∧ some k_ ≠ (.slice (some ad106) l0.length co16 : Value).ownBlock) (fun _ => False) rfl rfl ?aO ?aR (fun _ _ h => h) (fun _ h => h.elim) ?aF ?aB ?aS ?aL ?_; (case aR => repeat (first | exact (by repeat (first | (with_reducible exact HR124.out) | (with_reducible refine Kd.C_alloc ?_ _) | (with_reducible refine Kd.C_drewN ?_ _) | (with_reducible refine Kd.C_drew ?_) | exact HR124.out)) | (with_reducible refine Kd.C_alloc ?_ _) | (with_reducible refine Kd.C_drewN ?_ _) | (with_reducible refine Kd.C_drew ?_))); (case aB => exact (Gtr.bw HB.out)); (case aF => exact (fun k_ hk => ⟨(.inr (Nat.le_trans (by first | exact HK.out.1 | exact (show Kept w _ (fun k_ => P0_ k_) from by repeat (first | (with_reducible first | exact HK.out | apply Kept.alloc | apply Kept.drewN | apply Kept.drew) | exact HK.out)).1) hk)), Kd.fresh' (Kd.R_lt (by (with_reducible repeat (first | apply Kd.R_alloc | apply Kd.R_drewN | apply Kd.R_drew)); exact HO_0.out)) k_ hk⟩)); (case aO => exact (by (with_reducible repeat (first | apply Kd.R_alloc | apply Kd.R_drewN | apply Kd.R_drew)); exact HO120.out)); (case aS => exact (below_size (Gtr.bw HB.out))); (case aL => have := LMc15.out; omega); intro v126 w23 ho hb hg hat; rw [← Ny125.out] at ho; have n0_ := Aside0.mk (Kd.R_after (ok := (fun k_ => (P0_ k_ ∨ w.heap.size ≤ k_))) (by (with_reducible repeat (first | apply Kd.R_alloc | apply Kd.R_drewN | apply Kd.R_drew)); exact HO_0.out) hg hat); have n1_ := Aside0.mk (hb); have n2_ := Aside0.mk (Kept.of_grown (S := (fun k_ => P0_ k_)) hg (by repeat (first | (with_reducible first | exact HK.out | apply Kept.alloc | apply Kept.drewN | apply Kept.drew) | exact HK.out)) (fun k_ e_ => (HO120.out.1 k_ e_).1)); have n3_ := Aside0.mk ((show Kd.C (Kd.int .i64) w23 (some ad106) y111.length y111 from by rw [Ny111.out]; exact Kd.C_take (m := (x5_1 : Int).toNat) ((Kd.R_reads' (Kd.R_after (ok := (fun k_ => (P0_ k_ ∨ w.heap.size ≤ k_))) (by (with_reducible repeat (first | apply Kd.R_alloc | apply Kd.R_drewN | apply Kd.R_drew)); exact HO_0.out) hg hat)).2.2) KL19.out)); have n4_ := Aside0.mk ((show Kd.C (Kd.int .i64) w23 A22 y121.length y121 from by rw [Ny121.out, KA22.out]; exact Kd.C_drop (m := (x5_1 : Int).toNat) (c := co16) ((Kd.R_reads' (Kd.R_after (ok := (fun k_ => (P0_ k_ ∨ w.heap.size ≤ k_))) (by (with_reducible repeat (first | apply Kd.R_alloc | apply Kd.R_drewN | apply Kd.R_drew)); exact HO_0.out) hg hat)).2.2) KL22.out ((Kd.R_reads' (Kd.R_after (ok := (fun k_ => (P0_ k_ ∨ w.heap.size ≤ k_))) (by (with_reducible repeat (first | apply Kd.R_alloc | apply Kd.R_drewN | apply Kd.R_drew)); exact HO_0.out) hg hat)).2.1))); have n5_ := Aside0.mk (ho); clear HO_0; clear HB; clear HK; clear HR114; clear HR124; clear HO120; have HO_0 := n0_; have HB := n1_; have HK := n2_; have HR114 := n3_; have HR124 := n4_; have HO127 := n5_; clear n0_ n1_ n2_ n3_ n4_ n5_; clear ho hb hg hat))
      go_ret
      exact ⟨_, by first | rfl | (simp [errW_none, errW_some] <;> rfl) | (simp [*, errW_none, errW_some] <;> rfl), by (with_reducible repeat (first | apply Kd.R_alloc | apply Kd.R_drewN | apply Kd.R_drew)); exact Kd.R_mono HO127.out (fun _ hk => hk.1), (Gtr.bw HB.out), by repeat (first | (with_reducible first | exact HK.out | apply Kept.alloc | apply Kept.drewN | apply Kept.drew) | exact HK.out)⟩
   ·rw [if_neg c3] at H
    have c3b0 : decide (x5_1 < (l0.length : Int)) = false := decide_eq_false c3
    clear c3
    obtain ⟨y128, hy128⟩ : ∃ y_ : List Int, y_ = (([] : List Int)) := ⟨_, rfl⟩
    replace H : (if 0 ≤ x5_1 then (if x5_1 ≤ (l0.length : Int) then ((some (l0.take (x5_1 : Int).toNat : List Int)).bind fun y131 => (if y128.length + y131.length < 17592186044416 then ((some (y128 ++ y131 : List Int)).bind fun y135 => (if y135.length < 17592186044416 then ((some (y135 ++ [a1] : List Int)).bind fun y138 => ((some (l0.drop (x5_1 : Int).toNat : List Int)).bind fun y141 => (if y138.length + y141.length < 17592186044416 then (some (y138 ++ y141)) else (none)))) else (none))) else (none))) else (none)) else (none)) = some r := by first | (rw [hy128]; with_reducible exact H) | (have H2_ := (Option.bind_some _ _).symm.trans H; rw [hy128]; with_reducible exact H2_) | (have H2_ := (Option.bind_some _ _).symm.trans H; with_reducible exact H2_) | with_reducible exact H | (rw [hy128]; exact H) | exact H
    have Ny128 := Aside0.mk hy128
    clear hy128
    refine Or.elim (Classical.em (0 ≤ x5_1)) (fun c24 => ?_) (fun c24 => by rw [if_neg c24] at H; exact absurd H (by simp))
    rw [if_pos c24] at H
    have c24b0 := eq_true c24
    have c24b1 : decide (0 ≤ x5_1) = true := decide_eq_true c24
    clear c24
    refine Or.elim (Classical.em (x5_1 ≤ (l0.length : Int))) (fun c25 => ?_) (fun c25 => by rw [if_neg c25] at H; exact absurd H (by simp))
    rw [if_pos c25] at H
    have c25b0 := eq_true c25
    have c25b1 : decide (x5_1 ≤ (l0.length : Int)) = true := decide_eq_true c25
    clear c25
    obtain ⟨y131, hy131⟩ : ∃ y_ : List Int, y_ = (l0.take (x5_1 : Int).toNat) := ⟨_, rfl⟩
    replace H : (if y128.length + y131.length < 17592186044416 then ((some (y128 ++ y131 : List Int)).bind fun y135 => (if y135.length < 17592186044416 then ((some (y135 ++ [a1] : List Int)).bind fun y138 => ((some (l0.drop (x5_1 : Int).toNat : List Int)).bind fun y141 => (if y138.length + y141.length < 17592186044416 then (some (y138 ++ y141)) else (none)))) else (none))) else (none)) = some r := by first | (rw [hy131]; with_reducible exact H) | (have H2_ := (Option.bind_some _ _).symm.trans H; rw [hy131]; with_reducible exact H2_) | (have H2_ := (Option.bind_some _ _).symm.trans H; with_reducible exact H2_) | with_reducible exact H | (rw [hy131]; exact H) | exact H
    have Ny131 := Aside0.mk hy131
    clear hy131
    refine Or.elim (Classical.em (y128.length + y131.length < 17592186044416)) (fun c26 => ?_) (fun c26 => by rw [if_neg c26] at H; exact absurd H (by simp))
    rw [if_pos c26] at H
    have LMc26 := Aside0.mk c26
    clear c26
    obtain ⟨y135, hy135⟩ : ∃ y_ : List Int, y_ = (y128 ++ y131) := ⟨_, rfl⟩
    replace H : (if y135.length < 17592186044416 then ((some (y135 ++ [a1] : List Int)).bind fun y138 => ((some (l0.drop (x5_1 : Int).toNat : List Int)).bind fun y141 => (if y138.length + y141.length < 17592186044416 then (some (y138 ++ y141)) else (none)))) else (none)) = some r := by first | (rw [hy135]; with_reducible exact H) | (have H2_ := (Option.bind_some _ _).symm.trans H; rw [hy135]; with_reducible exact H2_) | (have H2_ := (Option.bind_some _ _).symm.trans H; with_reducible exact H2_) | with_reducible exact H | (rw [hy135]; exact H) | exact H
    have Ny135 := Aside0.mk hy135
    clear hy135
    refine Or.elim (Classical.em (y135.length < 17592186044416)) (fun c27 => ?_) (fun c27 => by rw [if_neg c27] at H; exact absurd H (by simp))
    rw [if_pos c27] at H
    have LMc27 := Aside0.mk c27
    clear c27
    obtain ⟨y138, hy138⟩ : ∃ y_ : List Int, y_ = (y135 ++ [a1]) := ⟨_, rfl⟩
    replace H : ((some (l0.drop (x5_1 : Int).toNat : List Int)).bind fun y141 => (if y138.length + y141.length < 17592186044416 then (some (y138 ++ y141)) else (none))) = some r := by first | (rw [hy138]; with_reducible exact H) | (have H2_ := (Option.bind_some _ _).symm.trans H; rw [hy138]; with_reducible exact H2_) | (have H2_ := (Option.bind_some _ _).symm.trans H; with_reducible exact H2_) | with_reducible exact H | (rw [hy138]; exact H) | exact H
    have Ny138 := Aside0.mk hy138
    clear hy138
    have c28b0 := eq_true (of_decide_eq_true (by first | (with_reducible assumption) | assumption) : 0 ≤ x5_1)
    have c29b0 := eq_true (of_decide_eq_true (by first | (with_reducible assumption) | assumption) : x5_1 ≤ (l0.length : Int))
    obtain ⟨y141, hy141⟩ : ∃ y_ : List Int, y_ = (l0.drop (x5_1 : Int).toNat) := ⟨_, rfl⟩
    replace H : (if y138.length + y141.length < 17592186044416 then (some (y138 ++ y141)) else (none)) = some r := by first | (rw [hy141]; with_reducible exact H) | (have H2_ := (Option.bind_some _ _).symm.trans H; rw [hy141]; with_reducible exact H2_) | (have H2_ := (Option.bind_some _ _).symm.trans H; with_reducible exact H2_) | with_reducible exact H | (rw [hy141]; exact H) | exact H
    have Ny141 := Aside0.mk hy141
    clear hy141
    refine Or.elim (Classical.em (y138.length + y141.length < 17592186044416)) (fun c30 => ?_) (fun c30 => by rw [if_neg c30] at H; exact absurd H (by simp))
    rw [if_pos c30] at H
    have LMc30 := Aside0.mk c30
    clear c30
    obtain ⟨y145, hy145⟩ : ∃ y_ : List Int, y_ = (y138 ++ y141) := ⟨_, rfl⟩
    replace H : (some y145) = some r := by first | (rw [hy145]; with_reducible exact H) | (have H2_ := (Option.bind_some _ _).symm.trans H; rw [hy145]; with_reducible exact H2_) | (have H2_ := (Option.bind_some _ _).symm.trans H; with_reducible exact H2_) | with_reducible exact H | (rw [hy145]; exact H) | exact H
    have Ny145 := Aside0.mk hy145
    clear hy145
    obtain rfl := Option.some.inj H
    obtain ⟨Ao31, co31, eo31⟩ := Kd.R_slice HO_0.out
    subst eo31
    go_wp2_with (first | ((with_reducible refine gate_dst (N := 34) rfl ?_); refine Kd.R_lit (Kd.int .i64) _ 3 ?hg (N := 34) ?hd (xs := ([] : List Int)) (inner := []) (ok := fun _ => True) (okp := fun _ => True) ?hr ?hp (fun _ hk => hk) trivial (Below.refl _ _) (Nat.le_refl _) (by simp) ?_; (case hd => rfl); (case hg => rfl); (case hr => first | (go_simp; done) | (go_simp; rfl)); (case hp => exact (Reps.none _ _)); intro v129 w32 ho33 hb hg_ hnew_; clear hg_ hnew_; (first | rw [← Ny128.out] at ho33 | (simp only [Int.reduceToNat] at ho33; rw [← Ny128.out] at ho33)); have n0_ := Aside0.mk (Kd.R_elder' (by (with_reducible repeat (first | apply Kd.R_alloc | apply Kd.R_drewN | apply Kd.R_drew)); exact HO_0.out) (Kd.R_base ho33) hb); have n1_ := Aside0.mk (Kd.R_lower (Kd.R_new' (Kd.R_newM (M := fun k_ => (P0_ k_ ∨ w.heap.size ≤ k_)) ho33 (by first | exact HK.out.1 | exact (show Kept w _ (fun k_ => P0_ k_) from by repeat (first | (with_reducible first | exact HK.out | apply Kept.alloc | apply Kept.drewN | apply Kept.drew) | exact HK.out)).1) (fun k_ h_ => .inr h_)) (Kd.R_lt (by (with_reducible repeat (first | apply Kd.R_alloc | apply Kd.R_drewN | apply Kd.R_drew)); exact HO_0.out))) (below_size (Gtr.bw HB.out))); have n2_ := Aside0.mk (Kept.below (S := (fun k_ => P0_ k_)) (by repeat (first | (with_reducible first | exact HK.out | apply Kept.alloc | apply Kept.drewN | apply Kept.drew) | exact HK.out)) hb); have n3_ := Aside0.mk (below_step (Gtr.bw HB.out) hb); clear HO_0; clear HK; clear HB; have HO_0 := n0_; have HO130 := n1_; have HK := n2_; have HB := n3_; clear n0_ n1_ n2_ n3_; clear hb ho33; have q34 : (x5_1 : Int) ≤ ((l0.length : Int) : Int) := of_decide_eq_true (by first | (with_reducible assumption) | assumption); obtain ⟨i034, hi034, _, hsz34, _⟩ := info_parts info3; have hroom34 : l0.length ≤ co31 := (Kd.R_reads' HO_0.out).2.1; have hC34 : Kd.C (Kd.int .i64) _ Ao31 l0.length l0 := (Kd.R_reads' HO_0.out).2.2; have hcut34 := cut_to (P := Tryz.prog) 28 3 .i64 Tryz.underlying28 hi034 Ao31 l0.length co31 x5_1 (of_decide_eq_true (by first | (with_reducible assumption) | assumption)) q34 hroom34; have hr34 := Kd.C_take (m := (x5_1 : Int).toNat) hC34 (by omega); have hy34 : y131.length = (x5_1 : Int).toNat := (by rw [Ny131.out, List.length_take]; omega); rw [← Ny131.out] at hr34; rw [← hy34] at hcut34; have HR134 := Aside0.mk hr34; have HC134 := Aside0.mk (show y131.length ≤ co31 from by omega); clear hr34 hC34 hroom34 hi034 hsz34; have KY34 := Aside0.mk hy34; clear hy34; have KL34 := Aside0.mk (show (x5_1 : Int).toNat ≤ l0.length from by omega); replace q34 := eq_true q34) | ((with_reducible refine gate_builtin (b := .append) (xs := #[.tmp 34, .tmp 37]) rfl ?_); at_builtin; refine Kd.R_append_rows (Kd.int .i64) (w0 := w0) w0.heap.size rfl (.tmp 34) (.tmp 37) 28 3 (.int .i64 0) 8 rfl Tryz.underlying28 info3 rfl (by decide) (by omega) v129 y128 y131 _ _ _ (fun k_ => (P0_ k_ ∨ w.heap.size ≤ k_) ∧ some k_ ≠ (.slice Ao31 l0.length co31 : Value).ownBlock) (fun _ => False) rfl rfl ?aO ?aR (fun _ _ h => h) (fun _ h => h.elim) ?aF ?aB ?aS ?aL ?_; (case aR => repeat (first | exact (by repeat (first | (with_reducible exact HR134.out) | (with_reducible refine Kd.C_alloc ?_ _) | (with_reducible refine Kd.C_drewN ?_ _) | (with_reducible refine Kd.C_drew ?_) | exact HR134.out)) | (with_reducible refine Kd.C_alloc ?_ _) | (with_reducible refine Kd.C_drewN ?_ _) | (with_reducible refine Kd.C_drew ?_))); (case aB => exact (Gtr.bw HB.out)); (case aF => exact (fun k_ hk => ⟨(.inr (Nat.le_trans (by first | exact HK.out.1 | exact (show Kept w _ (fun k_ => P0_ k_) from by repeat (first | (with_reducible first | exact HK.out | apply Kept.alloc | apply Kept.drewN | apply Kept.drew) | exact HK.out)).1) hk)), Kd.fresh' (Kd.R_lt (by (with_reducible repeat (first | apply Kd.R_alloc | apply Kd.R_drewN | apply Kd.R_drew)); exact HO_0.out)) k_ hk⟩)); (case aO => exact (by (with_reducible repeat (first | apply Kd.R_alloc | apply Kd.R_drewN | apply Kd.R_drew)); exact Kd.R_mono HO130.out (fun _ hk => ⟨hk.1.1, hk.2⟩))); (case aS => exact (below_size (Gtr.bw HB.out))); (case aL => have := LMc26.out; omega); intro v136 w35 ho hb hg hat; rw [← Ny135.out] at ho; have n0_ := Aside0.mk (Kd.R_after (ok := (fun k_ => (P0_ k_ ∨ w.heap.size ≤ k_))) (by (with_reducible repeat (first | apply Kd.R_alloc | apply Kd.R_drewN | apply Kd.R_drew)); exact HO_0.out) hg hat); have n1_ := Aside0.mk (hb); have n2_ := Aside0.mk (Kept.of_grown (S := (fun k_ => P0_ k_)) hg (by repeat (first | (with_reducible first | exact HK.out | apply Kept.alloc | apply Kept.drewN | apply Kept.drew) | exact HK.out)) (fun k_ e_ => (HO130.out.1 k_ e_).1.1)); have n3_ := Aside0.mk ((show Kd.C (Kd.int .i64) w35 Ao31 y131.length y131 from by rw [Ny131.out]; exact Kd.C_take (m := (x5_1 : Int).toNat) ((Kd.R_reads' (Kd.R_after (ok := (fun k_ => (P0_ k_ ∨ w.heap.size ≤ k_))) (by (with_reducible repeat (first | apply Kd.R_alloc | apply Kd.R_drewN | apply Kd.R_drew)); exact HO_0.out) hg hat)).2.2) KL34.out)); have n4_ := Aside0.mk (ho); clear HO_0; clear HB; clear HK; clear HR134; clear HO130; have HO_0 := n0_; have HB := n1_; have HK := n2_; have HR134 := n3_; have HO137 := n4_; clear n0_ n1_ n2_ n3_ n4_; clear ho hb hg hat) | ((with_reducible refine gate_builtin (b := .append) (xs := #[.tmp 39, .tmp 41]) rfl ?_); at_builtin; refine Kd.R_append (Kd.int .i64) (w0 := w0) w0.heap.size rfl (.tmp 39) (.tmp 41) 28 3 (.int .i64 0) 8 rfl Tryz.underlying28 info3 rfl (by decide) (by omega) v136 y135 a1 [.int .i64 a1] (fun k_ => (P0_ k_ ∨ w.heap.size ≤ k_) ∧ some k_ ≠ (.slice Ao31 l0.length co31 : Value).ownBlock) (fun _ => False) rfl rfl ?aP (fun _ hk => hk.elim) ?aF ?aO ?aB ?aS ?aL ?_; (case aP => exact rfl); (case aB => exact (Gtr.bw HB.out)); (case aF => exact (fun k_ hk => ⟨(.inr (Nat.le_trans (by first | exact HK.out.1 | exact (show Kept w _ (fun k_ => P0_ k_) from by repeat (first | (with_reducible first | exact HK.out | apply Kept.alloc | apply Kept.drewN | apply Kept.drew) | exact HK.out)).1) hk)), Kd.fresh' (Kd.R_lt (by (with_reducible repeat (first | apply Kd.R_alloc | apply Kd.R_drewN | apply Kd.R_drew)); exact HO_0.out)) k_ hk⟩)); (case aO => exact (by (with_reducible repeat (first | apply Kd.R_alloc | apply Kd.R_drewN | apply Kd.R_drew)); exact HO137.out)); (case aS => exact (below_size (Gtr.bw HB.out))); (case aL => have := LMc27.out; omega); intro v139 w36 ho hb hg hat; rw [← Ny138.out] at ho; have n0_ := Aside0.mk (Kd.R_after (ok := (fun k_ => (P0_ k_ ∨ w.heap.size ≤ k_))) (by (with_reducible repeat (first | apply Kd.R_alloc | apply Kd.R_drewN | apply Kd.R_drew)); exact HO_0.out) hg hat); have n1_ := Aside0.mk (hb); have n2_ := Aside0.mk (Kept.of_grown (S := (fun k_ => P0_ k_)) hg (by repeat (first | (with_reducible first | exact HK.out | apply Kept.alloc | apply Kept.drewN | apply Kept.drew) | exact HK.out)) (fun k_ e_ => (HO137.out.1 k_ e_).1)); have n3_ := Aside0.mk ((show Kd.C (Kd.int .i64) w36 Ao31 y131.length y131 from by rw [Ny131.out]; exact Kd.C_take (m := (x5_1 : Int).toNat) ((Kd.R_reads' (Kd.R_after (ok := (fun k_ => (P0_ k_ ∨ w.heap.size ≤ k_))) (by (with_reducible repeat (first | apply Kd.R_alloc | apply Kd.R_drewN | apply Kd.R_drew)); exact HO_0.out) hg hat)).2.2) KL34.out)); have n4_ := Aside0.mk (ho); clear HO_0; clear HB; clear HK; clear HR134; clear HO137; have HO_0 := n0_; have HB := n1_; have HK := n2_; have HR134 := n3_; have HO140 := n4_; clear n0_ n1_ n2_ n3_ n4_; clear ho hb hg hat; have q37 : (x5_1 : Int) ≤ ((l0.length : Int) : Int) := of_decide_eq_true (by first | (with_reducible assumption) | assumption); obtain ⟨i037, hi037, _, hsz37, _⟩ := info_parts info3; have hroom37 : l0.length ≤ co31 := (Kd.R_reads' HO_0.out).2.1; have hC37 : Kd.C (Kd.int .i64) _ Ao31 l0.length l0 := (Kd.R_reads' HO_0.out).2.2; have q037 : (0 : Int) ≤ (x5_1 : Int) := of_decide_eq_true (by first | (with_reducible assumption) | assumption); have hcut37 := cut_from (P := Tryz.prog) 28 3 .i64 Tryz.underlying28 hi037 1 hsz37 Ao31 l0.length co31 x5_1 q037 q37; have hr37 := Kd.C_drop (m := (x5_1 : Int).toNat) (c := co31) hC37 (by omega) hroom37; obtain ⟨A37, hA37⟩ : ∃ A1, A1 = (if co31 = (x5_1 : Int).toNat then Ao31 else (Ao31 : Option Addr).map (·.add ((x5_1 : Int).toNat * 1))) := ⟨_, rfl⟩; obtain ⟨c37, hc37⟩ : ∃ c1, c1 = co31 - (x5_1 : Int).toNat := ⟨_, rfl⟩; have hy37 : y141.length = l0.length - (x5_1 : Int).toNat := (by rw [Ny141.out, List.length_drop] <;> omega); rw [show (l0).drop (x5_1 : Int).toNat = y141 from Ny141.out.symm] at hr37; replace hr37 : Kd.C (Kd.int .i64) _ A37 y141.length y141 := (by rw [hA37]; exact hr37); rw [← hy37, ← hA37, ← hc37] at hcut37; have HR144 := Aside0.mk hr37; have HC144 := Aside0.mk (show y141.length ≤ c37 from by rw [hy37, hc37]; exact Nat.sub_le_sub_right hroom37 _); clear hr37 hC37 hroom37 hi037 hsz37 hc37; have KY37 := Aside0.mk hy37; have KA37 := Aside0.mk hA37; clear hy37 hA37; have KL37 := Aside0.mk (show (x5_1 : Int).toNat ≤ l0.length from by omega); replace q37 := eq_true q37) | ((with_reducible refine gate_builtin (b := .append) (xs := #[.tmp 43, .tmp 46]) rfl ?_); at_builtin; refine Kd.R_append_rows (Kd.int .i64) (w0 := w0) w0.heap.size rfl (.tmp 43) (.tmp 46) 28 3 (.int .i64 0) 8 rfl Tryz.underlying28 info3 rfl (by decide) (by omega) v139 y138 y141 _ _ _ (fun k_ => (P0_ k_ ∨ w.heap.size ≤ k_) ∧ some k_ ≠ (.slice Ao31 l0.length co31 : Value).ownBlock) (fun _ => False) rfl rfl ?aO ?aR (fun _ _ h => h) (fun _ h => h.elim) ?aF ?aB ?aS ?aL ?_; (case aR => repeat (first | exact (by repeat (first | (with_reducible exact HR144.out) | (with_reducible refine Kd.C_alloc ?_ _) | (with_reducible refine Kd.C_drewN ?_ _) | (with_reducible refine Kd.C_drew ?_) | exact HR144.out)) | (with_reducible refine Kd.C_alloc ?_ _) | (with_reducible refine Kd.C_drewN ?_ _) | (with_reducible refine Kd.C_drew ?_))); (case aB => exact (Gtr.bw HB.out)); (case aF => exact (fun k_ hk => ⟨(.inr (Nat.le_trans (by first | exact HK.out.1 | exact (show Kept w _ (fun k_ => P0_ k_) from by repeat (first | (with_reducible first | exact HK.out | apply Kept.alloc | apply Kept.drewN | apply Kept.drew) | exact HK.out)).1) hk)), Kd.fresh' (Kd.R_lt (by (with_reducible repeat (first | apply Kd.R_alloc | apply Kd.R_drewN | apply Kd.R_drew)); exact HO_0.out)) k_ hk⟩)); (case aO => exact (by (with_reducible repeat (first | apply Kd.R_alloc | apply Kd.R_drewN | apply Kd.R_drew)); exact HO140.out)); (case aS => exact (below_size (Gtr.bw HB.out))); (case aL => have := LMc30.out; omega); intro v146 w38 ho hb hg hat; rw [← Ny145.out] at ho; have n0_ := Aside0.mk (Kd.R_after (ok := (fun k_ => (P0_ k_ ∨ w.heap.size ≤ k_))) (by (with_reducible repeat (first | apply Kd.R_alloc | apply Kd.R_drewN | apply Kd.R_drew)); exact HO_0.out) hg hat); have n1_ := Aside0.mk (hb); have n2_ := Aside0.mk (Kept.of_grown (S := (fun k_ => P0_ k_)) hg (by repeat (first | (with_reducible first | exact HK.out | apply Kept.alloc | apply Kept.drewN | apply Kept.drew) | exact HK.out)) (fun k_ e_ => (HO140.out.1 k_ e_).1)); have n3_ := Aside0.mk ((show Kd.C (Kd.int .i64) w38 Ao31 y131.length y131 from by rw [Ny131.out]; exact Kd.C_take (m := (x5_1 : Int).toNat) ((Kd.R_reads' (Kd.R_after (ok := (fun k_ => (P0_ k_ ∨ w.heap.size ≤ k_))) (by (with_reducible repeat (first | apply Kd.R_alloc | apply Kd.R_drewN | apply Kd.R_drew)); exact HO_0.out) hg hat)).2.2) KL34.out)); have n4_ := Aside0.mk ((show Kd.C (Kd.int .i64) w38 A37 y141.length y141 from by rw [Ny141.out, KA37.out]; exact Kd.C_drop (m := (x5_1 : Int).toNat) (c := co31) ((Kd.R_reads' (Kd.R_after (ok := (fun k_ => (P0_ k_ ∨ w.heap.size ≤ k_))) (by (with_reducible repeat (first | apply Kd.R_alloc | apply Kd.R_drewN | apply Kd.R_drew)); exact HO_0.out) hg hat)).2.2) KL37.out ((Kd.R_reads' (Kd.R_after (ok := (fun k_ => (P0_ k_ ∨ w.heap.size ≤ k_))) (by (with_reducible repeat (first | apply Kd.R_alloc | apply Kd.R_drewN | apply Kd.R_drew)); exact HO_0.out) hg hat)).2.1))); have n5_ := Aside0.mk (ho); clear HO_0; clear HB; clear HK; clear HR134; clear HR144; clear HO140; have HO_0 := n0_; have HB := n1_; have HK := n2_; have HR134 := n3_; have HR144 := n4_; have HO147 := n5_; clear n0_ n1_ n2_ n3_ n4_ n5_; clear ho hb hg hat))
    go_ret
    exact ⟨_, by first | rfl | (simp [errW_none, errW_some] <;> rfl) | (simp [*, errW_none, errW_some] <;> rfl), by (with_reducible repeat (first | apply Kd.R_alloc | apply Kd.R_drewN | apply Kd.R_drew)); exact Kd.R_mono HO147.out (fun _ hk => hk.1), (Gtr.bw HB.out), by repeat (first | (with_reducible first | exact HK.out | apply Kept.alloc | apply Kept.drewN | apply Kept.drew) | exact HK.out)⟩
end Go.Proofs.YthalkpflbbpniaaGreatDoor.Q

/- Nodes that come from nodes: the reference's search, the program's, and what both say. Plain Lean. -/
namespace Go.Proofs.YthalkpflbbpniaaGreatDoor.Q
open Go.RowKit Go.Proofs.YthalkpflbbpniaaGreatDoorW.PrintWords Go.Proofs.YthalkpflbbpniaaGreatDoorW.PrintLast Go.Proofs.YthalkpflbbpniaaGreatDoorW.PrintMore
attribute [local go_sem] max2_int min2_int max_two min_two max_three min_three max_four min_four   -- for this text's walks alone
set_option linter.unusedVariables false
set_option linter.unusedSimpArgs false

def putM (n : Int) : List Int → List Int
  | [] => [n]
  | a :: l => if a < n then a :: putM n l else if a = n then a :: l else n :: a :: l
theorem putM_mem (n x : Int) : ∀ l, x ∈ putM n l ↔ x = n ∨ x ∈ l
  | [] => by simp [putM]
  | a :: l => by
    have ih := putM_mem n x l
    unfold putM
    split
    · rw [List.mem_cons, ih, List.mem_cons]
      constructor
      · rintro (h | h | h)
        · exact .inr (.inl h)
        · exact .inl h
        · exact .inr (.inr h)
      · rintro (h | h | h)
        · exact .inr (.inl h)
        · exact .inl h
        · exact .inr (.inr h)
    · split
      · rename_i _ h2
        subst h2
        rw [List.mem_cons]
        constructor
        · intro h; exact .inr h
        · rintro (h | h)
          · exact .inl h
          · exact h
      · rw [List.mem_cons]
theorem putM_sorted (n : Int) : ∀ l : List Int, l.Pairwise (· < ·) → (putM n l).Pairwise (· < ·)
  | [], _ => by simp [putM]
  | a :: l, h => by
    obtain ⟨h1, h2⟩ := List.pairwise_cons.mp h
    unfold putM
    split
    · rename_i hc
      rw [List.pairwise_cons]
      refine ⟨fun x hx => ?_, putM_sorted n l h2⟩
      rcases (putM_mem n x l).mp hx with rfl | hx
      · exact hc
      · exact h1 x hx
    · split
      · exact h
      · rename_i hc he
        have hna : n < a := by omega
        rw [List.pairwise_cons]
        refine ⟨fun x hx => ?_, h⟩
        rcases List.mem_cons.mp hx with rfl | hx
        · exact hna
        · have := h1 x hx; omega
/-- What comes from a node. -/
inductive From (sc : Int → List Int) (a : Int) : Int → Prop where
  | self : From sc a a
  | step {b c : Int} : From sc a b → c ∈ sc b → From sc a c
theorem From.head {sc : Int → List Int} {a b c : Int} (h : b ∈ sc a) (k : From sc b c) : From sc a c := by
  induction k with
  | self => exact .step .self h
  | step _ hc ih => exact .step ih hc
theorem From.trans {sc : Int → List Int} {a b c : Int} (h : From sc a b) (k : From sc b c) : From sc a c := by
  induction k with
  | self => exact h
  | step _ hc ih => exact .step ih hc
/-- Met one by one, what is met already left out. -/
def dfs (sc : Int → List Int) : Nat → Int → List Int → Option (List Int)
  | 0, _, _ => none
  | d + 1, x, met => if x ∈ met then some met else (sc x).foldlM (fun m y => dfs sc d y m) (putM x met)
structure MetOk (sc : Int → List Int) (xs : List Int) (met out : List Int) : Prop where
  old : ∀ y, y ∈ met → y ∈ out
  top : ∀ x, x ∈ xs → x ∈ out
  sound : ∀ y, y ∈ out → y ∈ met ∨ ∃ x, x ∈ xs ∧ From sc x y
  closed : ∀ y, y ∈ out → y ∈ met ∨ ∀ z, z ∈ sc y → z ∈ out
  sorted : met.Pairwise (· < ·) → out.Pairwise (· < ·)
/-- The nodes that are not met yet. -/
def left (all met : List Int) : Nat := (all.filter (fun y => !met.contains y)).length
theorem left_le {all a b : List Int} (h : ∀ y, y ∈ a → y ∈ b) : left all b ≤ left all a := by
  unfold left
  induction all with
  | nil => simp
  | cons z r ih =>
    rw [List.filter_cons, List.filter_cons]
    by_cases hb : z ∈ b
    · have e : (!b.contains z) = false := by simp [hb]
      rw [e]
      by_cases ha : z ∈ a
      · have e2 : (!a.contains z) = false := by simp [ha]
        rw [e2]; simpa using ih
      · have e2 : (!a.contains z) = true := by simp [ha]
        rw [e2, if_neg (by simp), if_pos rfl, List.length_cons]; exact Nat.le_succ_of_le ih
    · have ha : z ∉ a := fun h' => hb (h z h')
      have e : (!b.contains z) = true := by simp [hb]
      have e2 : (!a.contains z) = true := by simp [ha]
      rw [e, e2]; simpa using ih
theorem left_put {all met : List Int} {x : Int} (hx : x ∈ all) (hm : x ∉ met) : left all (putM x met) < left all met := by
  unfold left
  induction all with
  | nil => exact absurd hx (by simp)
  | cons z r ih =>
    rw [List.filter_cons, List.filter_cons]
    have hle : (r.filter (fun y => !(putM x met).contains y)).length ≤ (r.filter (fun y => !met.contains y)).length := left_le (fun y hy => (putM_mem x y met).mpr (.inr hy))
    by_cases hz : z = x
    · subst hz
      have e : (!(putM z met).contains z) = false := by simp [putM_mem]
      have e2 : (!met.contains z) = true := by simp [hm]
      rw [e, e2, if_neg (by simp), if_pos rfl, List.length_cons]; exact Nat.lt_succ_of_le hle
    · have hxr : x ∈ r := by
        rcases List.mem_cons.mp hx with h | h
        · exact absurd h.symm hz
        · exact h
      have ih := ih hxr
      have e : (!(putM x met).contains z) = (!met.contains z) := by
        congr 1
        rw [Bool.eq_iff_iff, List.contains_iff_mem, List.contains_iff_mem, putM_mem]
        simp [hz]
      rw [e]
      by_cases h : (!met.contains z) = true
      · rw [if_pos h, if_pos h, List.length_cons, List.length_cons]; exact Nat.succ_lt_succ ih
      · rw [if_neg h, if_neg h]; exact ih
theorem MetOk.nil (sc : Int → List Int) (met : List Int) : MetOk sc [] met met :=
  ⟨fun _ h => h, fun _ h => absurd h (by simp), fun _ h => .inl h, fun _ h => .inl h, fun h => h⟩
theorem MetOk.cons {sc : Int → List Int} {x : Int} {xs met m1 out : List Int} (h : MetOk sc [x] met m1) (k : MetOk sc xs m1 out) : MetOk sc (x :: xs) met out := by
  refine ⟨fun y hy => k.old y (h.old y hy), fun y hy => ?_, fun y hy => ?_, fun y hy => ?_, fun hs => k.sorted (h.sorted hs)⟩
  · rcases List.mem_cons.mp hy with rfl | hy
    · exact k.old _ (h.top _ (by simp))
    · exact k.top y hy
  · rcases k.sound y hy with h1 | ⟨x', hx', hf⟩
    · rcases h.sound y h1 with h2 | ⟨x', hx', hf⟩
      · exact .inl h2
      · exact .inr ⟨x', by simp at hx'; simp [hx'], hf⟩
    · exact .inr ⟨x', List.mem_cons_of_mem _ hx', hf⟩
  · rcases k.closed y hy with h1 | h1
    · rcases h.closed y h1 with h2 | h2
      · exact .inl h2
      · exact .inr (fun z hz => k.old z (h2 z hz))
    · exact .inr h1
/-- With rounds enough it comes to an end, and what it comes to. -/
theorem dfs_ok (sc : Int → List Int) (all : List Int) (hall : ∀ x, x ∈ all → ∀ y, y ∈ sc x → y ∈ all) : ∀ (d : Nat) (x : Int) (met : List Int), x ∈ all → left all met < d →
    ∃ out, dfs sc d x met = some out ∧ MetOk sc [x] met out
  | 0, _, _, _, h => absurd h (Nat.not_lt_zero _)
  | d + 1, x, met, hx, hd => by
    unfold dfs
    by_cases hm : x ∈ met
    · rw [if_pos hm]
      exact ⟨met, rfl, fun _ h => h, fun y hy => by simp at hy; rw [hy]; exact hm, fun _ h => .inl h, fun _ h => .inl h, fun h => h⟩
    · rw [if_neg hm]
      have hlt := left_put hx hm
      have key : ∀ (ys m : List Int), (∀ y, y ∈ ys → y ∈ all) → left all m < d → ∃ out, ys.foldlM (fun m y => dfs sc d y m) m = some out ∧ MetOk sc ys m out := by
        intro ys
        induction ys with
        | nil => intro m _ _; exact ⟨m, rfl, MetOk.nil sc m⟩
        | cons y r ih =>
          intro m hy hl
          obtain ⟨m1, h1, k1⟩ := dfs_ok sc all hall d y m (hy y (by simp)) hl
          obtain ⟨out, h2, k2⟩ := ih m1 (fun z hz => hy z (List.mem_cons_of_mem _ hz)) (Nat.lt_of_le_of_lt (left_le k1.old) hl)
          exact ⟨out, by rw [List.foldlM_cons, h1]; exact h2, k1.cons k2⟩
      obtain ⟨out, h1, k⟩ := key (sc x) (putM x met) (hall x hx) (by omega)
      refine ⟨out, h1, fun y hy => k.old y ((putM_mem x y met).mpr (.inr hy)), fun y hy => by simp at hy; rw [hy]; exact k.old x ((putM_mem x x met).mpr (.inl rfl)), fun y hy => ?_, fun y hy => ?_, fun hs => k.sorted (putM_sorted x met hs)⟩
      · rcases k.sound y hy with h2 | ⟨z, hz, hf⟩
        · rcases (putM_mem x y met).mp h2 with rfl | h3
          · exact .inr ⟨y, by simp, .self⟩
          · exact .inl h3
        · exact .inr ⟨x, by simp, From.head hz hf⟩
      · rcases k.closed y hy with h2 | h2
        · rcases (putM_mem x y met).mp h2 with rfl | h3
          · exact .inr (fun z hz => k.top z hz)
          · exact .inl h3
        · exact .inr h2
/-- From nothing met: just what comes from the node, in order. -/
theorem dfs_from (sc : Int → List Int) (all : List Int) (hall : ∀ x, x ∈ all → ∀ y, y ∈ sc x → y ∈ all) (x : Int) (hx : x ∈ all) (d : Nat) (hd : all.length < d) :
    ∃ out, dfs sc d x [] = some out ∧ out.Pairwise (· < ·) ∧ ∀ y, y ∈ out ↔ From sc x y := by
  have hl : left all [] ≤ all.length := by unfold left; exact List.length_filter_le _ _
  obtain ⟨out, h1, k⟩ := dfs_ok sc all hall d x [] hx (by omega)
  refine ⟨out, h1, k.sorted List.Pairwise.nil, fun y => ⟨fun hy => ?_, fun hf => ?_⟩⟩
  · rcases k.sound y hy with h2 | ⟨z, hz, hf⟩
    · exact absurd h2 (by simp)
    · simp at hz; rw [hz] at hf; exact hf
  · induction hf with
    | self => exact k.top x (by simp)
    | step _ hc ih =>
      rcases k.closed _ ih with h2 | h2
      · exact absurd h2 (by simp)
      · exact h2 _ hc
theorem dfs_spec (sc : Int → List Int) : ∀ (d : Nat) (x : Int) (met out : List Int), dfs sc d x met = some out → MetOk sc [x] met out
  | 0, _, _, _, h => by simp [dfs] at h
  | d + 1, x, met, out, h => by
    unfold dfs at h
    by_cases hm : x ∈ met
    · rw [if_pos hm] at h
      injection h with h
      subst h
      exact ⟨fun _ h => h, fun y hy => by simp at hy; rw [hy]; exact hm, fun _ h => .inl h, fun _ h => .inl h, fun h => h⟩
    · rw [if_neg hm] at h
      have key : ∀ (ys m out : List Int), ys.foldlM (fun m y => dfs sc d y m) m = some out → MetOk sc ys m out := by
        intro ys
        induction ys with
        | nil => intro m out h; injection h with h; subst h; exact MetOk.nil sc m
        | cons y r ih =>
          intro m out h
          rw [List.foldlM_cons] at h
          cases h1 : dfs sc d y m with
          | none => rw [h1] at h; cases h
          | some m1 => rw [h1] at h; exact (dfs_spec sc d y m m1 h1).cons (ih m1 out h)
      have k := key (sc x) (putM x met) out h
      refine ⟨fun y hy => k.old y ((putM_mem x y met).mpr (.inr hy)), fun y hy => by simp at hy; rw [hy]; exact k.old x ((putM_mem x x met).mpr (.inl rfl)), fun y hy => ?_, fun y hy => ?_, fun hs => k.sorted (putM_sorted x met hs)⟩
      · rcases k.sound y hy with h2 | ⟨z, hz, hf⟩
        · rcases (putM_mem x y met).mp h2 with rfl | h3
          · exact .inr ⟨y, by simp, .self⟩
          · exact .inl h3
        · exact .inr ⟨x, by simp, From.head hz hf⟩
      · rcases k.closed y hy with h2 | h2
        · rcases (putM_mem x y met).mp h2 with rfl | h3
          · exact .inr (fun z hz => k.top z hz)
          · exact .inl h3
        · exact .inr h2
/-- What is met: in order, of the nodes that there are. -/
structure MetIn (all met : List Int) : Prop where
  sorted : met.Pairwise (· < ·)
  sub : ∀ y, y ∈ met → y ∈ all
theorem MetIn.nodup {all met : List Int} (h : MetIn all met) : met.Nodup := h.sorted.imp (fun hab e => by subst e; exact absurd hab (Int.lt_irrefl _))
theorem MetIn.out {sc : Int → List Int} {all xs met out : List Int} (hall : ∀ x, x ∈ all → ∀ y, y ∈ sc x → y ∈ all) (hx : ∀ x, x ∈ xs → x ∈ all) (h : MetIn all met) (k : MetOk sc xs met out) : MetIn all out := by
  refine ⟨k.sorted h.sorted, fun y hy => ?_⟩
  rcases k.sound y hy with h1 | ⟨x, hx1, hf⟩
  · exact h.sub y h1
  · have hxa := hx x hx1
    clear hx1 hy
    induction hf with
    | self => exact hxa
    | step _ hc ih => exact hall _ ih _ hc
theorem MetIn.put {all met : List Int} (h : MetIn all met) {x : Int} (hx : x ∈ all) : MetIn all (putM x met) := by
  refine ⟨putM_sorted x met h.sorted, fun y hy => ?_⟩
  rcases (putM_mem x y met).mp hy with rfl | h1
  · exact hx
  · exact h.sub y h1
theorem sum_erase (f : Int → Nat) : ∀ (l : List Int) (x : Int), x ∈ l → (l.map f).sum = f x + ((l.erase x).map f).sum
  | [], x, h => absurd h (by simp)
  | a :: l, x, h => by
    by_cases ha : a = x
    · subst ha; simp
    · have hx : x ∈ l := by
        rcases List.mem_cons.mp h with h | h
        · exact absurd h.symm ha
        · exact h
      rw [List.erase_cons_tail (by simpa using ha), List.map_cons, List.sum_cons, List.map_cons, List.sum_cons, sum_erase f l x hx]; omega
theorem sum_sub (f : Int → Nat) : ∀ (l all : List Int), l.Nodup → (∀ x, x ∈ l → x ∈ all) → (l.map f).sum ≤ (all.map f).sum
  | [], all, _, _ => by simp
  | x :: l, all, hn, hs => by
    obtain ⟨h1, h2⟩ := List.nodup_cons.mp hn
    have ih := sum_sub f l (all.erase x) h2 (fun y hy => by
      have hy2 := hs y (List.mem_cons_of_mem _ hy)
      exact (List.mem_erase_of_ne (by intro e; subst e; exact h1 hy)).mpr hy2)
    rw [sum_erase f all x (hs x (by simp)), List.map_cons, List.sum_cons]
    omega
theorem count_flat (sc : Int → List Int) (y : Int) : ∀ l : List Int, (l.flatMap sc).count y = (l.map (fun x => (sc x).count y)).sum
  | [] => rfl
  | x :: l => by rw [List.flatMap_cons, List.count_append, count_flat sc y l, List.map_cons, List.sum_cons]
theorem nodup_len : ∀ (l all : List Int), l.Nodup → (∀ x, x ∈ l → x ∈ all) → l.length ≤ all.length := fun l all h1 h2 => by
  have := sum_sub (fun _ => 1) l all h1 h2
  have e : ∀ l : List Int, (l.map (fun _ => 1)).sum = l.length := fun l => by
    induction l with
    | nil => rfl
    | cons a l ih => rw [List.map_cons, List.sum_cons, ih, List.length_cons]; omega
  rw [e, e] at this; exact this
/-- The queue of directories at its k-th one, of whose entries pre have been looked at. -/
structure Bfs (sc : Int → List Int) (dir : Int → Bool) (all : List Int) (Q : List Int) (k : Nat) (pre : List Int) : Prop where
  zero : (0 : Int) ∈ Q
  from_ : ∀ y, y ∈ Q → From sc 0 y ∧ dir y = true ∧ y ∈ all
  closed : ∀ x, x ∈ Q.take k → ∀ z, z ∈ sc x → dir z = true → z ∈ Q
  clp : ∀ z, z ∈ pre → dir z = true → z ∈ Q
  cnt : ∀ y, Q.count y ≤ (if y = 0 then 1 else 0) + ((Q.take k).flatMap sc ++ pre).count y
  nodup : Q.Nodup
theorem Bfs.start (sc : Int → List Int) (dir : Int → Bool) (all : List Int) (h0 : dir 0 = true) (ha : (0 : Int) ∈ all) : Bfs sc dir all [0] 0 [] := by
  refine ⟨by simp, fun y hy => ?_, fun x hx => by simp at hx, fun z hz => by simp at hz, fun y => ?_, by simp⟩
  · simp at hy; subst hy; exact ⟨.self, h0, ha⟩
  · simp only [List.count_cons, List.count_nil, List.take_zero, List.flatMap_nil, List.nil_append]
    by_cases hy : y = 0
    · subst hy; simp
    · rw [if_neg hy]
      have : ((0 : Int) == y) = false := by simpa using Ne.symm hy
      simp [this]
section
variable {sc : Int → List Int} {dir : Int → Bool} {all Q : List Int} {k : Nat} {pre post : List Int} {x z : Int}
/-- An entry whose node is no directory, or met. -/
theorem Bfs.skip (h : Bfs sc dir all Q k pre) (hz : dir z = false ∨ z ∈ Q) : Bfs sc dir all Q k (pre ++ [z]) := by
  refine ⟨h.zero, h.from_, h.closed, fun y hy hd => ?_, fun y => ?_, h.nodup⟩
  · rcases List.mem_append.mp hy with h1 | h1
    · exact h.clp y h1 hd
    · simp at h1; subst h1
      rcases hz with h2 | h2
      · rw [hd] at h2; cases h2
      · exact h2
  · have := h.cnt y
    rw [← List.append_assoc, List.count_append]; omega
theorem Bfs.total (h : Bfs sc dir all Q k pre) (hx : Q[k]? = some x) (hs : sc x = pre ++ post) (y : Int) : ((Q.take k).flatMap sc ++ (pre ++ post)).count y ≤ (all.flatMap sc).count y := by
  have e : (Q.take k).flatMap sc ++ (pre ++ post) = (Q.take (k + 1)).flatMap sc := by
    obtain ⟨hk, hxe⟩ := List.getElem?_eq_some_iff.mp hx
    rw [List.take_succ_eq_append_getElem hk, List.flatMap_append, hxe]; simp [hs]
  rw [e, count_flat, count_flat]
  exact sum_sub _ _ _ (h.nodup.sublist (List.take_sublist _ _)) (fun w hw => (h.from_ w (List.mem_of_mem_take hw)).2.2)
/-- A directory that is not met. -/
theorem Bfs.push (h : Bfs sc dir all Q k pre) (hx : Q[k]? = some x) (hs : sc x = pre ++ z :: post) (hd : dir z = true) (ha : z ∈ all) (hc : (all.flatMap sc).count z ≤ if z = 0 then 0 else 1) : Bfs sc dir all (Q ++ [z]) k (pre ++ [z]) := by
  obtain ⟨hk, hxe⟩ := List.getElem?_eq_some_iff.mp hx
  have htk : (Q ++ [z]).take k = Q.take k := List.take_append_of_le_length (by omega)
  have hnot : z ∉ Q := by
    intro hz
    have h1 := h.cnt z
    have h2 := List.count_pos_iff.mpr hz
    have h3 := h.total hx hs z
    rw [← List.append_assoc, List.count_append, List.count_cons, beq_self_eq_true, if_pos rfl] at h3
    by_cases h0 : z = 0
    · rw [if_pos h0] at hc; omega
    · rw [if_neg h0] at hc h1; omega
  refine ⟨by simp [h.zero], fun y hy => ?_, fun w hw y hy hdy => ?_, fun y hy hdy => ?_, fun y => ?_, ?_⟩
  · rcases List.mem_append.mp hy with h1 | h1
    · exact h.from_ y h1
    · simp at h1; subst h1
      have hxq : x ∈ Q := hxe ▸ List.getElem_mem hk
      exact ⟨.step (h.from_ x hxq).1 (by rw [hs]; simp), hd, ha⟩
  · rw [htk] at hw
    exact List.mem_append_left _ (h.closed w hw y hy hdy)
  · rcases List.mem_append.mp hy with h1 | h1
    · exact List.mem_append_left _ (h.clp y h1 hdy)
    · exact List.mem_append_right _ h1
  · rw [htk, List.count_append, ← List.append_assoc, List.count_append (l₁ := _ ++ pre)]
    have := h.cnt y; omega
  · rw [List.nodup_append]
    exact ⟨h.nodup, by simp, fun a ha2 b hb => by simp at hb; subst hb; intro e; subst e; exact hnot ha2⟩
/-- All entries of the k-th one have been looked at. -/
theorem Bfs.next (h : Bfs sc dir all Q k (sc x)) (hx : Q[k]? = some x) : Bfs sc dir all Q (k + 1) [] := by
  obtain ⟨hk, hxe⟩ := List.getElem?_eq_some_iff.mp hx
  have e : Q.take (k + 1) = Q.take k ++ [x] := by rw [List.take_succ_eq_append_getElem hk, hxe]
  refine ⟨h.zero, h.from_, fun w hw y hy hd => ?_, fun _ hz => by simp at hz, fun y => ?_, h.nodup⟩
  · rw [e] at hw
    rcases List.mem_append.mp hw with h1 | h1
    · exact h.closed w h1 y hy hd
    · simp at h1; subst h1; exact h.clp y hy hd
  · have := h.cnt y
    rw [e, List.flatMap_append]; simpa using this
theorem Bfs.len (h : Bfs sc dir all Q k pre) : Q.length ≤ all.length := nodup_len _ _ h.nodup (fun y hy => (h.from_ y hy).2.2)
/-- At the end: just the directories that come from node 0. -/
theorem Bfs.done (h : Bfs sc dir all Q Q.length []) (hdir : ∀ x, sc x ≠ [] → dir x = true) (y : Int) (hy : dir y = true) : y ∈ Q ↔ From sc 0 y := by
  refine ⟨fun hq => (h.from_ y hq).1, fun hf => ?_⟩
  induction hf with
  | self => exact h.zero
  | step _ hc ih =>
    rename_i b c _
    have hb : dir b = true := hdir b (fun e => by rw [e] at hc; simp at hc)
    exact h.closed b (by rw [List.take_length]; exact ih hb) c hc hy
end
section
variable {sc : Int → List Int} {dir free : Int → Bool} {all : List Int}
theorem From.in_all (hsc : ∀ x, x ∈ all → ∀ y, y ∈ sc x → y ∈ all) {a y : Int} (ha : a ∈ all) (h : From sc a y) : y ∈ all := by
  induction h with
  | self => exact ha
  | step _ hc ih => exact hsc _ ih _ hc
/-- The program's tests of links and directories, and the reference's of links and nodes, are the same. -/
theorem tails_iff (ha0 : (0 : Int) ∈ all) (hsc : ∀ x, x ∈ all → ∀ y, y ∈ sc x → y ∈ all) (hdir : ∀ x, sc x ≠ [] → dir x = true) (hfd : ∀ y, dir y = true → free y = false) (hd0 : dir 0 = true) :
    ((∀ y, y ∈ all → free y = false → if y = 0 then (all.flatMap sc).count y = 0 else 1 ≤ (all.flatMap sc).count y ∧ (dir y = true → (all.flatMap sc).count y ≤ 1)) ∧ ∀ y, y ∈ all → dir y = true → From sc 0 y) ↔
    ∀ y, y ∈ all → (y = 0 → (all.flatMap sc).count y = 0) ∧ (y ≠ 0 → dir y = true → (all.flatMap sc).count y = 1) ∧ (free y = false → From sc 0 y) := by
  constructor
  · rintro ⟨h1, h2⟩ y hy
    refine ⟨fun h => ?_, fun h hd => ?_, fun hf => ?_⟩
    · have := h1 y hy (by rw [h]; exact hfd 0 hd0); rwa [if_pos h] at this
    · have := h1 y hy (hfd y hd)
      rw [if_neg h] at this
      have h3 := this.2 hd
      omega
    · by_cases h : y = 0
      · subst h; exact .self
      · have := h1 y hy hf
        rw [if_neg h] at this
        have hm : y ∈ all.flatMap sc := List.count_pos_iff.mp (by omega)
        obtain ⟨x, hx, hxy⟩ := List.mem_flatMap.mp hm
        exact .step (h2 x hx (hdir x (fun e => by rw [e] at hxy; simp at hxy))) hxy
  · intro h
    refine ⟨fun y hy hf => ?_, fun y hy hd => (h y hy).2.2 (hfd y hd)⟩
    by_cases h0 : y = 0
    · rw [if_pos h0]; exact (h y hy).1 h0
    · rw [if_neg h0]
      have hfr := (h y hy).2.2 hf
      refine ⟨?_, fun hd => by have := (h y hy).2.1 h0 hd; omega⟩
      cases hfr with
      | self => exact absurd rfl h0
      | step hb hc => exact List.count_pos_iff.mpr (List.mem_flatMap.mpr ⟨_, hb.in_all hsc ha0, hc⟩)
end

end Go.Proofs.YthalkpflbbpniaaGreatDoor.Q

/- A region that draws its order, walked operation by operation in the order of its text: one repeat for all that reads or reckons, an arm for each call. -/
namespace Go.Proofs.YthalkpflbbpniaaGreatDoor.Q
open Go.RowKit Go.Proofs.YthalkpflbbpniaaGreatDoorW.PrintWords Go.Proofs.YthalkpflbbpniaaGreatDoorW.PrintLast Go.Proofs.YthalkpflbbpniaaGreatDoorW.PrintMore
attribute [local go_sem] max2_int min2_int max_two min_two max_three min_three max_four min_four   -- for this text's walks alone
set_option linter.unusedVariables false
set_option linter.unusedSimpArgs false

/-- The first k of n operations are done. -/
def pre (n k : Nat) : Array Bool := ((List.range n).map (fun i => decide (i < k))).toArray
section
variable {P : Program} {ops : Array Oper} {Q : Exit → Act → World → Prop} {S : World → Prop} {ds : List Nat} {md : Region.Mode} {T : Bool × List (List Nat × List Nat)} {B : List Nat}
theorem rg_start {id n : Nat} {a : Act} {w : World} (hT : rtab .any ops = T) (hB : waitsOk T.2 B = true) (hm : P.follows .mixedOrders = true) (hn : ops.size = n) (hl : Array.replicate n false = pre n 0) (hS : S w.drew)
    (h : Aside0 (rtab .any ops = T) → Aside0 (waitsOk T.2 B = true) → Aside0 (S w.drew) → wpAnyLast P .any ops Q S [] n (pre n 0) a w.drew) : (Code.region id ops true).wp P Q a w :=
  start_ (ds := []) (pre n 0) hm hn hl hS (fun _ => h ⟨hT⟩ ⟨hB⟩ ⟨hS⟩)
theorem rg_take {k k' n : Nat} {N : Option Tmp} {oi : Oper} {v : Value} {fuel : Nat} {a : Act} {w : World} (hk : k + 1 = k') (hi : ops[k]? = some oi) (hN : oi.dst = N) (hT : Aside0 (rtab md ops = T)) (hB : Aside0 (waitsOk T.2 B = true)) (hc : takeW T B ds (pre n k).toList (pre n k').toList k = true)
    (hQ : ∀ c a w, Q (.panic c) (a.put oi.dst v) w → Q (.panic c) a w) (hy : YieldsIf P ops S oi v a) (hS : Aside0 (S w)) {a' : Act} (ha : a.put N v = a')
    (h : wpAnyLast P md ops Q S ds fuel (pre n k') a' w) : wpAnyLast P md ops Q S ds (fuel + 1) (pre n k) a w := by
  subst hk
  exact take_ (i := k) (pre n (k + 1)) hi hN (take_ofW hT.out hB.out hc) hQ hy hS.out ha h
theorem rg_one {k k' n : Nat} {N : Option Tmp} {oi : Oper} {fuel : Nat} {a : Act} {w : World} (hk : k + 1 = k') (hi : ops[k]? = some oi) (hN : oi.dst = N) (hT : Aside0 (rtab md ops = T)) (hc : (readyT T.2 (pre n k).toList == [k] && (pre n k).toList.set k true == (pre n k').toList) = true) (hd : k ∉ ds)
    (h : ∀ K : Act → World → Prop, Shut (∀ a' w', S w' → (S w' → wpAnyLast P md ops Q S ds fuel (pre n k') a' w') → K a' w') → if Region.wanted oi (yielded ops a.tmps) = true then Oper.wp P oi a w K Q else K (a.put N undef) w) :
    wpAnyLast P md ops Q S ds (fuel + 1) (pre n k) a w := by
  subst hk
  exact one_ (i := k) (pre n (k + 1)) hi hN (one_of hT.out hc) hd h
end

end Go.Proofs.YthalkpflbbpniaaGreatDoor.Q

/- The tree of a good file system, plainly: all ways from a node on, that there are, and how many. -/
namespace Go.Proofs.YthalkpflbbpniaaGreatDoor.Q
open Go.RowKit Go.Proofs.YthalkpflbbpniaaGreatDoorW.PrintWords Go.Proofs.YthalkpflbbpniaaGreatDoorW.PrintLast Go.Proofs.YthalkpflbbpniaaGreatDoorW.PrintMore
attribute [local go_sem] max2_int min2_int max_two min_two max_three min_three max_four min_four   -- for this text's walks alone
set_option linter.unusedVariables false
set_option linter.unusedSimpArgs false

/-- All that comes below, ahead of what is below it. -/
def preL {α : Type} (f : α → Option (List α)) : List α → Option (List α)
  | [] => some []
  | a :: l => (f a).bind fun x => (preL f l).map fun y => x ++ y
def preD {α : Type} (ch : α → List α) : Nat → α → Option (List α)
  | 0, _ => none
  | d + 1, a => (preL (preD ch d) (ch a)).map fun l => a :: l
theorem preL_map {α β : Type} (g : α → β) (f : α → Option (List α)) (f' : β → Option (List β)) (h : ∀ a, f' (g a) = (f a).map (List.map g)) : ∀ l : List α, preL f' (l.map g) = (preL f l).map (List.map g)
  | [] => rfl
  | a :: l => by
    rw [List.map_cons]
    unfold preL
    rw [h, preL_map g f f' h l]
    cases f a with
    | none => rfl
    | some x => cases preL f l with
      | none => rfl
      | some y => simp
theorem preD_map {α β : Type} (g : α → β) (ch : α → List α) (ch' : β → List β) (h : ∀ a, ch' (g a) = (ch a).map g) : ∀ (d : Nat) (a : α), preD ch' d (g a) = (preD ch d a).map (List.map g)
  | 0, _ => rfl
  | d + 1, a => by
    unfold preD
    rw [h, preL_map g (preD ch d) (preD ch' d) (preD_map g ch ch' h d)]
    cases preL (preD ch d) (ch a) with
    | none => rfl
    | some l => simp
theorem preL_some {α : Type} (f : α → Option (List α)) : ∀ l : List α, (∀ a, a ∈ l → ∃ r, f a = some r) → ∃ r, preL f l = some r
  | [], _ => ⟨[], rfl⟩
  | a :: l, h => by
    obtain ⟨x, hx⟩ := h a (by simp)
    obtain ⟨y, hy⟩ := preL_some f l (fun b hb => h b (List.mem_cons_of_mem _ hb))
    exact ⟨x ++ y, by unfold preL; rw [hx, hy]; rfl⟩
/-- One weight for each: that of all is that of the first, and of all that is just below them. -/
theorem preL_sum {α : Type} (ch : α → List α) (w : α → Nat) (f : α → Option (List α)) (h : ∀ a r, f a = some r → (r.map w).sum = w a + (r.map (fun v => ((ch v).map w).sum)).sum) : ∀ (l : List α) (r : List α), preL f l = some r → (r.map w).sum = (l.map w).sum + (r.map (fun v => ((ch v).map w).sum)).sum
  | [], r, e => by unfold preL at e; injection e with e; subst e; rfl
  | a :: l, r, e => by
    unfold preL at e
    cases hx : f a with
    | none => rw [hx] at e; cases e
    | some x =>
      rw [hx] at e
      cases hy : preL f l with
      | none => rw [hy] at e; cases e
      | some y =>
        rw [hy] at e
        injection e with e
        subst e
        have h1 := h a x hx
        have h2 := preL_sum ch w f h l y hy
        show ((x ++ y).map w).sum = ((a :: l).map w).sum + ((x ++ y).map _).sum
        rw [List.map_append, List.map_append, List.sum_append, List.sum_append, List.map_cons, List.sum_cons]
        omega
theorem preD_sum {α : Type} (ch : α → List α) (w : α → Nat) : ∀ (d : Nat) (a : α) (r : List α), preD ch d a = some r → (r.map w).sum = w a + (r.map (fun v => ((ch v).map w).sum)).sum
  | 0, _, _, e => by cases e
  | d + 1, a, r, e => by
    unfold preD at e
    cases hy : preL (preD ch d) (ch a) with
    | none => rw [hy] at e; cases e
    | some y =>
      rw [hy] at e
      injection e with e
      subst e
      have h2 := preL_sum ch w (preD ch d) (preD_sum ch w d) (ch a) y hy
      show ((a :: y).map w).sum = w a + ((a :: y).map _).sum
      rw [List.map_cons, List.map_cons, List.sum_cons, List.sum_cons]
      omega
theorem preD_head {α : Type} (ch : α → List α) (d : Nat) (a : α) (r : List α) (e : preD ch d a = some r) : a ∈ r := by
  cases d with
  | zero => cases e
  | succ d =>
    unfold preD at e
    cases hy : preL (preD ch d) (ch a) with
    | none => rw [hy] at e; cases e
    | some y => rw [hy] at e; injection e with e; subst e; simp
theorem preL_from {α : Type} (f : α → Option (List α)) (R : α → α → Prop) (h : ∀ a r, f a = some r → ∀ y, y ∈ r → R a y) : ∀ (l r : List α), preL f l = some r → ∀ y, y ∈ r → ∃ a, a ∈ l ∧ R a y
  | [], r, e, y, hy => by unfold preL at e; injection e with e; subst e; exact absurd hy (by simp)
  | a :: l, r, e, y, hy => by
    unfold preL at e
    cases hx : f a with
    | none => rw [hx] at e; cases e
    | some x =>
      rw [hx] at e
      cases hz : preL f l with
      | none => rw [hz] at e; cases e
      | some z =>
        rw [hz] at e
        injection e with e
        subst e
        rcases List.mem_append.mp hy with h1 | h1
        · exact ⟨a, by simp, h a x hx y h1⟩
        · obtain ⟨b, hb, hr⟩ := preL_from f R h l z hz y h1
          exact ⟨b, List.mem_cons_of_mem _ hb, hr⟩
theorem preD_from (sc : Int → List Int) : ∀ (d : Nat) (a : Int) (r : List Int), preD sc d a = some r → ∀ y, y ∈ r → From sc a y
  | 0, _, _, e => by cases e
  | d + 1, a, r, e => by
    intro y hy
    unfold preD at e
    cases hz : preL (preD sc d) (sc a) with
    | none => rw [hz] at e; cases e
    | some z =>
      rw [hz] at e
      injection e with e
      subst e
      rcases List.mem_cons.mp hy with rfl | h1
      · exact .self
      · obtain ⟨b, hb, hf⟩ := preL_from (preD sc d) (From sc) (preD_from sc d) (sc a) z hz y h1
        exact From.head hb hf
/-- All that comes from the node is there, and nothing else. -/
theorem preD_mem (sc : Int → List Int) (d : Nat) (a : Int) (r : List Int) (e : preD sc d a = some r) (y : Int) : y ∈ r ↔ From sc a y := by
  refine ⟨preD_from sc d a r e y, fun hf => ?_⟩
  induction hf with
  | self => exact preD_head sc d a r e
  | step _ hc ih =>
    rename_i b c _
    have hs := preD_sum sc (fun v => if v = c then 1 else 0) d a r e
    have h1 : 1 ≤ ((sc b).map (fun v => if v = c then 1 else 0)).sum := by
      have := sum_erase (fun v => if v = c then 1 else 0) (sc b) c hc
      rw [this, if_pos rfl]; omega
    have h2 := sum_erase (fun v => ((sc v).map (fun v => if v = c then 1 else 0)).sum) r b ih
    have h3 : 1 ≤ (r.map (fun v => if v = c then 1 else 0)).sum := by omega
    apply Classical.byContradiction
    intro hn
    have : ∀ l : List Int, c ∉ l → (l.map (fun v => if v = c then 1 else 0)).sum = 0 := by
      intro l
      induction l with
      | nil => intro _; rfl
      | cons q l ih =>
        intro hq
        rw [List.map_cons, List.sum_cons, if_neg (fun h => hq (by simp [h])), ih (fun h => hq (List.mem_cons_of_mem _ h))]
    rw [this r hn] at h3
    omega
/-- At a depth below node 0. -/
def AtD (sc : Int → List Int) : Nat → Int → Prop
  | 0, y => y = 0
  | k + 1, y => ∃ b, AtD sc k b ∧ y ∈ sc b
structure TreeOk (sc : Int → List Int) (dir : Int → Bool) (all : List Int) : Prop where
  zero : (0 : Int) ∈ all
  dzero : dir 0 = true
  sub : ∀ x, x ∈ all → ∀ y, y ∈ sc x → y ∈ all
  dirs : ∀ x, sc x ≠ [] → dir x = true
  top : (all.flatMap sc).count 0 = 0
  one : ∀ y, y ∈ all → dir y = true → (all.flatMap sc).count y ≤ 1
  met : ∀ y, y ∈ all → dir y = true → From sc 0 y
section
variable {sc : Int → List Int} {dir : Int → Bool} {all : List Int}
theorem TreeOk.parent (h : TreeOk sc dir all) {y b c : Int} (hy : dir y = true) (hb : b ∈ all) (hc : c ∈ all) (h1 : y ∈ sc b) (h2 : y ∈ sc c) : b = c := by
  apply Classical.byContradiction
  intro hne
  have k := h.one y (h.sub b hb y h1) hy
  rw [count_flat, sum_erase (fun x => (sc x).count y) all b hb, sum_erase (fun x => (sc x).count y) (all.erase b) c ((List.mem_erase_of_ne (Ne.symm hne)).mpr hc)] at k
  have k1 := List.count_pos_iff.mpr h1
  have k2 := List.count_pos_iff.mpr h2
  omega
theorem TreeOk.notop (h : TreeOk sc dir all) {b : Int} (hb : b ∈ all) (h1 : (0 : Int) ∈ sc b) : False := by
  have k := h.top
  rw [count_flat, sum_erase (fun x => (sc x).count 0) all b hb] at k
  have k1 := List.count_pos_iff.mpr h1
  omega
theorem TreeOk.at_all (h : TreeOk sc dir all) : ∀ (k : Nat) (y : Int), AtD sc k y → y ∈ all
  | 0, y, e => by cases e; exact h.zero
  | k + 1, y, ⟨b, hb, hy⟩ => h.sub b (h.at_all k b hb) y hy
theorem TreeOk.at_dir (h : TreeOk sc dir all) {k : Nat} {y b : Int} (_ : AtD sc k b) (hy : y ∈ sc b) : dir b = true := h.dirs b (fun e => by rw [e] at hy; simp at hy)
theorem AtD.of_from {y : Int} (hf : From sc 0 y) : ∃ k, AtD sc k y := by
  induction hf with
  | self => exact ⟨0, rfl⟩
  | step _ hc ih => obtain ⟨k, hk⟩ := ih; exact ⟨k + 1, _, hk, hc⟩
theorem TreeOk.at_one (h : TreeOk sc dir all) : ∀ (k m : Nat) (y : Int), dir y = true → AtD sc k y → AtD sc m y → k = m
  | 0, 0, _, _, _, _ => rfl
  | 0, m + 1, y, _, e, ⟨b, hb, hy⟩ => by cases e; exact (h.notop (h.at_all m b hb) hy).elim
  | k + 1, 0, y, _, ⟨b, hb, hy⟩, e => by cases e; exact (h.notop (h.at_all k b hb) hy).elim
  | k + 1, m + 1, y, hd, ⟨b, hb, hy⟩, ⟨c, hc, hz⟩ => by
    have e := h.parent hd (h.at_all k b hb) (h.at_all m c hc) hy hz
    subst e
    rw [h.at_one k m b (h.at_dir hb hy) hb hc]
/-- The way from node 0 to a node: all different. -/
theorem TreeOk.chain (h : TreeOk sc dir all) : ∀ (k : Nat) (y : Int), dir y = true → AtD sc k y → ∃ l : List Int, l.length = k + 1 ∧ l.Nodup ∧ (∀ x, x ∈ l → x ∈ all ∧ ∃ j, j ≤ k ∧ AtD sc j x ∧ dir x = true)
  | 0, y, hd, e => ⟨[y], rfl, by simp, fun x hx => by simp at hx; subst hx; exact ⟨h.at_all 0 x e, 0, Nat.le_refl _, e, hd⟩⟩
  | k + 1, y, hd, ⟨b, hb, hy⟩ => by
    obtain ⟨l, h1, h2, h3⟩ := h.chain k b (h.at_dir hb hy) hb
    refine ⟨y :: l, by simp [h1], ?_, fun x hx => ?_⟩
    · rw [List.nodup_cons]
      refine ⟨fun hm => ?_, h2⟩
      obtain ⟨-, j, hj, ha, -⟩ := h3 y hm
      have := h.at_one j (k + 1) y hd ha ⟨b, hb, hy⟩
      omega
    · rcases List.mem_cons.mp hx with rfl | hx
      · exact ⟨h.at_all (k + 1) x ⟨b, hb, hy⟩, k + 1, Nat.le_refl _, ⟨b, hb, hy⟩, hd⟩
      · obtain ⟨a1, j, hj, a2, a3⟩ := h3 x hx
        exact ⟨a1, j, by omega, a2, a3⟩
theorem TreeOk.depth (h : TreeOk sc dir all) {k : Nat} {y : Int} (hd : dir y = true) (ha : AtD sc k y) : k < all.length := by
  obtain ⟨l, h1, h2, h3⟩ := h.chain k y hd ha
  have := nodup_len l all h2 (fun x hx => (h3 x hx).1)
  omega
theorem TreeOk.pre_some (h : TreeOk sc dir all) : ∀ (d k : Nat) (y : Int), AtD sc k y → all.length < k + d → ∃ r, preD sc d y = some r
  | 0, k, y, ha, hk => by
    cases k with
    | zero => have := List.length_pos_of_mem h.zero; omega
    | succ k =>
      obtain ⟨b, hb, hy⟩ := ha
      have := h.depth (h.at_dir hb hy) hb
      omega
  | d + 1, k, y, ha, hk => by
    obtain ⟨l, hl⟩ := preL_some (preD sc d) (sc y) (fun a hy => h.pre_some d (k + 1) a ⟨y, ha, hy⟩ (by omega))
    exact ⟨y :: l, by unfold preD; rw [hl]; rfl⟩
/-- From whatever node: all ways come to an end. -/
theorem TreeOk.pre_ok (h : TreeOk sc dir all) (y : Int) (hy : y ∈ all) : ∃ r, preD sc (all.length + 1) y = some r := by
  by_cases hd : dir y = true
  · obtain ⟨k, hk⟩ := AtD.of_from (h.met y hy hd)
    exact h.pre_some (all.length + 1) k y hk (by omega)
  · have e : sc y = [] := Classical.byContradiction fun he => hd (h.dirs y he)
    exact ⟨[y], by unfold preD; rw [e]; rfl⟩
theorem sum_count (y : Int) : ∀ l : List Int, (l.map (fun v => if v = y then 1 else 0)).sum = l.count y
  | [] => rfl
  | a :: l => by
    rw [List.map_cons, List.sum_cons, sum_count y l, List.count_cons]
    by_cases e : a = y
    · simp [e]; omega
    · simp [e]
/-- A directory comes once at most. -/
theorem TreeOk.pre_count (h : TreeOk sc dir all) {d : Nat} {x : Int} {r : List Int} (hx : x ∈ all) (e : preD sc d x = some r) : ∀ (k : Nat) (y : Int), dir y = true → AtD sc k y → r.count y ≤ 1 := by
  have hall : ∀ v, v ∈ r → v ∈ all := fun v hv => From.in_all h.sub hx ((preD_mem sc d x r e v).mp hv)
  have ident : ∀ y, r.count y = (if x = y then 1 else 0) + (r.map (fun v => (sc v).count y)).sum := by
    intro y
    have := preD_sum sc (fun v => if v = y then 1 else 0) d x r e
    rw [sum_count] at this
    rw [this]
    congr 2
    exact List.map_congr_left (fun v _ => sum_count y (sc v))
  have up : ∀ (y b : Int), dir y = true → b ∈ all → y ∈ sc b → (r.map (fun v => (sc v).count y)).sum ≤ r.count b := by
    intro y b hd hb hy
    have k : ∀ l : List Int, (∀ v, v ∈ l → v ∈ all) → (l.map (fun v => (sc v).count y)).sum ≤ l.count b := by
      intro l
      induction l with
      | nil => intro _; simp
      | cons v l ih =>
        intro hl
        have h1 := ih (fun z hz => hl z (List.mem_cons_of_mem _ hz))
        rw [List.map_cons, List.sum_cons, List.count_cons]
        by_cases hvb : v = b
        · have h2 : (sc v).count y ≤ 1 := by
            have k1 := h.one y (h.sub b hb y hy) hd
            rw [count_flat, sum_erase (fun x => (sc x).count y) all v (hl v (by simp))] at k1
            omega
          have e2 : (v == b) = true := by simpa using hvb
          rw [e2, if_pos rfl]; omega
        · have h2 : (sc v).count y = 0 := by
            rw [List.count_eq_zero]
            intro hm
            exact hvb (h.parent hd (hl v (by simp)) hb hm hy)
          omega
    exact k r hall
  intro k
  induction k with
  | zero =>
    intro y hd ha
    cases ha
    rw [ident 0]
    have hz : (r.map (fun v => (sc v).count 0)).sum = 0 := by
      have : ∀ l : List Int, (∀ v, v ∈ l → v ∈ all) → (l.map (fun v => (sc v).count 0)).sum = 0 := by
        intro l
        induction l with
        | nil => intro _; rfl
        | cons v l ih =>
          intro hl
          rw [List.map_cons, List.sum_cons, ih (fun z hz => hl z (List.mem_cons_of_mem _ hz)), List.count_eq_zero.mpr (fun hm => h.notop (hl v (by simp)) hm)]
      exact this r hall
    rw [hz]
    split <;> omega
  | succ k ih =>
    intro y hd ⟨b, hb, hy⟩
    have hba := h.at_all k b hb
    have hbd := h.at_dir hb hy
    rw [ident y]
    have h1 := up y b hd hba hy
    have h2 := ih b hbd hb
    by_cases hxy : x = y
    · rw [if_pos hxy]
      have hnot : b ∉ r := by
        intro hm
        have hf := (preD_mem sc d x r e b).mp hm
        subst hxy
        have deep : ∀ z, From sc x z → ∃ j, AtD sc (k + 1 + j) z := by
          intro z hz
          induction hz with
          | self => exact ⟨0, b, hb, hy⟩
          | step _ hc ih2 => obtain ⟨j, hj⟩ := ih2; exact ⟨j + 1, _, hj, hc⟩
        obtain ⟨j, hj⟩ := deep b hf
        have := h.at_one k (k + 1 + j) b hbd hb hj
        omega
      rw [List.count_eq_zero.mpr hnot] at h1
      omega
    · rw [if_neg hxy]; omega
/-- There are no more ways than entries, and one. -/
theorem TreeOk.pre_len (h : TreeOk sc dir all) {d : Nat} {x : Int} {r : List Int} (hx : x ∈ all) (e : preD sc d x = some r) : r.length ≤ (all.flatMap sc).length + 1 := by
  have hall : ∀ v, v ∈ r → v ∈ all := fun v hv => From.in_all h.sub hx ((preD_mem sc d x r e v).mp hv)
  have one : ∀ l : List Int, (l.map (fun _ => 1)).sum = l.length := fun l => by
    induction l with
    | nil => rfl
    | cons a l ih => rw [List.map_cons, List.sum_cons, ih, List.length_cons]; omega
  have hs := preD_sum sc (fun _ => 1) d x r e
  rw [one] at hs
  have h1 : (r.map (fun v => ((sc v).map (fun _ => 1)).sum)) = r.map (fun v => (sc v).length) := List.map_congr_left (fun v _ => one (sc v))
  rw [h1] at hs
  have h2 : ∀ l : List Int, (l.map (fun v => (sc v).length)).sum = ((l.filter (fun v => dir v)).map (fun v => (sc v).length)).sum := by
    intro l
    induction l with
    | nil => rfl
    | cons v l ih =>
      rw [List.map_cons, List.sum_cons, ih, List.filter_cons]
      by_cases hd : dir v = true
      · rw [if_pos hd, List.map_cons, List.sum_cons]
      · have e0 : sc v = [] := Classical.byContradiction fun he => hd (h.dirs v he)
        rw [if_neg hd, e0]; simp
  have h3 : (r.filter (fun v => dir v)).Nodup := by
    rw [List.nodup_iff_count]
    intro a
    by_cases hm : a ∈ r.filter (fun v => dir v)
    · obtain ⟨m1, m2⟩ := List.mem_filter.mp hm
      obtain ⟨k, hk⟩ := AtD.of_from (h.met a (hall a m1) m2)
      have := h.pre_count hx e k a m2 hk
      have h4 := List.Sublist.count_le a (List.filter_sublist (p := fun v => dir v) (l := r))
      omega
    · rw [List.count_eq_zero.mpr hm]; omega
  have h5 := sum_sub (fun v => (sc v).length) (r.filter (fun v => dir v)) all h3 (fun v hv => hall v (List.mem_filter.mp hv).1)
  have h6 : ∀ l : List Int, (l.flatMap sc).length = (l.map (fun v => (sc v).length)).sum := by
    intro l
    induction l with
    | nil => rfl
    | cons v l ih => rw [List.flatMap_cons, List.length_append, ih, List.map_cons, List.sum_cons]
  rw [h2 r] at hs
  rw [h6 all]
  omega
end

end Go.Proofs.YthalkpflbbpniaaGreatDoor.Q

-- Printed by a program of this session (wip/tools/myprint.py) that runs the kit's print, hand-proved functions among the others.
namespace Go.Proofs.YthalkpflbbpniaaGreatDoor.Q
open Go.RowKit Go.Proofs.YthalkpflbbpniaaGreatDoorW.PrintWords Go.Proofs.YthalkpflbbpniaaGreatDoorW.PrintLast Go.Proofs.YthalkpflbbpniaaGreatDoorW.PrintMore
attribute [local go_sem] max2_int min2_int max_two min_two max_three min_three max_four min_four   -- for this text's walks alone
set_option linter.unusedVariables false
set_option linter.unusedSimpArgs false

/-! ### impl_below: function 112 -/
def impl_below.f (a0 : ByteArray) (a1 : ByteArray) : Option (ByteArray) := if a0.toList = ([46] : List UInt8) then (some a1) else (if a0.size + 1 ≤ 9223372036854775807 then (if (a0 ++ (⟨#[47]⟩ : ByteArray)).size + a1.size ≤ 9223372036854775807 then (some ((a0 ++ (⟨#[47]⟩ : ByteArray)) ++ a1)) else (none)) else (none))
set_option maxHeartbeats 8000000 in
set_option maxRecDepth 100000 in
theorem impl_below.calls (a0 : ByteArray) (a1 : ByteArray) (r : ByteArray) (w : World) (h : impl_below.f a0 a1 = some r) :
  Calls Tryz.prog 112 #[.string a0, .string a1] w fun e w' => e = .returned (.string r) ∧ Drawn0 w w' := by
 have H : (if a0.toList = ([46] : List UInt8) then (some a1) else (if a0.size + 1 ≤ 9223372036854775807 then (if (a0 ++ (⟨#[47]⟩ : ByteArray)).size + a1.size ≤ 9223372036854775807 then (some ((a0 ++ (⟨#[47]⟩ : ByteArray)) ++ a1)) else (none)) else (none))) = some r := h
 clear h
 by_cases c3 : a0.toList = ([46] : List UInt8)
 ·rw [if_pos c3] at H
  have c3b0 : (a0.toList == ([46] : List UInt8)) = true := beq_iff_eq.mpr c3
  have c3b1 : (a0.toList != ([46] : List UInt8)) = false := bne_eq_false_iff_eq.mpr c3
  clear c3
  obtain rfl := Option.some.inj H
  go_enter Tryz.func112, Tryz.ntmps112
  go_wp2
  go_ret
  exact ⟨by first | rfl | (simp; done) | (simp [*]; done), by repeat (first | exact Drawn0.refl _ | apply Drawn0.step)⟩
 ·rw [if_neg c3] at H
  have c3b0 : (a0.toList == ([46] : List UInt8)) = false := beq_eq_false_iff_ne.mpr c3
  have c3b1 : (a0.toList != ([46] : List UInt8)) = true := bne_iff_ne.mpr c3
  refine Or.elim (Classical.em (a0.size + 1 ≤ 9223372036854775807)) (fun c4 => ?_) (fun c4 => by rw [if_neg c4] at H; exact absurd H (by simp))
  rw [if_pos c4] at H
  have c4b0 := eq_true c4
  have c4b1 : decide (a0.size + 1 ≤ 9223372036854775807) = true := decide_eq_true c4
  try have c4b2 : (9223372036854775807 < a0.size + 1) = False := eq_false (Nat.not_lt.2 c4)
  refine Or.elim (Classical.em ((a0 ++ (⟨#[47]⟩ : ByteArray)).size + a1.size ≤ 9223372036854775807)) (fun c5 => ?_) (fun c5 => by rw [if_neg c5] at H; exact absurd H (by simp))
  rw [if_pos c5] at H
  have c5b0 := eq_true c5
  have c5b1 : decide ((a0 ++ (⟨#[47]⟩ : ByteArray)).size + a1.size ≤ 9223372036854775807) = true := decide_eq_true c5
  try have c5b2 : (9223372036854775807 < (a0 ++ (⟨#[47]⟩ : ByteArray)).size + a1.size) = False := eq_false (Nat.not_lt.2 c5)
  try have c5b5 := c5b0
  try have c5b7 := c5b2
  try simp only [ByteArray.size_append, show (⟨#[47]⟩ : ByteArray).size = 1 from rfl] at c5b5
  try simp only [ByteArray.size_append, show (⟨#[47]⟩ : ByteArray).size = 1 from rfl] at c5b7
  obtain rfl := Option.some.inj H
  go_enter Tryz.func112, Tryz.ntmps112
  go_wp2
  go_ret
  exact ⟨by first | rfl | (simp; done) | (simp [*]; done), by repeat (first | exact Drawn0.refl _ | apply Drawn0.step)⟩
end Go.Proofs.YthalkpflbbpniaaGreatDoor.Q

/- Sorted numbers, made compact: plain. -/
namespace Go.Proofs.YthalkpflbbpniaaGreatDoor.Q
open Go.RowKit Go.Proofs.YthalkpflbbpniaaGreatDoorW.PrintWords Go.Proofs.YthalkpflbbpniaaGreatDoorW.PrintLast Go.Proofs.YthalkpflbbpniaaGreatDoorW.PrintMore
attribute [local go_sem] max2_int min2_int max_two min_two max_three min_three max_four min_four   -- for this text's walks alone
set_option linter.unusedVariables false
set_option linter.unusedSimpArgs false

theorem comp_facts (d : Array Int) (hs : ∀ i j, i ≤ j → j < d.size → d[i]! ≤ d[j]!) : ∀ m, m ≤ d.size → (Lib.compactUpTo d m).Pairwise (· < ·) ∧ (∀ y, y ∈ Lib.compactUpTo d m ↔ ∃ j, j < m ∧ d[j]! = y) := by
  intro m
  induction m with
  | zero => intro _; exact ⟨by simp [Lib.compactUpTo], fun y => by simp [Lib.compactUpTo]⟩
  | succ m ih =>
    intro hm
    obtain ⟨h1, h2⟩ := ih (by omega)
    rw [Lib.compactUpTo_succ]
    by_cases hk : Lib.keeps d m = true
    · rw [if_pos hk]
      have hk2 : m = 0 ∨ d[m]! ≠ d[m - 1]! := by unfold Lib.keeps at hk; simpa using hk
      refine ⟨?_, fun y => ?_⟩
      · rw [List.pairwise_append]
        refine ⟨h1, by simp, fun a ha b hb => ?_⟩
        simp at hb
        subst hb
        obtain ⟨j, hj, rfl⟩ := (h2 a).mp ha
        rcases hk2 with h0 | h0
        · omega
        · have e1 := hs j (m - 1) (by omega) (by omega)
          have e2 := hs (m - 1) m (by omega) (by omega)
          omega
      · rw [List.mem_append, h2 y]
        constructor
        · rintro (⟨j, hj, e⟩ | h)
          · exact ⟨j, by omega, e⟩
          · simp at h; exact ⟨m, by omega, h.symm⟩
        · rintro ⟨j, hj, e⟩
          rcases Nat.lt_succ_iff_lt_or_eq.mp hj with h | rfl
          · exact .inl ⟨j, h, e⟩
          · right; simp [e]
    · rw [if_neg hk, List.append_nil]
      have hk2 : ¬ (m = 0 ∨ d[m]! ≠ d[m - 1]!) := by unfold Lib.keeps at hk; simpa using hk
      have hk3 : 0 < m ∧ d[m]! = d[m - 1]! := by
        constructor
        · rcases Nat.eq_zero_or_pos m with h | h
          · exact absurd (.inl h) hk2
          · exact h
        · exact Classical.byContradiction fun h => hk2 (.inr h)
      refine ⟨h1, fun y => ?_⟩
      rw [h2 y]
      constructor
      · rintro ⟨j, hj, e⟩; exact ⟨j, by omega, e⟩
      · rintro ⟨j, hj, e⟩
        rcases Nat.lt_succ_iff_lt_or_eq.mp hj with h | rfl
        · exact ⟨j, h, e⟩
        · exact ⟨j - 1, by omega, by rw [← hk3.2]; exact e⟩
theorem sorted_unique : ∀ a b : List Int, a.Pairwise (· < ·) → b.Pairwise (· < ·) → (∀ y, y ∈ a ↔ y ∈ b) → a = b
  | [], [], _, _, _ => rfl
  | [], y :: b, _, _, h => absurd ((h y).mpr (by simp)) (by simp)
  | x :: a, [], _, _, h => absurd ((h x).mp (by simp)) (by simp)
  | x :: a, y :: b, ha, hb, h => by
    obtain ⟨a1, a2⟩ := List.pairwise_cons.mp ha
    obtain ⟨b1, b2⟩ := List.pairwise_cons.mp hb
    have hxy : x = y := by
      rcases List.mem_cons.mp ((h x).mp (by simp)) with e | e
      · exact e
      · rcases List.mem_cons.mp ((h y).mpr (by simp)) with e2 | e2
        · exact e2.symm
        · have := b1 x e; have := a1 y e2; omega
    subst hxy
    congr 1
    refine sorted_unique a b a2 b2 (fun z => ⟨fun hz => ?_, fun hz => ?_⟩)
    · rcases List.mem_cons.mp ((h z).mp (List.mem_cons_of_mem _ hz)) with e | e
      · subst e; have := a1 z hz; omega
      · exact e
    · rcases List.mem_cons.mp ((h z).mpr (List.mem_cons_of_mem _ hz)) with e | e
      · subst e; have := b1 z hz; omega
      · exact e
/-- A list, sorted and made compact, is the one list of its members in order. -/
theorem compact_sorted (l out : List Int) (ho : out.Pairwise (· < ·)) (hm : ∀ y, y ∈ out ↔ y ∈ l) : Lib.compact (l.mergeSort fun x y => decide (x ≤ y)) = out := by
  obtain ⟨s, hs⟩ : ∃ s, s = l.mergeSort fun x y => decide (x ≤ y) := ⟨_, rfl⟩
  have hp : s.Pairwise (fun a b => decide (a ≤ b) = true) := by
    rw [hs]
    exact List.pairwise_mergeSort (fun a b c h1 h2 => by simp at *; omega) (fun a b => by simp; omega) l
  have hmem : ∀ y, y ∈ s ↔ y ∈ l := fun y => by rw [hs]; exact List.mem_mergeSort
  rw [← hs]
  unfold Lib.compact
  have hd : ∀ i j, i ≤ j → j < s.toArray.size → s.toArray[i]! ≤ s.toArray[j]! := by
    intro i j hij hj
    have hj' : j < s.length := by simpa using hj
    rw [getElem!_pos s.toArray i (by simp; omega), getElem!_pos s.toArray j hj]
    rcases Nat.lt_or_ge i j with h | h
    · have := List.pairwise_iff_getElem.mp hp i j (by omega) hj' h
      simpa using this
    · have e : i = j := by omega
      subst e; exact Int.le_refl _
  obtain ⟨h1, h2⟩ := comp_facts s.toArray hd s.length (by simp)
  refine sorted_unique _ _ h1 ho (fun y => ?_)
  rw [h2 y, hm y, ← hmem y]
  constructor
  · rintro ⟨j, hj, rfl⟩
    rw [getElem!_pos s.toArray j (by simpa using hj)]
    simp
  · intro h
    obtain ⟨j, hj, rfl⟩ := List.getElem_of_mem h
    exact ⟨j, hj, by rw [getElem!_pos s.toArray j (by simpa using hj)]; simp⟩

end Go.Proofs.YthalkpflbbpniaaGreatDoor.Q
