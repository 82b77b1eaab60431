/- Texts of this claim, merged by a program (wip/tools/merge.py): Q96, Q97, Q98, Q99, Q100, HNextEv, HGoodEv, HPureBase, HPureNeeds. -/
import Derived.Test.YtibfocaldcjiiaaDoorA1
import Derived.Test.YtibfocaldcjiiaaDoorA12
import Derived.Test.YtibfocaldcjiiaaDoorA15
import Derived.Test.YtibfocaldcjiiaaDoorA2
import Derived.Test.YtibfocaldcjiiaaDoorA3
import Derived.Test.YtibfocaldcjiiaaDoorA14
import Derived.Test.YtibfocaldcjiiaaDoorA11
-- Printed by a program of this session (wip/tools/myprint.py) that runs the kit's print, hand-proved functions among the others.
namespace Go.Proofs.YtibfocaldcjiiaaDoor.Q
open Go.RowKit Go.Proofs.YtibfocaldcjiiaaDoorW.PrintWords Go.Proofs.YtibfocaldcjiiaaDoorW.PrintLast Go.Proofs.YtibfocaldcjiiaaDoorW.PrintMore
attribute [local go_sem] max2_int min2_int max_two min_two max_three min_three max_four min_four   -- for this text's walks alone
set_option linter.unusedVariables false
set_option linter.unusedSimpArgs false

/-! ### spec_l17Needs: function 43 -/
def spec_l17Needs.l0 : Nat → Int → Int → List (S50) → Int → Int → Option (Int × Int)
  | 0, _, _, _, _, _ => none
  | k + 1, x4, x5, x8, x9, x10 => if x10 < x9 then (if 0 ≤ x10 then (if x10 < (x8.length : Int) then (if ((rd_T50 x8 x10).f6) = x10 then (spec_l17Needs.l0 k (wrap64 (x4 + 1)) (wrap64 (x5 + (((rd_T50 x8 x10).f7).size : Int))) x8 x9 (wrap64 (x10 + 1))) else (spec_l17Needs.l0 k x4 (wrap64 (x5 + (((rd_T50 x8 x10).f7).size : Int))) x8 x9 (wrap64 (x10 + 1)))) else (none)) else (none)) else (some (x4, x5))
def spec_l17Needs.f (k : Nat) (l0 : List (S50)) : Option (Int × Int) := spec_l17Needs.l0 k 0 0 l0 (l0.length : Int) 0
theorem spec_l17Needs.mono_l : ∀ k, (∀ y0 y1 y2 y3 y4, LeO (spec_l17Needs.l0 k y0 y1 y2 y3 y4) (spec_l17Needs.l0 (k + 1) y0 y1 y2 y3 y4))
  | 0 => fun _ _ _ _ _ r h => by simp [spec_l17Needs.l0] at h
  | k + 1 => by
    have ih0 := spec_l17Needs.mono_l k
    · intro y0 y1 y2 y3 y4
      unfold spec_l17Needs.l0
      repeat' first
      | (with_reducible exact ih0 _ _ _ _ _)
      | (with_reducible exact LeO.refl _)
      | (with_reducible exact LeO.none _)
      | (with_reducible refine LeO.ite ?_ ?_)
      | (with_reducible refine LeO.bind ?_ (fun _ => ?_))
      | exact ih0 _ _ _ _ _
      | exact LeO.none _
      | refine LeO.ite ?_ ?_
      | refine LeO.bind ?_ (fun _ => ?_)
theorem spec_l17Needs.mono : ∀ a0 k, LeO (spec_l17Needs.f k a0) (spec_l17Needs.f (k + 1) a0) := by
  intro a0 k
  have ih0 := spec_l17Needs.mono_l k
  unfold spec_l17Needs.f
  repeat' first
      | (with_reducible exact ih0 _ _ _ _ _)
      | (with_reducible exact LeO.refl _)
      | (with_reducible exact LeO.none _)
      | (with_reducible refine LeO.ite ?_ ?_)
      | (with_reducible refine LeO.bind ?_ (fun _ => ?_))
      | exact ih0 _ _ _ _ _
      | exact LeO.none _
      | refine LeO.ite ?_ ?_
      | refine LeO.bind ?_ (fun _ => ?_)
set_option maxHeartbeats 8000000 in
set_option maxRecDepth 100000 in
theorem spec_l17Needs.calls (k : Nat) (A0 : Option Addr) (c0 : Nat) (l0 : List (S50)) (r1 : Int) (r2 : Int) (w : World) (hr0 : Kd.C k50 w A0 l0.length l0) (hc0 : l0.length ≤ c0) (h : spec_l17Needs.f k l0 = some (r1, r2)) :
    Calls Tryd.prog 43 #[.slice A0 l0.length c0] w fun e w' => e = .returned (.tuple #[.int .i64 r1, .int .i64 r2]) ∧ Below w.heap.size w w' := by
  have hu50 := Tryd.underlying50
  have HR0 := Aside0.mk hr0
  have HC0 := Aside0.mk hc0
  clear hr0 hc0
  have HB := Aside0.mk (Below.refl w.heap.size w)
  have H : (spec_l17Needs.l0 k 0 0 l0 (l0.length : Int) 0) = some (r1, r2) := h
  clear h
  have H' := Aside0.mk H
  clear H
  go_enter Tryd.func43, Tryd.ntmps43
  go_wp2
  go_loopg [4, 5, 10] k (fun kq v4 v5 v10 w' => ∃ (x4_1 : Int) (x5_1 : Int) (x10_1 : Int), v4 = .int .i64 x4_1 ∧ v5 = .int .i64 x5_1 ∧ v10 = .int .i64 x10_1 ∧ Aside0 (spec_l17Needs.l0 kq x4_1 x5_1 l0 (l0.length : Int) x10_1 = some (r1, r2)) ∧ Aside0 (kq ≤ k) ∧ Aside0 (Below w.heap.size w w'))
  case atStart => exact ⟨(0), (0), (0), (by first | rfl | (simp; done) | (simp [*]; done)), (by first | rfl | (simp; done) | (simp [*]; done)), (by first | rfl | (simp; done) | (simp [*]; done)), H', ⟨Nat.le_refl _⟩, ⟨by repeat (first | (with_reducible first | exact HB.out | apply below_alloc | apply pw_below_drewN | apply below_drew1) | exact HB.out)⟩⟩
  case round =>
    clear H'
    obtain ⟨x4_1, x5_1, x10_1, rfl, rfl, rfl, HA, HK1, HB⟩ := hrel
    cases gk with
    | zero => exact absurd HA.out (by simp [spec_l17Needs.l0])
    | succ k1 =>
      have H := HA.out
      clear HA
      simp only [spec_l17Needs.l0] at H
      by_cases c2 : x10_1 < (l0.length : Int)
      · rw [if_pos c2] at H
        have c2b0 : decide (x10_1 < (l0.length : Int)) = true := decide_eq_true c2
        clear c2
        by_cases c3 : 0 ≤ x10_1
        · rw [if_pos c3] at H
          have c3b0 : decide (0 ≤ x10_1) = true := decide_eq_true c3
          clear c3
          by_cases c4 : x10_1 < (l0.length : Int)
          · rw [if_pos c4] at H
            have c4b0 : decide (x10_1 < (l0.length : Int)) = true := decide_eq_true c4
            clear c4
            by_cases c5 : ((rd_T50 l0 x10_1).f6) = x10_1
            · rw [if_pos c5] at H
              have c5b0 : (((rd_T50 l0 x10_1).f6) == x10_1) = true := beq_iff_eq.mpr c5
              have c5b1 : (((rd_T50 l0 x10_1).f6) != x10_1) = false := bne_eq_false_iff_eq.mpr c5
              clear c5
              have H' := Aside0.mk H
              clear H
              have p325 : 0 ≤ (x10_1 : Int) := of_decide_eq_true (by first | (with_reducible assumption) | assumption)
              have q325 : x10_1 < (l0.length : Int) := of_decide_eq_true (by first | (with_reducible assumption) | assumption)
              obtain ⟨ad325, e325, hx325_0, hx325_1, hx325_2, hx325_3, hx325_4, hx325_5, hx325_6, hx325_7⟩ := at_T50 HR0.out x10_1 p325 q325
              cases e325
              replace hx325_0 := (HB.out.cell (World.block_lt_of_cell? w _ hx325_0)).trans hx325_0
              replace hx325_1 := (HB.out.cell (World.block_lt_of_cell? w _ hx325_1)).trans hx325_1
              replace hx325_2 := (HB.out.cell (World.block_lt_of_cell? w _ hx325_2)).trans hx325_2
              replace hx325_3 := (HB.out.cell (World.block_lt_of_cell? w _ hx325_3)).trans hx325_3
              replace hx325_4 := (HB.out.cell (World.block_lt_of_cell? w _ hx325_4)).trans hx325_4
              replace hx325_5 := (HB.out.cell (World.block_lt_of_cell? w _ hx325_5)).trans hx325_5
              replace hx325_6 := (HB.out.cell (World.block_lt_of_cell? w _ hx325_6)).trans hx325_6
              replace hx325_7 := (HB.out.cell (World.block_lt_of_cell? w _ hx325_7)).trans hx325_7
              replace p325 := eq_true p325
              replace q325 := eq_true q325
              go_wp2_with (first | ((with_reducible refine gate_dst (N := 7) rfl ?_); refine box_event ?hg (N := 7) ?hd (cs := #[.string (⟨#[]⟩ : ByteArray), .int .i64 0, .int .i64 0, .int .i64 0, .int .i64 0, .int .i64 0, .int .i64 0, .string (⟨#[]⟩ : ByteArray)]) (t := 50) ?hr ?_; (case hd => rfl); (case hg => rfl); (case hr => first | (go_simp; done) | (go_simp; rfl)); intro gb326 hg w6 hbox hb; have n0_ := Aside0.mk (below_step (by repeat (first | (with_reducible first | exact HB.out | apply below_alloc | apply pw_below_drewN | apply below_drew1) | exact HB.out)) hb); have n1_ := Aside0.mk (hbox); have n2_ := Aside0.mk ((by rw [hg]; exact (below_size (by repeat (first | (with_reducible first | exact HB.out | apply below_alloc | apply pw_below_drewN | apply below_drew1) | exact HB.out))) : w.heap.size ≤ gb326)); have n3_ := Aside0.mk ((by rw [hg]; exact (below_size (by repeat (first | (with_reducible first | exact HB.out | apply below_alloc | apply pw_below_drewN | apply below_drew1) | exact HB.out))) : w.heap.size ≤ gb326)); clear HB; have HB := n0_; have BK326 := n1_; have GW326 := n2_; have GE326 := n3_; clear n0_ n1_ n2_ n3_; clear hb hbox hg; have hcz7_0 : w6.cell? ⟨gb326, 0, none⟩ = some (.string (⟨#[]⟩ : ByteArray)) := (blk_cell BK326.out 0).trans rfl; have hcz7_1 : w6.cell? ⟨gb326, 1, none⟩ = some (.int .i64 0) := (blk_cell BK326.out 1).trans rfl; have hcz7_2 : w6.cell? ⟨gb326, 2, none⟩ = some (.int .i64 0) := (blk_cell BK326.out 2).trans rfl; have hcz7_3 : w6.cell? ⟨gb326, 3, none⟩ = some (.int .i64 0) := (blk_cell BK326.out 3).trans rfl; have hcz7_4 : w6.cell? ⟨gb326, 4, none⟩ = some (.int .i64 0) := (blk_cell BK326.out 4).trans rfl; have hcz7_5 : w6.cell? ⟨gb326, 5, none⟩ = some (.int .i64 0) := (blk_cell BK326.out 5).trans rfl; have hcz7_6 : w6.cell? ⟨gb326, 6, none⟩ = some (.int .i64 0) := (blk_cell BK326.out 6).trans rfl; have hcz7_7 : w6.cell? ⟨gb326, 7, none⟩ = some (.string (⟨#[]⟩ : ByteArray)) := (blk_cell BK326.out 7).trans rfl; have hfz7_0 := blk_frozen BK326.out 0; have hfz7_1 := blk_frozen BK326.out 1; have hfz7_2 := blk_frozen BK326.out 2; have hfz7_3 := blk_frozen BK326.out 3; have hfz7_4 := blk_frozen BK326.out 4; have hfz7_5 := blk_frozen BK326.out 5; have hfz7_6 := blk_frozen BK326.out 6; have hfz7_7 := blk_frozen BK326.out 7))
              go_roundg k1
              case measure => have := HK1.out; omega
              case rel => exact ⟨(wrap64 (x4_1 + 1)), (wrap64 (x5_1 + (((rd_T50 l0 x10_1).f7).size : Int))), (wrap64 (x10_1 + 1)), (by first | rfl | (simp; done) | (simp [*]; done)), (by first | rfl | (simp; done) | (simp [*]; done)), (by first | rfl | (simp; done) | (simp [*]; done)), H', ⟨by have := HK1.out; omega⟩, ⟨by repeat (first | (with_reducible first | exact HB.out | apply below_alloc | apply pw_below_drewN | apply below_drew1 | refine below_set ?_ GE326.out) | exact HB.out)⟩⟩
            · rw [if_neg c5] at H
              have c5b0 : (((rd_T50 l0 x10_1).f6) == x10_1) = false := beq_eq_false_iff_ne.mpr c5
              have c5b1 : (((rd_T50 l0 x10_1).f6) != x10_1) = true := bne_iff_ne.mpr c5
              have H' := Aside0.mk H
              clear H
              have p325 : 0 ≤ (x10_1 : Int) := of_decide_eq_true (by first | (with_reducible assumption) | assumption)
              have q325 : x10_1 < (l0.length : Int) := of_decide_eq_true (by first | (with_reducible assumption) | assumption)
              obtain ⟨ad325, e325, hx325_0, hx325_1, hx325_2, hx325_3, hx325_4, hx325_5, hx325_6, hx325_7⟩ := at_T50 HR0.out x10_1 p325 q325
              cases e325
              replace hx325_0 := (HB.out.cell (World.block_lt_of_cell? w _ hx325_0)).trans hx325_0
              replace hx325_1 := (HB.out.cell (World.block_lt_of_cell? w _ hx325_1)).trans hx325_1
              replace hx325_2 := (HB.out.cell (World.block_lt_of_cell? w _ hx325_2)).trans hx325_2
              replace hx325_3 := (HB.out.cell (World.block_lt_of_cell? w _ hx325_3)).trans hx325_3
              replace hx325_4 := (HB.out.cell (World.block_lt_of_cell? w _ hx325_4)).trans hx325_4
              replace hx325_5 := (HB.out.cell (World.block_lt_of_cell? w _ hx325_5)).trans hx325_5
              replace hx325_6 := (HB.out.cell (World.block_lt_of_cell? w _ hx325_6)).trans hx325_6
              replace hx325_7 := (HB.out.cell (World.block_lt_of_cell? w _ hx325_7)).trans hx325_7
              replace p325 := eq_true p325
              replace q325 := eq_true q325
              go_wp2_with (first | ((with_reducible refine gate_dst (N := 7) rfl ?_); refine box_event ?hg (N := 7) ?hd (cs := #[.string (⟨#[]⟩ : ByteArray), .int .i64 0, .int .i64 0, .int .i64 0, .int .i64 0, .int .i64 0, .int .i64 0, .string (⟨#[]⟩ : ByteArray)]) (t := 50) ?hr ?_; (case hd => rfl); (case hg => rfl); (case hr => first | (go_simp; done) | (go_simp; rfl)); intro gb326 hg w8 hbox hb; have n0_ := Aside0.mk (below_step (by repeat (first | (with_reducible first | exact HB.out | apply below_alloc | apply pw_below_drewN | apply below_drew1) | exact HB.out)) hb); have n1_ := Aside0.mk (hbox); have n2_ := Aside0.mk ((by rw [hg]; exact (below_size (by repeat (first | (with_reducible first | exact HB.out | apply below_alloc | apply pw_below_drewN | apply below_drew1) | exact HB.out))) : w.heap.size ≤ gb326)); have n3_ := Aside0.mk ((by rw [hg]; exact (below_size (by repeat (first | (with_reducible first | exact HB.out | apply below_alloc | apply pw_below_drewN | apply below_drew1) | exact HB.out))) : w.heap.size ≤ gb326)); clear HB; have HB := n0_; have BK326 := n1_; have GW326 := n2_; have GE326 := n3_; clear n0_ n1_ n2_ n3_; clear hb hbox hg; have hcz9_0 : w8.cell? ⟨gb326, 0, none⟩ = some (.string (⟨#[]⟩ : ByteArray)) := (blk_cell BK326.out 0).trans rfl; have hcz9_1 : w8.cell? ⟨gb326, 1, none⟩ = some (.int .i64 0) := (blk_cell BK326.out 1).trans rfl; have hcz9_2 : w8.cell? ⟨gb326, 2, none⟩ = some (.int .i64 0) := (blk_cell BK326.out 2).trans rfl; have hcz9_3 : w8.cell? ⟨gb326, 3, none⟩ = some (.int .i64 0) := (blk_cell BK326.out 3).trans rfl; have hcz9_4 : w8.cell? ⟨gb326, 4, none⟩ = some (.int .i64 0) := (blk_cell BK326.out 4).trans rfl; have hcz9_5 : w8.cell? ⟨gb326, 5, none⟩ = some (.int .i64 0) := (blk_cell BK326.out 5).trans rfl; have hcz9_6 : w8.cell? ⟨gb326, 6, none⟩ = some (.int .i64 0) := (blk_cell BK326.out 6).trans rfl; have hcz9_7 : w8.cell? ⟨gb326, 7, none⟩ = some (.string (⟨#[]⟩ : ByteArray)) := (blk_cell BK326.out 7).trans rfl; have hfz9_0 := blk_frozen BK326.out 0; have hfz9_1 := blk_frozen BK326.out 1; have hfz9_2 := blk_frozen BK326.out 2; have hfz9_3 := blk_frozen BK326.out 3; have hfz9_4 := blk_frozen BK326.out 4; have hfz9_5 := blk_frozen BK326.out 5; have hfz9_6 := blk_frozen BK326.out 6; have hfz9_7 := blk_frozen BK326.out 7))
              go_roundg k1
              case measure => have := HK1.out; omega
              case rel => exact ⟨(x4_1), (wrap64 (x5_1 + (((rd_T50 l0 x10_1).f7).size : Int))), (wrap64 (x10_1 + 1)), (by first | rfl | (simp; done) | (simp [*]; done)), (by first | rfl | (simp; done) | (simp [*]; done)), (by first | rfl | (simp; done) | (simp [*]; done)), H', ⟨by have := HK1.out; omega⟩, ⟨by repeat (first | (with_reducible first | exact HB.out | apply below_alloc | apply pw_below_drewN | apply below_drew1 | refine below_set ?_ GE326.out) | exact HB.out)⟩⟩
          · rw [if_neg c4] at H
            exact absurd H (by simp)
        · rw [if_neg c3] at H
          exact absurd H (by simp)
      · rw [if_neg c2] at H
        have c2b0 : decide (x10_1 < (l0.length : Int)) = false := decide_eq_false c2
        clear c2
        simp only [Option.some.injEq, Prod.mk.injEq] at H
        obtain ⟨rfl, rfl⟩ := H
        go_wp2
        go_ret2
        exact ⟨by first | rfl | (simp [errW_none, errW_some] <;> rfl) | (simp [*, errW_none, errW_some] <;> rfl), by repeat (first | (with_reducible first | exact HB.out | apply below_alloc | apply pw_below_drewN | apply below_drew1) | exact HB.out)⟩

end Go.Proofs.YtibfocaldcjiiaaDoor.Q

-- Printed by a program of this session (wip/tools/myprint.py) that runs the kit's print, hand-proved functions among the others.
namespace Go.Proofs.YtibfocaldcjiiaaDoor.Q
open Go.RowKit Go.Proofs.YtibfocaldcjiiaaDoorW.PrintWords Go.Proofs.YtibfocaldcjiiaaDoorW.PrintLast Go.Proofs.YtibfocaldcjiiaaDoorW.PrintMore
attribute [local go_sem] max2_int min2_int max_two min_two max_three min_three max_four min_four   -- for this text's walks alone
set_option linter.unusedVariables false
set_option linter.unusedSimpArgs false

/-! ### spec_NeedsOf: function 15 -/
def spec_NeedsOf.f (k : Nat) (l0 : List (S50)) : Option (Int × Int × Bool) := (spec_l17Good.f k l0).bind fun t327 => (if t327 = true then ((spec_l17Needs.f k l0).bind fun bt328 => (some (bt328.1, bt328.2, true))) else (some (0, 0, false)))
theorem spec_NeedsOf.mono : ∀ a0 k, LeO (spec_NeedsOf.f k a0) (spec_NeedsOf.f (k + 1) a0) := by
  intro a0 k
  unfold spec_NeedsOf.f
  repeat' first
      | (with_reducible exact spec_l17Good.mono _ _)
      | (with_reducible exact spec_l17Needs.mono _ _)
      | (with_reducible exact LeO.refl _)
      | (with_reducible exact LeO.none _)
      | (with_reducible refine LeO.ite ?_ ?_)
      | (with_reducible refine LeO.bind ?_ (fun _ => ?_))
      | exact spec_l17Good.mono _ _
      | exact spec_l17Needs.mono _ _
      | exact LeO.none _
      | refine LeO.ite ?_ ?_
      | refine LeO.bind ?_ (fun _ => ?_)
set_option maxHeartbeats 8000000 in
set_option maxRecDepth 100000 in
theorem spec_NeedsOf.calls (k : Nat) (A0 : Option Addr) (c0 : Nat) (l0 : List (S50)) (r1 : Int) (r2 : Int) (r3 : Bool) (w : World) (hr0 : Kd.C k50 w A0 l0.length l0) (hc0 : l0.length ≤ c0) (h : spec_NeedsOf.f k l0 = some (r1, r2, r3)) :
    Calls Tryd.prog 15 #[.slice A0 l0.length c0] w fun e w' => e = .returned (.tuple #[.int .i64 r1, .int .i64 r2, .bool r3]) ∧ Below w.heap.size w w' := by
  have HR0 := Aside0.mk hr0
  have HC0 := Aside0.mk hc0
  clear hr0 hc0
  have HB := Aside0.mk (Below.refl w.heap.size w)
  have H : ((spec_l17Good.f k l0).bind fun t327 => (if t327 = true then ((spec_l17Needs.f k l0).bind fun bt328 => (some (bt328.1, bt328.2, true))) else (some (0, 0, false)))) = some (r1, r2, r3) := h
  clear h
  replace H := Option.bind_eq_some_iff.mp H
  obtain ⟨t327, A20, H⟩ := H
  replace H : (if t327 = true then ((spec_l17Needs.f k l0).bind fun bt328 => (some (bt328.1, bt328.2, true))) else (some (0, 0, false))) = some (r1, r2, r3) := H
  have A2 := Aside0.mk A20
  clear A20
  by_cases c3 : t327 = true
  · subst c3
    have H1 : ((spec_l17Needs.f k l0).bind fun bt328 => (some (bt328.1, bt328.2, true))) = some (r1, r2, r3) := by rw [if_pos rfl] at H; exact H
    clear H
    have H := H1
    clear H1
    replace H := Option.bind_eq_some_iff.mp H
    obtain ⟨⟨t328, t329⟩, A40, H⟩ := H
    replace H : (some (t328, t329, true)) = some (r1, r2, r3) := H
    have A4 := Aside0.mk A40
    clear A40
    simp only [Option.some.injEq, Prod.mk.injEq] at H
    obtain ⟨rfl, rfl, rfl⟩ := H
    go_enter Tryd.func15, Tryd.ntmps15
    go_wp2_with (first | ((with_reducible refine gate_callee (f := 29) rfl ?_); refine goesL_ (some 8) rfl rfl Tryd.func29 (by kernel_rfl) rfl #[.slice A0 l0.length c0] rfl (by (try simp only [List.map_toArray, List.map_cons, List.map_nil]); first | done | rfl | (simp only [List.length_drop, List.length_take]; rfl)) ?_; (with_reducible refine (spec_l17Good.calls k _ _ l0 true _ ?side1 ?side2 A2.out).mono ?_); (case side1 => repeat (first | exact HR0.out | (with_reducible refine Kd.C_alloc ?_ _) | (with_reducible refine Kd.C_drewN ?_ _) | (with_reducible refine Kd.C_drew ?_))); (case side2 => exact HC0.out); rintro e w5 ⟨rfl, hb⟩; refine ⟨_, rfl, ?_⟩; have n0_ := Aside0.mk (below_step (by repeat (first | (with_reducible first | exact HB.out | apply below_alloc | apply pw_below_drewN | apply below_drew1) | exact HB.out)) hb); clear HB; have HB := n0_; clear n0_; (try clear hb); (try clear hb2); (try clear hk); (try clear hi)) | ((with_reducible refine gate_callee (f := 43) rfl ?_); refine goesL_ (some 12) rfl rfl Tryd.func43 (by kernel_rfl) rfl #[.slice A0 l0.length c0] rfl (by (try simp only [List.map_toArray, List.map_cons, List.map_nil]); first | done | rfl | (simp only [List.length_drop, List.length_take]; rfl)) ?_; (with_reducible refine (spec_l17Needs.calls k _ _ l0 t328 t329 _ ?side1 ?side2 A4.out).mono ?_); (case side1 => repeat (first | exact (Kd.C_below HR0.out HB.out) | (with_reducible refine Kd.C_alloc ?_ _) | (with_reducible refine Kd.C_drewN ?_ _) | (with_reducible refine Kd.C_drew ?_))); (case side2 => exact HC0.out); rintro e w6 ⟨rfl, hb⟩; refine ⟨_, rfl, ?_⟩; have n0_ := Aside0.mk (below_step (by repeat (first | (with_reducible first | exact HB.out | apply below_alloc | apply pw_below_drewN | apply below_drew1) | exact HB.out)) hb); clear HB; have HB := n0_; clear n0_; (try clear hb); (try clear hb2); (try clear hk); (try clear hi)))
    go_ret3
    exact ⟨by first | rfl | (simp [errW_none, errW_some] <;> rfl) | (simp [*, errW_none, errW_some] <;> rfl), by repeat (first | (with_reducible first | exact HB.out | apply below_alloc | apply pw_below_drewN | apply below_drew1) | exact HB.out)⟩
  · replace c3 := Bool.eq_false_iff.mpr c3
    subst c3
    have H1 : (some (0, 0, false)) = some (r1, r2, r3) := by rw [if_neg (show ¬ (false = true) by decide)] at H; exact H
    clear H
    have H := H1
    clear H1
    simp only [Option.some.injEq, Prod.mk.injEq] at H
    obtain ⟨rfl, rfl, rfl⟩ := H
    go_enter Tryd.func15, Tryd.ntmps15
    go_wp2_with (first | ((with_reducible refine gate_callee (f := 29) rfl ?_); refine goesL_ (some 8) rfl rfl Tryd.func29 (by kernel_rfl) rfl #[.slice A0 l0.length c0] rfl (by (try simp only [List.map_toArray, List.map_cons, List.map_nil]); first | done | rfl | (simp only [List.length_drop, List.length_take]; rfl)) ?_; (with_reducible refine (spec_l17Good.calls k _ _ l0 false _ ?side1 ?side2 A2.out).mono ?_); (case side1 => repeat (first | exact HR0.out | (with_reducible refine Kd.C_alloc ?_ _) | (with_reducible refine Kd.C_drewN ?_ _) | (with_reducible refine Kd.C_drew ?_))); (case side2 => exact HC0.out); rintro e w7 ⟨rfl, hb⟩; refine ⟨_, rfl, ?_⟩; have n0_ := Aside0.mk (below_step (by repeat (first | (with_reducible first | exact HB.out | apply below_alloc | apply pw_below_drewN | apply below_drew1) | exact HB.out)) hb); clear HB; have HB := n0_; clear n0_; (try clear hb); (try clear hb2); (try clear hk); (try clear hi)))
    go_ret3
    exact ⟨by first | rfl | (simp [errW_none, errW_some] <;> rfl) | (simp [*, errW_none, errW_some] <;> rfl), by repeat (first | (with_reducible first | exact HB.out | apply below_alloc | apply pw_below_drewN | apply below_drew1) | exact HB.out)⟩

end Go.Proofs.YtibfocaldcjiiaaDoor.Q

-- Printed by a program of this session (wip/tools/myprint.py) that runs the kit's print, hand-proved functions among the others.
namespace Go.Proofs.YtibfocaldcjiiaaDoor.Q
open Go.RowKit Go.Proofs.YtibfocaldcjiiaaDoorW.PrintWords Go.Proofs.YtibfocaldcjiiaaDoorW.PrintLast Go.Proofs.YtibfocaldcjiiaaDoorW.PrintMore
attribute [local go_sem] max2_int min2_int max_two min_two max_three min_three max_four min_four   -- for this text's walks alone
set_option linter.unusedVariables false
set_option linter.unusedSimpArgs false

/-! ### impl_needs: function 44 -/
def impl_needs.l0 : Nat → Int → Int → List (S50) → Int → Int → Option (Int × Int)
  | 0, _, _, _, _, _ => none
  | k + 1, x4, x5, x8, x9, x10 => if x10 < x9 then (if 0 ≤ x10 then (if x10 < (x8.length : Int) then (if ((rd_T50 x8 x10).f6) = x10 then (impl_needs.l0 k (wrap64 (x4 + 1)) (wrap64 (x5 + (((rd_T50 x8 x10).f7).size : Int))) x8 x9 (wrap64 (x10 + 1))) else (impl_needs.l0 k x4 (wrap64 (x5 + (((rd_T50 x8 x10).f7).size : Int))) x8 x9 (wrap64 (x10 + 1)))) else (none)) else (none)) else (some (x4, x5))
def impl_needs.f (k : Nat) (l0 : List (S50)) : Option (Int × Int) := impl_needs.l0 k 0 0 l0 (l0.length : Int) 0
theorem impl_needs.mono_l : ∀ k, (∀ y0 y1 y2 y3 y4, LeO (impl_needs.l0 k y0 y1 y2 y3 y4) (impl_needs.l0 (k + 1) y0 y1 y2 y3 y4))
  | 0 => fun _ _ _ _ _ r h => by simp [impl_needs.l0] at h
  | k + 1 => by
    have ih0 := impl_needs.mono_l k
    · intro y0 y1 y2 y3 y4
      unfold impl_needs.l0
      repeat' first
      | (with_reducible exact ih0 _ _ _ _ _)
      | (with_reducible exact LeO.refl _)
      | (with_reducible exact LeO.none _)
      | (with_reducible refine LeO.ite ?_ ?_)
      | (with_reducible refine LeO.bind ?_ (fun _ => ?_))
      | exact ih0 _ _ _ _ _
      | exact LeO.none _
      | refine LeO.ite ?_ ?_
      | refine LeO.bind ?_ (fun _ => ?_)
theorem impl_needs.mono : ∀ a0 k, LeO (impl_needs.f k a0) (impl_needs.f (k + 1) a0) := by
  intro a0 k
  have ih0 := impl_needs.mono_l k
  unfold impl_needs.f
  repeat' first
      | (with_reducible exact ih0 _ _ _ _ _)
      | (with_reducible exact LeO.refl _)
      | (with_reducible exact LeO.none _)
      | (with_reducible refine LeO.ite ?_ ?_)
      | (with_reducible refine LeO.bind ?_ (fun _ => ?_))
      | exact ih0 _ _ _ _ _
      | exact LeO.none _
      | refine LeO.ite ?_ ?_
      | refine LeO.bind ?_ (fun _ => ?_)
set_option maxHeartbeats 8000000 in
set_option maxRecDepth 100000 in
theorem impl_needs.calls (k : Nat) (A0 : Option Addr) (c0 : Nat) (l0 : List (S50)) (r1 : Int) (r2 : Int) (w : World) (hr0 : Kd.C k50 w A0 l0.length l0) (hc0 : l0.length ≤ c0) (h : impl_needs.f k l0 = some (r1, r2)) :
    Calls Tryd.prog 44 #[.slice A0 l0.length c0] w fun e w' => e = .returned (.tuple #[.int .i64 r1, .int .i64 r2]) ∧ Below w.heap.size w w' := by
  have hu50 := Tryd.underlying50
  have HR0 := Aside0.mk hr0
  have HC0 := Aside0.mk hc0
  clear hr0 hc0
  have HB := Aside0.mk (Below.refl w.heap.size w)
  have H : (impl_needs.l0 k 0 0 l0 (l0.length : Int) 0) = some (r1, r2) := h
  clear h
  have H' := Aside0.mk H
  clear H
  go_enter Tryd.func44, Tryd.ntmps44
  go_wp2
  go_loopg [4, 5, 10] k (fun kq v4 v5 v10 w' => ∃ (x4_1 : Int) (x5_1 : Int) (x10_1 : Int), v4 = .int .i64 x4_1 ∧ v5 = .int .i64 x5_1 ∧ v10 = .int .i64 x10_1 ∧ Aside0 (impl_needs.l0 kq x4_1 x5_1 l0 (l0.length : Int) x10_1 = some (r1, r2)) ∧ Aside0 (kq ≤ k) ∧ Aside0 (Below w.heap.size w w'))
  case atStart => exact ⟨(0), (0), (0), (by first | rfl | (simp; done) | (simp [*]; done)), (by first | rfl | (simp; done) | (simp [*]; done)), (by first | rfl | (simp; done) | (simp [*]; done)), H', ⟨Nat.le_refl _⟩, ⟨by repeat (first | (with_reducible first | exact HB.out | apply below_alloc | apply pw_below_drewN | apply below_drew1) | exact HB.out)⟩⟩
  case round =>
    clear H'
    obtain ⟨x4_1, x5_1, x10_1, rfl, rfl, rfl, HA, HK1, HB⟩ := hrel
    cases gk with
    | zero => exact absurd HA.out (by simp [impl_needs.l0])
    | succ k1 =>
      have H := HA.out
      clear HA
      simp only [impl_needs.l0] at H
      by_cases c2 : x10_1 < (l0.length : Int)
      · rw [if_pos c2] at H
        have c2b0 : decide (x10_1 < (l0.length : Int)) = true := decide_eq_true c2
        clear c2
        by_cases c3 : 0 ≤ x10_1
        · rw [if_pos c3] at H
          have c3b0 : decide (0 ≤ x10_1) = true := decide_eq_true c3
          clear c3
          by_cases c4 : x10_1 < (l0.length : Int)
          · rw [if_pos c4] at H
            have c4b0 : decide (x10_1 < (l0.length : Int)) = true := decide_eq_true c4
            clear c4
            by_cases c5 : ((rd_T50 l0 x10_1).f6) = x10_1
            · rw [if_pos c5] at H
              have c5b0 : (((rd_T50 l0 x10_1).f6) == x10_1) = true := beq_iff_eq.mpr c5
              have c5b1 : (((rd_T50 l0 x10_1).f6) != x10_1) = false := bne_eq_false_iff_eq.mpr c5
              clear c5
              have H' := Aside0.mk H
              clear H
              have p330 : 0 ≤ (x10_1 : Int) := of_decide_eq_true (by first | (with_reducible assumption) | assumption)
              have q330 : x10_1 < (l0.length : Int) := of_decide_eq_true (by first | (with_reducible assumption) | assumption)
              obtain ⟨ad330, e330, hx330_0, hx330_1, hx330_2, hx330_3, hx330_4, hx330_5, hx330_6, hx330_7⟩ := at_T50 HR0.out x10_1 p330 q330
              cases e330
              replace hx330_0 := (HB.out.cell (World.block_lt_of_cell? w _ hx330_0)).trans hx330_0
              replace hx330_1 := (HB.out.cell (World.block_lt_of_cell? w _ hx330_1)).trans hx330_1
              replace hx330_2 := (HB.out.cell (World.block_lt_of_cell? w _ hx330_2)).trans hx330_2
              replace hx330_3 := (HB.out.cell (World.block_lt_of_cell? w _ hx330_3)).trans hx330_3
              replace hx330_4 := (HB.out.cell (World.block_lt_of_cell? w _ hx330_4)).trans hx330_4
              replace hx330_5 := (HB.out.cell (World.block_lt_of_cell? w _ hx330_5)).trans hx330_5
              replace hx330_6 := (HB.out.cell (World.block_lt_of_cell? w _ hx330_6)).trans hx330_6
              replace hx330_7 := (HB.out.cell (World.block_lt_of_cell? w _ hx330_7)).trans hx330_7
              replace p330 := eq_true p330
              replace q330 := eq_true q330
              go_wp2_with (first | ((with_reducible refine gate_dst (N := 7) rfl ?_); refine box_event ?hg (N := 7) ?hd (cs := #[.string (⟨#[]⟩ : ByteArray), .int .i64 0, .int .i64 0, .int .i64 0, .int .i64 0, .int .i64 0, .int .i64 0, .string (⟨#[]⟩ : ByteArray)]) (t := 50) ?hr ?_; (case hd => rfl); (case hg => rfl); (case hr => first | (go_simp; done) | (go_simp; rfl)); intro gb331 hg w6 hbox hb; have n0_ := Aside0.mk (below_step (by repeat (first | (with_reducible first | exact HB.out | apply below_alloc | apply pw_below_drewN | apply below_drew1) | exact HB.out)) hb); have n1_ := Aside0.mk (hbox); have n2_ := Aside0.mk ((by rw [hg]; exact (below_size (by repeat (first | (with_reducible first | exact HB.out | apply below_alloc | apply pw_below_drewN | apply below_drew1) | exact HB.out))) : w.heap.size ≤ gb331)); have n3_ := Aside0.mk ((by rw [hg]; exact (below_size (by repeat (first | (with_reducible first | exact HB.out | apply below_alloc | apply pw_below_drewN | apply below_drew1) | exact HB.out))) : w.heap.size ≤ gb331)); clear HB; have HB := n0_; have BK331 := n1_; have GW331 := n2_; have GE331 := n3_; clear n0_ n1_ n2_ n3_; clear hb hbox hg; have hcz7_0 : w6.cell? ⟨gb331, 0, none⟩ = some (.string (⟨#[]⟩ : ByteArray)) := (blk_cell BK331.out 0).trans rfl; have hcz7_1 : w6.cell? ⟨gb331, 1, none⟩ = some (.int .i64 0) := (blk_cell BK331.out 1).trans rfl; have hcz7_2 : w6.cell? ⟨gb331, 2, none⟩ = some (.int .i64 0) := (blk_cell BK331.out 2).trans rfl; have hcz7_3 : w6.cell? ⟨gb331, 3, none⟩ = some (.int .i64 0) := (blk_cell BK331.out 3).trans rfl; have hcz7_4 : w6.cell? ⟨gb331, 4, none⟩ = some (.int .i64 0) := (blk_cell BK331.out 4).trans rfl; have hcz7_5 : w6.cell? ⟨gb331, 5, none⟩ = some (.int .i64 0) := (blk_cell BK331.out 5).trans rfl; have hcz7_6 : w6.cell? ⟨gb331, 6, none⟩ = some (.int .i64 0) := (blk_cell BK331.out 6).trans rfl; have hcz7_7 : w6.cell? ⟨gb331, 7, none⟩ = some (.string (⟨#[]⟩ : ByteArray)) := (blk_cell BK331.out 7).trans rfl; have hfz7_0 := blk_frozen BK331.out 0; have hfz7_1 := blk_frozen BK331.out 1; have hfz7_2 := blk_frozen BK331.out 2; have hfz7_3 := blk_frozen BK331.out 3; have hfz7_4 := blk_frozen BK331.out 4; have hfz7_5 := blk_frozen BK331.out 5; have hfz7_6 := blk_frozen BK331.out 6; have hfz7_7 := blk_frozen BK331.out 7))
              go_roundg k1
              case measure => have := HK1.out; omega
              case rel => exact ⟨(wrap64 (x4_1 + 1)), (wrap64 (x5_1 + (((rd_T50 l0 x10_1).f7).size : Int))), (wrap64 (x10_1 + 1)), (by first | rfl | (simp; done) | (simp [*]; done)), (by first | rfl | (simp; done) | (simp [*]; done)), (by first | rfl | (simp; done) | (simp [*]; done)), H', ⟨by have := HK1.out; omega⟩, ⟨by repeat (first | (with_reducible first | exact HB.out | apply below_alloc | apply pw_below_drewN | apply below_drew1 | refine below_set ?_ GE331.out) | exact HB.out)⟩⟩
            · rw [if_neg c5] at H
              have c5b0 : (((rd_T50 l0 x10_1).f6) == x10_1) = false := beq_eq_false_iff_ne.mpr c5
              have c5b1 : (((rd_T50 l0 x10_1).f6) != x10_1) = true := bne_iff_ne.mpr c5
              have H' := Aside0.mk H
              clear H
              have p330 : 0 ≤ (x10_1 : Int) := of_decide_eq_true (by first | (with_reducible assumption) | assumption)
              have q330 : x10_1 < (l0.length : Int) := of_decide_eq_true (by first | (with_reducible assumption) | assumption)
              obtain ⟨ad330, e330, hx330_0, hx330_1, hx330_2, hx330_3, hx330_4, hx330_5, hx330_6, hx330_7⟩ := at_T50 HR0.out x10_1 p330 q330
              cases e330
              replace hx330_0 := (HB.out.cell (World.block_lt_of_cell? w _ hx330_0)).trans hx330_0
              replace hx330_1 := (HB.out.cell (World.block_lt_of_cell? w _ hx330_1)).trans hx330_1
              replace hx330_2 := (HB.out.cell (World.block_lt_of_cell? w _ hx330_2)).trans hx330_2
              replace hx330_3 := (HB.out.cell (World.block_lt_of_cell? w _ hx330_3)).trans hx330_3
              replace hx330_4 := (HB.out.cell (World.block_lt_of_cell? w _ hx330_4)).trans hx330_4
              replace hx330_5 := (HB.out.cell (World.block_lt_of_cell? w _ hx330_5)).trans hx330_5
              replace hx330_6 := (HB.out.cell (World.block_lt_of_cell? w _ hx330_6)).trans hx330_6
              replace hx330_7 := (HB.out.cell (World.block_lt_of_cell? w _ hx330_7)).trans hx330_7
              replace p330 := eq_true p330
              replace q330 := eq_true q330
              go_wp2_with (first | ((with_reducible refine gate_dst (N := 7) rfl ?_); refine box_event ?hg (N := 7) ?hd (cs := #[.string (⟨#[]⟩ : ByteArray), .int .i64 0, .int .i64 0, .int .i64 0, .int .i64 0, .int .i64 0, .int .i64 0, .string (⟨#[]⟩ : ByteArray)]) (t := 50) ?hr ?_; (case hd => rfl); (case hg => rfl); (case hr => first | (go_simp; done) | (go_simp; rfl)); intro gb331 hg w8 hbox hb; have n0_ := Aside0.mk (below_step (by repeat (first | (with_reducible first | exact HB.out | apply below_alloc | apply pw_below_drewN | apply below_drew1) | exact HB.out)) hb); have n1_ := Aside0.mk (hbox); have n2_ := Aside0.mk ((by rw [hg]; exact (below_size (by repeat (first | (with_reducible first | exact HB.out | apply below_alloc | apply pw_below_drewN | apply below_drew1) | exact HB.out))) : w.heap.size ≤ gb331)); have n3_ := Aside0.mk ((by rw [hg]; exact (below_size (by repeat (first | (with_reducible first | exact HB.out | apply below_alloc | apply pw_below_drewN | apply below_drew1) | exact HB.out))) : w.heap.size ≤ gb331)); clear HB; have HB := n0_; have BK331 := n1_; have GW331 := n2_; have GE331 := n3_; clear n0_ n1_ n2_ n3_; clear hb hbox hg; have hcz9_0 : w8.cell? ⟨gb331, 0, none⟩ = some (.string (⟨#[]⟩ : ByteArray)) := (blk_cell BK331.out 0).trans rfl; have hcz9_1 : w8.cell? ⟨gb331, 1, none⟩ = some (.int .i64 0) := (blk_cell BK331.out 1).trans rfl; have hcz9_2 : w8.cell? ⟨gb331, 2, none⟩ = some (.int .i64 0) := (blk_cell BK331.out 2).trans rfl; have hcz9_3 : w8.cell? ⟨gb331, 3, none⟩ = some (.int .i64 0) := (blk_cell BK331.out 3).trans rfl; have hcz9_4 : w8.cell? ⟨gb331, 4, none⟩ = some (.int .i64 0) := (blk_cell BK331.out 4).trans rfl; have hcz9_5 : w8.cell? ⟨gb331, 5, none⟩ = some (.int .i64 0) := (blk_cell BK331.out 5).trans rfl; have hcz9_6 : w8.cell? ⟨gb331, 6, none⟩ = some (.int .i64 0) := (blk_cell BK331.out 6).trans rfl; have hcz9_7 : w8.cell? ⟨gb331, 7, none⟩ = some (.string (⟨#[]⟩ : ByteArray)) := (blk_cell BK331.out 7).trans rfl; have hfz9_0 := blk_frozen BK331.out 0; have hfz9_1 := blk_frozen BK331.out 1; have hfz9_2 := blk_frozen BK331.out 2; have hfz9_3 := blk_frozen BK331.out 3; have hfz9_4 := blk_frozen BK331.out 4; have hfz9_5 := blk_frozen BK331.out 5; have hfz9_6 := blk_frozen BK331.out 6; have hfz9_7 := blk_frozen BK331.out 7))
              go_roundg k1
              case measure => have := HK1.out; omega
              case rel => exact ⟨(x4_1), (wrap64 (x5_1 + (((rd_T50 l0 x10_1).f7).size : Int))), (wrap64 (x10_1 + 1)), (by first | rfl | (simp; done) | (simp [*]; done)), (by first | rfl | (simp; done) | (simp [*]; done)), (by first | rfl | (simp; done) | (simp [*]; done)), H', ⟨by have := HK1.out; omega⟩, ⟨by repeat (first | (with_reducible first | exact HB.out | apply below_alloc | apply pw_below_drewN | apply below_drew1 | refine below_set ?_ GE331.out) | exact HB.out)⟩⟩
          · rw [if_neg c4] at H
            exact absurd H (by simp)
        · rw [if_neg c3] at H
          exact absurd H (by simp)
      · rw [if_neg c2] at H
        have c2b0 : decide (x10_1 < (l0.length : Int)) = false := decide_eq_false c2
        clear c2
        simp only [Option.some.injEq, Prod.mk.injEq] at H
        obtain ⟨rfl, rfl⟩ := H
        go_wp2
        go_ret2
        exact ⟨by first | rfl | (simp [errW_none, errW_some] <;> rfl) | (simp [*, errW_none, errW_some] <;> rfl), by repeat (first | (with_reducible first | exact HB.out | apply below_alloc | apply pw_below_drewN | apply below_drew1) | exact HB.out)⟩

end Go.Proofs.YtibfocaldcjiiaaDoor.Q

-- Printed by a program of this session (wip/tools/myprint.py) that runs the kit's print, hand-proved functions among the others.
namespace Go.Proofs.YtibfocaldcjiiaaDoor.Q
open Go.RowKit Go.Proofs.YtibfocaldcjiiaaDoorW.PrintWords Go.Proofs.YtibfocaldcjiiaaDoorW.PrintLast Go.Proofs.YtibfocaldcjiiaaDoorW.PrintMore
attribute [local go_sem] max2_int min2_int max_two min_two max_three min_three max_four min_four   -- for this text's walks alone
set_option linter.unusedVariables false
set_option linter.unusedSimpArgs false

/-! ### impl_NeedsOf: function 16 -/
def impl_NeedsOf.f (k : Nat) (l0 : List (S50)) : Option (Int × Int × Bool) := (impl_GoodItems.f l0).bind fun t332 => (if t332 = true then ((impl_needs.f k l0).bind fun bt333 => (some (bt333.1, bt333.2, true))) else (some (0, 0, false)))
theorem impl_NeedsOf.mono : ∀ a0 k, LeO (impl_NeedsOf.f k a0) (impl_NeedsOf.f (k + 1) a0) := by
  intro a0 k
  unfold impl_NeedsOf.f
  repeat' first
      | (with_reducible exact impl_needs.mono _ _)
      | (with_reducible exact LeO.refl _)
      | (with_reducible exact LeO.none _)
      | (with_reducible refine LeO.ite ?_ ?_)
      | (with_reducible refine LeO.bind ?_ (fun _ => ?_))
      | exact impl_needs.mono _ _
      | exact LeO.none _
      | refine LeO.ite ?_ ?_
      | refine LeO.bind ?_ (fun _ => ?_)
set_option maxHeartbeats 8000000 in
set_option maxRecDepth 100000 in
theorem impl_NeedsOf.calls (k : Nat) (A0 : Option Addr) (c0 : Nat) (l0 : List (S50)) (r1 : Int) (r2 : Int) (r3 : Bool) (w : World) (hr0 : Kd.C k50 w A0 l0.length l0) (hc0 : l0.length ≤ c0) (h : impl_NeedsOf.f k l0 = some (r1, r2, r3)) :
    Calls Tryd.prog 16 #[.slice A0 l0.length c0] w fun e w' => e = .returned (.tuple #[.int .i64 r1, .int .i64 r2, .bool r3]) ∧ Below w.heap.size w w' := by
  have HR0 := Aside0.mk hr0
  have HC0 := Aside0.mk hc0
  clear hr0 hc0
  have HB := Aside0.mk (Below.refl w.heap.size w)
  have H : ((impl_GoodItems.f l0).bind fun t332 => (if t332 = true then ((impl_needs.f k l0).bind fun bt333 => (some (bt333.1, bt333.2, true))) else (some (0, 0, false)))) = some (r1, r2, r3) := h
  clear h
  replace H := Option.bind_eq_some_iff.mp H
  obtain ⟨t332, A20, H⟩ := H
  replace H : (if t332 = true then ((impl_needs.f k l0).bind fun bt333 => (some (bt333.1, bt333.2, true))) else (some (0, 0, false))) = some (r1, r2, r3) := H
  have A2 := Aside0.mk A20
  clear A20
  by_cases c3 : t332 = true
  · subst c3
    have H1 : ((impl_needs.f k l0).bind fun bt333 => (some (bt333.1, bt333.2, true))) = some (r1, r2, r3) := by rw [if_pos rfl] at H; exact H
    clear H
    have H := H1
    clear H1
    replace H := Option.bind_eq_some_iff.mp H
    obtain ⟨⟨t333, t334⟩, A40, H⟩ := H
    replace H : (some (t333, t334, true)) = some (r1, r2, r3) := H
    have A4 := Aside0.mk A40
    clear A40
    simp only [Option.some.injEq, Prod.mk.injEq] at H
    obtain ⟨rfl, rfl, rfl⟩ := H
    go_enter Tryd.func16, Tryd.ntmps16
    go_wp2_with (first | ((with_reducible refine gate_callee (f := 11) rfl ?_); refine goesL_ (some 8) rfl rfl Tryd.func11 (by kernel_rfl) rfl #[.slice A0 l0.length c0] rfl (by (try simp only [List.map_toArray, List.map_cons, List.map_nil]); first | done | rfl | (simp only [List.length_drop, List.length_take]; rfl)) ?_; (with_reducible refine (impl_GoodItems.calls _ _ l0 true _ ?side1 ?side2 A2.out).mono ?_); (case side1 => repeat (first | exact HR0.out | (with_reducible refine Kd.C_alloc ?_ _) | (with_reducible refine Kd.C_drewN ?_ _) | (with_reducible refine Kd.C_drew ?_))); (case side2 => exact HC0.out); rintro e w5 ⟨rfl, hb⟩; refine ⟨_, rfl, ?_⟩; have n0_ := Aside0.mk (below_step (by repeat (first | (with_reducible first | exact HB.out | apply below_alloc | apply pw_below_drewN | apply below_drew1) | exact HB.out)) hb); clear HB; have HB := n0_; clear n0_; (try clear hb); (try clear hb2); (try clear hk); (try clear hi)) | ((with_reducible refine gate_callee (f := 44) rfl ?_); refine goesL_ (some 12) rfl rfl Tryd.func44 (by kernel_rfl) rfl #[.slice A0 l0.length c0] rfl (by (try simp only [List.map_toArray, List.map_cons, List.map_nil]); first | done | rfl | (simp only [List.length_drop, List.length_take]; rfl)) ?_; (with_reducible refine (impl_needs.calls k _ _ l0 t333 t334 _ ?side1 ?side2 A4.out).mono ?_); (case side1 => repeat (first | exact (Kd.C_below HR0.out HB.out) | (with_reducible refine Kd.C_alloc ?_ _) | (with_reducible refine Kd.C_drewN ?_ _) | (with_reducible refine Kd.C_drew ?_))); (case side2 => exact HC0.out); rintro e w6 ⟨rfl, hb⟩; refine ⟨_, rfl, ?_⟩; have n0_ := Aside0.mk (below_step (by repeat (first | (with_reducible first | exact HB.out | apply below_alloc | apply pw_below_drewN | apply below_drew1) | exact HB.out)) hb); clear HB; have HB := n0_; clear n0_; (try clear hb); (try clear hb2); (try clear hk); (try clear hi)))
    go_ret3
    exact ⟨by first | rfl | (simp [errW_none, errW_some] <;> rfl) | (simp [*, errW_none, errW_some] <;> rfl), by repeat (first | (with_reducible first | exact HB.out | apply below_alloc | apply pw_below_drewN | apply below_drew1) | exact HB.out)⟩
  · replace c3 := Bool.eq_false_iff.mpr c3
    subst c3
    have H1 : (some (0, 0, false)) = some (r1, r2, r3) := by rw [if_neg (show ¬ (false = true) by decide)] at H; exact H
    clear H
    have H := H1
    clear H1
    simp only [Option.some.injEq, Prod.mk.injEq] at H
    obtain ⟨rfl, rfl, rfl⟩ := H
    go_enter Tryd.func16, Tryd.ntmps16
    go_wp2_with (first | ((with_reducible refine gate_callee (f := 11) rfl ?_); refine goesL_ (some 8) rfl rfl Tryd.func11 (by kernel_rfl) rfl #[.slice A0 l0.length c0] rfl (by (try simp only [List.map_toArray, List.map_cons, List.map_nil]); first | done | rfl | (simp only [List.length_drop, List.length_take]; rfl)) ?_; (with_reducible refine (impl_GoodItems.calls _ _ l0 false _ ?side1 ?side2 A2.out).mono ?_); (case side1 => repeat (first | exact HR0.out | (with_reducible refine Kd.C_alloc ?_ _) | (with_reducible refine Kd.C_drewN ?_ _) | (with_reducible refine Kd.C_drew ?_))); (case side2 => exact HC0.out); rintro e w7 ⟨rfl, hb⟩; refine ⟨_, rfl, ?_⟩; have n0_ := Aside0.mk (below_step (by repeat (first | (with_reducible first | exact HB.out | apply below_alloc | apply pw_below_drewN | apply below_drew1) | exact HB.out)) hb); clear HB; have HB := n0_; clear n0_; (try clear hb); (try clear hb2); (try clear hk); (try clear hi)))
    go_ret3
    exact ⟨by first | rfl | (simp [errW_none, errW_some] <;> rfl) | (simp [*, errW_none, errW_some] <;> rfl), by repeat (first | (with_reducible first | exact HB.out | apply below_alloc | apply pw_below_drewN | apply below_drew1) | exact HB.out)⟩

end Go.Proofs.YtibfocaldcjiiaaDoor.Q

-- Printed by a program of this session (wip/tools/myprint.py) that runs the kit's print, hand-proved functions among the others.
namespace Go.Proofs.YtibfocaldcjiiaaDoor.Q
open Go.RowKit Go.Proofs.YtibfocaldcjiiaaDoorW.PrintWords Go.Proofs.YtibfocaldcjiiaaDoorW.PrintLast Go.Proofs.YtibfocaldcjiiaaDoorW.PrintMore
attribute [local go_sem] max2_int min2_int max_two min_two max_three min_three max_four min_four   -- for this text's walks alone
set_option linter.unusedVariables false
set_option linter.unusedSimpArgs false

/-! ### laws_FnExactNeedsOf: function 5 -/
def laws_FnExactNeedsOf.j0 : Nat → List (S49) → List (S50) → Bool → Option (Bool)
  | 0, _, _, _ => none
  | k + 1, x0, x7, x43 => if x43 = true then (some false) else ((laws_toItemS.f k x0).bind fun t348 => ((laws_eqItemS.f k x7 t348).bind fun t351 => (if t351 = true then (some true) else (some false))))
def laws_FnExactNeedsOf.f (k : Nat) (l0 : List (S49)) : Option (Bool) := (laws_szItemS.f k l0 1048576).bind fun t335 => (if t335 < 0 then (some true) else ((laws_toItemS.f k l0).bind fun t336 => ((spec_NeedsOf.f k t336).bind fun bt339 => ((laws_toItemS.f k l0).bind fun t342 => ((impl_NeedsOf.f k t342).bind fun bt345 => (if bt345.1 = bt339.1 then (if bt345.2.1 = bt339.2.1 then (laws_FnExactNeedsOf.j0 k l0 t342 (bt345.2.2 != bt339.2.2)) else (laws_FnExactNeedsOf.j0 k l0 t342 true)) else (laws_FnExactNeedsOf.j0 k l0 t342 true)))))))
theorem laws_FnExactNeedsOf.mono_l : ∀ k, (∀ y0 y1 y2, LeO (laws_FnExactNeedsOf.j0 k y0 y1 y2) (laws_FnExactNeedsOf.j0 (k + 1) y0 y1 y2))
  | 0 => fun _ _ _ r h => by simp [laws_FnExactNeedsOf.j0] at h
  | k + 1 => by
    have ih0 := laws_FnExactNeedsOf.mono_l k
    · intro y0 y1 y2
      unfold laws_FnExactNeedsOf.j0
      repeat' first
      | (with_reducible exact ih0 _ _ _)
      | (with_reducible exact impl_NeedsOf.mono _ _)
      | (with_reducible exact laws_eqItemS.mono _ _ _)
      | (with_reducible exact laws_szItemS.mono _ _ _)
      | (with_reducible exact laws_toItemS.mono _ _)
      | (with_reducible exact spec_NeedsOf.mono _ _)
      | (with_reducible exact LeO.refl _)
      | (with_reducible exact LeO.none _)
      | (with_reducible refine LeO.ite ?_ ?_)
      | (with_reducible refine LeO.bind ?_ (fun _ => ?_))
      | exact ih0 _ _ _
      | exact impl_NeedsOf.mono _ _
      | exact laws_eqItemS.mono _ _ _
      | exact laws_szItemS.mono _ _ _
      | exact laws_toItemS.mono _ _
      | exact spec_NeedsOf.mono _ _
      | exact LeO.none _
      | refine LeO.ite ?_ ?_
      | refine LeO.bind ?_ (fun _ => ?_)
theorem laws_FnExactNeedsOf.mono : ∀ a0 k, LeO (laws_FnExactNeedsOf.f k a0) (laws_FnExactNeedsOf.f (k + 1) a0) := by
  intro a0 k
  have ih0 := laws_FnExactNeedsOf.mono_l k
  unfold laws_FnExactNeedsOf.f
  repeat' first
      | (with_reducible exact ih0 _ _ _)
      | (with_reducible exact impl_NeedsOf.mono _ _)
      | (with_reducible exact laws_eqItemS.mono _ _ _)
      | (with_reducible exact laws_szItemS.mono _ _ _)
      | (with_reducible exact laws_toItemS.mono _ _)
      | (with_reducible exact spec_NeedsOf.mono _ _)
      | (with_reducible exact LeO.refl _)
      | (with_reducible exact LeO.none _)
      | (with_reducible refine LeO.ite ?_ ?_)
      | (with_reducible refine LeO.bind ?_ (fun _ => ?_))
      | exact ih0 _ _ _
      | exact impl_NeedsOf.mono _ _
      | exact laws_eqItemS.mono _ _ _
      | exact laws_szItemS.mono _ _ _
      | exact laws_toItemS.mono _ _
      | exact spec_NeedsOf.mono _ _
      | exact LeO.none _
      | refine LeO.ite ?_ ?_
      | refine LeO.bind ?_ (fun _ => ?_)
set_option maxHeartbeats 8000000 in
set_option maxRecDepth 100000 in
theorem laws_FnExactNeedsOf.calls (k : Nat) (A0 : Option Addr) (c0 : Nat) (l0 : List (S49)) (r : Bool) (w : World) (hr0 : Kd.C k49 w A0 l0.length l0) (hc0 : l0.length ≤ c0) (h : laws_FnExactNeedsOf.f k l0 = some r) :
    Calls Tryd.prog 5 #[.slice A0 l0.length c0] w fun e w' => e = .returned (.bool r) ∧ Below w.heap.size w w' := by
  have HR0 := Aside0.mk hr0
  have HC0 := Aside0.mk hc0
  clear hr0 hc0
  have HB := Aside0.mk (Below.refl w.heap.size w)
  have H : ((laws_szItemS.f k l0 1048576).bind fun t335 => (if t335 < 0 then (some true) else ((laws_toItemS.f k l0).bind fun t336 => ((spec_NeedsOf.f k t336).bind fun bt339 => ((laws_toItemS.f k l0).bind fun t342 => ((impl_NeedsOf.f k t342).bind fun bt345 => (if bt345.1 = bt339.1 then (if bt345.2.1 = bt339.2.1 then (laws_FnExactNeedsOf.j0 k l0 t342 (bt345.2.2 != bt339.2.2)) else (laws_FnExactNeedsOf.j0 k l0 t342 true)) else (laws_FnExactNeedsOf.j0 k l0 t342 true)))))))) = some r := h
  clear h
  replace H := Option.bind_eq_some_iff.mp H
  obtain ⟨t335, A20, H⟩ := H
  replace H : (if t335 < 0 then (some true) else ((laws_toItemS.f k l0).bind fun t336 => ((spec_NeedsOf.f k t336).bind fun bt339 => ((laws_toItemS.f k l0).bind fun t342 => ((impl_NeedsOf.f k t342).bind fun bt345 => (if bt345.1 = bt339.1 then (if bt345.2.1 = bt339.2.1 then (laws_FnExactNeedsOf.j0 k l0 t342 (bt345.2.2 != bt339.2.2)) else (laws_FnExactNeedsOf.j0 k l0 t342 true)) else (laws_FnExactNeedsOf.j0 k l0 t342 true))))))) = some r := H
  have A2 := Aside0.mk A20
  clear A20
  by_cases c3 : t335 < 0
  · rw [if_pos c3] at H
    have c3b0 : decide (t335 < 0) = true := decide_eq_true c3
    clear c3
    obtain rfl := Option.some.inj H
    go_enter Tryd.func5, Tryd.ntmps5
    go_wp2_with (first | ((with_reducible refine gate_callee (f := 8) rfl ?_); refine goesL_ (some 13) rfl rfl Tryd.func8 (by kernel_rfl) rfl #[.slice A0 l0.length c0, .int .i64 1048576] rfl (by (try simp only [List.map_toArray, List.map_cons, List.map_nil]); first | done | rfl | (simp only [List.length_drop, List.length_take]; rfl)) ?_; (with_reducible refine (laws_szItemS.calls k _ _ l0 1048576 t335 _ ?side1 ?side2 A2.out).mono ?_); (case side1 => repeat (first | exact HR0.out | (with_reducible refine Kd.C_alloc ?_ _) | (with_reducible refine Kd.C_drewN ?_ _) | (with_reducible refine Kd.C_drew ?_))); (case side2 => exact HC0.out); rintro e w4 ⟨rfl, hb⟩; refine ⟨_, rfl, ?_⟩; have n0_ := Aside0.mk (below_step (by repeat (first | (with_reducible first | exact HB.out | apply below_alloc | apply pw_below_drewN | apply below_drew1) | exact HB.out)) hb); clear HB; have HB := n0_; clear n0_; (try clear hb); (try clear hb2); (try clear hk); (try clear hi)))
    go_ret
    exact ⟨by first | rfl | (simp [errW_none, errW_some] <;> rfl) | (simp [*, errW_none, errW_some] <;> rfl), by repeat (first | (with_reducible first | exact HB.out | apply below_alloc | apply pw_below_drewN | apply below_drew1) | exact HB.out)⟩
  · rw [if_neg c3] at H
    have c3b0 : decide (t335 < 0) = false := decide_eq_false c3
    clear c3
    replace H := Option.bind_eq_some_iff.mp H
    obtain ⟨t336, A50, H⟩ := H
    replace H : ((spec_NeedsOf.f k t336).bind fun bt339 => ((laws_toItemS.f k l0).bind fun t342 => ((impl_NeedsOf.f k t342).bind fun bt345 => (if bt345.1 = bt339.1 then (if bt345.2.1 = bt339.2.1 then (laws_FnExactNeedsOf.j0 k l0 t342 (bt345.2.2 != bt339.2.2)) else (laws_FnExactNeedsOf.j0 k l0 t342 true)) else (laws_FnExactNeedsOf.j0 k l0 t342 true))))) = some r := H
    have A5 := Aside0.mk A50
    clear A50
    replace H := Option.bind_eq_some_iff.mp H
    obtain ⟨⟨t339, t340, t341⟩, A60, H⟩ := H
    replace H : ((laws_toItemS.f k l0).bind fun t342 => ((impl_NeedsOf.f k t342).bind fun bt345 => (if bt345.1 = t339 then (if bt345.2.1 = t340 then (laws_FnExactNeedsOf.j0 k l0 t342 (bt345.2.2 != t341)) else (laws_FnExactNeedsOf.j0 k l0 t342 true)) else (laws_FnExactNeedsOf.j0 k l0 t342 true)))) = some r := H
    have A6 := Aside0.mk A60
    clear A60
    replace H := Option.bind_eq_some_iff.mp H
    obtain ⟨t342, A70, H⟩ := H
    replace H : ((impl_NeedsOf.f k t342).bind fun bt345 => (if bt345.1 = t339 then (if bt345.2.1 = t340 then (laws_FnExactNeedsOf.j0 k l0 t342 (bt345.2.2 != t341)) else (laws_FnExactNeedsOf.j0 k l0 t342 true)) else (laws_FnExactNeedsOf.j0 k l0 t342 true))) = some r := H
    have A7 := Aside0.mk A70
    clear A70
    replace H := Option.bind_eq_some_iff.mp H
    obtain ⟨⟨t345, t346, t347⟩, A80, H⟩ := H
    replace H : (if t345 = t339 then (if t346 = t340 then (laws_FnExactNeedsOf.j0 k l0 t342 (t347 != t341)) else (laws_FnExactNeedsOf.j0 k l0 t342 true)) else (laws_FnExactNeedsOf.j0 k l0 t342 true)) = some r := H
    have A8 := Aside0.mk A80
    clear A80
    have HC9 := Aside0.mk H
    clear H
    go_enter Tryd.func5, Tryd.ntmps5
    go_upto_region 8 with (first | ((with_reducible refine gate_callee (f := 8) rfl ?_); refine goesL_ (some 13) rfl rfl Tryd.func8 (by kernel_rfl) rfl #[.slice A0 l0.length c0, .int .i64 1048576] rfl (by (try simp only [List.map_toArray, List.map_cons, List.map_nil]); first | done | rfl | (simp only [List.length_drop, List.length_take]; rfl)) ?_; (with_reducible refine (laws_szItemS.calls k _ _ l0 1048576 t335 _ ?side1 ?side2 A2.out).mono ?_); (case side1 => repeat (first | exact HR0.out | (with_reducible refine Kd.C_alloc ?_ _) | (with_reducible refine Kd.C_drewN ?_ _) | (with_reducible refine Kd.C_drew ?_))); (case side2 => exact HC0.out); rintro e w10 ⟨rfl, hb⟩; refine ⟨_, rfl, ?_⟩; have n0_ := Aside0.mk (below_step (by repeat (first | (with_reducible first | exact HB.out | apply below_alloc | apply pw_below_drewN | apply below_drew1) | exact HB.out)) hb); clear HB; have HB := n0_; clear n0_; (try clear hb); (try clear hb2); (try clear hk); (try clear hi)) | ((with_reducible refine gate_callee (f := 10) rfl ?_); refine goesL_ (some 18) rfl rfl Tryd.func10 (by kernel_rfl) rfl #[.slice A0 l0.length c0] rfl (by (try simp only [List.map_toArray, List.map_cons, List.map_nil]); first | done | rfl | (simp only [List.length_drop, List.length_take]; rfl)) ?_; (with_reducible refine (laws_toItemS.calls k _ _ l0 t336 _ ?side1 ?side2 A5.out).mono ?_); (case side1 => repeat (first | exact (Kd.C_below HR0.out HB.out) | (with_reducible refine Kd.C_alloc ?_ _) | (with_reducible refine Kd.C_drewN ?_ _) | (with_reducible refine Kd.C_drew ?_))); (case side2 => exact HC0.out); rintro e w11 ⟨v337, rfl, ho0, hb⟩; refine ⟨_, rfl, ?_⟩; have n0_ := Aside0.mk (Kd.R_lower ho0 (below_size (by repeat (first | (with_reducible first | exact HB.out | apply below_alloc | apply pw_below_drewN | apply below_drew1) | exact HB.out)))); have n1_ := Aside0.mk (below_step (by repeat (first | (with_reducible first | exact HB.out | apply below_alloc | apply pw_below_drewN | apply below_drew1) | exact HB.out)) hb); clear HB; have HO338 := n0_; have HB := n1_; clear n0_ n1_; (try clear hb); (try clear hb2); (try clear hk); (try clear hi); (try clear ho0); obtain ⟨Ao12, co12, eo12⟩ := Kd.R_slice HO338.out; subst eo12) | ((with_reducible refine gate_callee (f := 15) rfl ?_); refine goesL_ (some 19) rfl rfl Tryd.func15 (by kernel_rfl) rfl #[.slice Ao12 t336.length co12] rfl (by (try simp only [List.map_toArray, List.map_cons, List.map_nil]); first | done | rfl | (simp only [List.length_drop, List.length_take]; rfl)) ?_; (with_reducible refine (spec_NeedsOf.calls k _ _ t336 t339 t340 t341 _ ?side1 ?side2 A6.out).mono ?_); (case side1 => repeat (first | exact (Kd.R_reads' HO338.out).2.2 | (with_reducible refine Kd.C_alloc ?_ _) | (with_reducible refine Kd.C_drewN ?_ _) | (with_reducible refine Kd.C_drew ?_))); (case side2 => exact (Kd.R_reads' HO338.out).2.1); rintro e w13 ⟨rfl, hb⟩; refine ⟨_, rfl, ?_⟩; have n0_ := Aside0.mk (Kd.R_below (by (with_reducible repeat (first | apply Kd.R_alloc | apply Kd.R_drewN | apply Kd.R_drew)); exact HO338.out) hb); have n1_ := Aside0.mk (below_step (by repeat (first | (with_reducible first | exact HB.out | apply below_alloc | apply pw_below_drewN | apply below_drew1) | exact HB.out)) hb); clear HO338; clear HB; have HO338 := n0_; have HB := n1_; clear n0_ n1_; (try clear hb); (try clear hb2); (try clear hk); (try clear hi)) | ((with_reducible refine gate_callee (f := 10) rfl ?_); refine goesL_ (some 24) rfl rfl Tryd.func10 (by kernel_rfl) rfl #[.slice A0 l0.length c0] rfl (by (try simp only [List.map_toArray, List.map_cons, List.map_nil]); first | done | rfl | (simp only [List.length_drop, List.length_take]; rfl)) ?_; (with_reducible refine (laws_toItemS.calls k _ _ l0 t342 _ ?side1 ?side2 A7.out).mono ?_); (case side1 => repeat (first | exact (Kd.C_below HR0.out HB.out) | (with_reducible refine Kd.C_alloc ?_ _) | (with_reducible refine Kd.C_drewN ?_ _) | (with_reducible refine Kd.C_drew ?_))); (case side2 => exact HC0.out); rintro e w14 ⟨v343, rfl, ho0, hb⟩; refine ⟨_, rfl, ?_⟩; have n0_ := Aside0.mk (Kd.R_elder' (by (with_reducible repeat (first | apply Kd.R_alloc | apply Kd.R_drewN | apply Kd.R_drew)); exact HO338.out) (Kd.R_base ho0) hb); have n1_ := Aside0.mk (Kd.R_lower (Kd.R_new' ho0 (Kd.R_lt (by (with_reducible repeat (first | apply Kd.R_alloc | apply Kd.R_drewN | apply Kd.R_drew)); exact HO338.out))) (below_size (by repeat (first | (with_reducible first | exact HB.out | apply below_alloc | apply pw_below_drewN | apply below_drew1) | exact HB.out)))); have n2_ := Aside0.mk (below_step (by repeat (first | (with_reducible first | exact HB.out | apply below_alloc | apply pw_below_drewN | apply below_drew1) | exact HB.out)) hb); clear HO338; clear HB; have HO338 := n0_; have HO344 := n1_; have HB := n2_; clear n0_ n1_ n2_; (try clear hb); (try clear hb2); (try clear hk); (try clear hi); (try clear ho0); obtain ⟨Ao15, co15, eo15⟩ := Kd.R_slice HO344.out; subst eo15) | ((with_reducible refine gate_callee (f := 16) rfl ?_); refine goesL_ (some 27) rfl rfl Tryd.func16 (by kernel_rfl) rfl #[.slice Ao15 t342.length co15] rfl (by (try simp only [List.map_toArray, List.map_cons, List.map_nil]); first | done | rfl | (simp only [List.length_drop, List.length_take]; rfl)) ?_; (with_reducible refine (impl_NeedsOf.calls k _ _ t342 t345 t346 t347 _ ?side1 ?side2 A8.out).mono ?_); (case side1 => repeat (first | exact (Kd.R_reads' HO344.out).2.2 | (with_reducible refine Kd.C_alloc ?_ _) | (with_reducible refine Kd.C_drewN ?_ _) | (with_reducible refine Kd.C_drew ?_))); (case side2 => exact (Kd.R_reads' HO344.out).2.1); rintro e w16 ⟨rfl, hb⟩; refine ⟨_, rfl, ?_⟩; have n0_ := Aside0.mk (Kd.R_below (by (with_reducible repeat (first | apply Kd.R_alloc | apply Kd.R_drewN | apply Kd.R_drew)); exact HO338.out) hb); have n1_ := Aside0.mk (Kd.R_below (by (with_reducible repeat (first | apply Kd.R_alloc | apply Kd.R_drewN | apply Kd.R_drew)); exact HO344.out) hb); have n2_ := Aside0.mk (below_step (by repeat (first | (with_reducible first | exact HB.out | apply below_alloc | apply pw_below_drewN | apply below_drew1) | exact HB.out)) hb); clear HO338; clear HO344; clear HB; have HO338 := n0_; have HO344 := n1_; have HB := n2_; clear n0_ n1_ n2_; (try clear hb); (try clear hb2); (try clear hk); (try clear hi)))
    (try simp only [Act.put, List.setIfInBounds_toArray, List.set_cons_zero, List.set_cons_succ])
    go_cut [43] (fun v43 wc => ∃ (kq : Nat) (x43_8 : Bool), v43 = .bool x43_8 ∧ Aside0 (laws_FnExactNeedsOf.j0 kq l0 t342 x43_8 = some r) ∧ Aside0 (kq ≤ k) ∧ Aside0 (Kd.R k50 50 wc w.heap.size (fun _ => True) (.slice Ao15 t342.length co15) t342) ∧ Aside0 (Below w.heap.size w wc))
    case first =>
      have H := HC9.out
      clear HC9
      by_cases c17 : t345 = t339
      · rw [if_pos c17] at H
        have c17b0 : (t345 == t339) = true := beq_iff_eq.mpr c17
        have c17b1 : (t345 != t339) = false := bne_eq_false_iff_eq.mpr c17
        clear c17
        (first | rw [c17b0] | (simp only [i64_w, i32_w]; rw [c17b0]) | skip)
        by_cases c18 : t346 = t340
        · rw [if_pos c18] at H
          have c18b0 : (t346 == t340) = true := beq_iff_eq.mpr c18
          have c18b1 : (t346 != t340) = false := bne_eq_false_iff_eq.mpr c18
          clear c18
          have H' := Aside0.mk H
          clear H
          go_wp2
          go_meet
          case rel => exact ⟨_, ((t347 != t341)), (by first | rfl | (simp; done) | (simp [*]; done)), H', ⟨by first | omega | exact Nat.le_refl _⟩, ⟨by (with_reducible repeat (first | apply Kd.R_alloc | apply Kd.R_drewN | apply Kd.R_drew)); exact Kd.R_mono HO344.out (fun _ hk => trivial)⟩, ⟨by repeat (first | (with_reducible first | exact HB.out | apply below_alloc | apply pw_below_drewN | apply below_drew1) | exact HB.out)⟩⟩
        · rw [if_neg c18] at H
          have c18b0 : (t346 == t340) = false := beq_eq_false_iff_ne.mpr c18
          have c18b1 : (t346 != t340) = true := bne_iff_ne.mpr c18
          have H' := Aside0.mk H
          clear H
          go_wp2
          go_meet
          case rel => exact ⟨_, (true), (by first | rfl | (simp; done) | (simp [*]; done)), H', ⟨by first | omega | exact Nat.le_refl _⟩, ⟨by (with_reducible repeat (first | apply Kd.R_alloc | apply Kd.R_drewN | apply Kd.R_drew)); exact Kd.R_mono HO344.out (fun _ hk => trivial)⟩, ⟨by repeat (first | (with_reducible first | exact HB.out | apply below_alloc | apply pw_below_drewN | apply below_drew1) | exact HB.out)⟩⟩
      · rw [if_neg c17] at H
        have c17b0 : (t345 == t339) = false := beq_eq_false_iff_ne.mpr c17
        have c17b1 : (t345 != t339) = true := bne_iff_ne.mpr c17
        (first | rw [c17b0] | (simp only [i64_w, i32_w]; rw [c17b0]) | skip)
        have H' := Aside0.mk H
        clear H
        go_wp2
        go_meet
        case rel => exact ⟨_, (true), (by first | rfl | (simp; done) | (simp [*]; done)), H', ⟨by first | omega | exact Nat.le_refl _⟩, ⟨by (with_reducible repeat (first | apply Kd.R_alloc | apply Kd.R_drewN | apply Kd.R_drew)); exact Kd.R_mono HO344.out (fun _ hk => trivial)⟩, ⟨by repeat (first | (with_reducible first | exact HB.out | apply below_alloc | apply pw_below_drewN | apply below_drew1) | exact HB.out)⟩⟩
    case rest =>
      clear HC9
      try clear c1
      try clear p2
      try clear c3
      try clear c3b0
      try clear c5
      try clear c8
      try clear c10
      try clear c15
      try clear c16
      try clear c17
      try clear c17b0
      try clear c17b1
      try clear c18
      try clear c18b0
      try clear c18b1
      obtain ⟨kq, x43_8, rfl, HA, HJ8, HO_7, HB⟩ := hcut
      cases kq with
      | zero => exact absurd HA.out (by simp [laws_FnExactNeedsOf.j0])
      | succ kj8 =>
        have H := HA.out
        clear HA
        simp only [laws_FnExactNeedsOf.j0] at H
        by_cases c19 : x43_8 = true
        · subst c19
          have H1 : (some false) = some r := by rw [if_pos rfl] at H; exact H
          clear H
          have H := H1
          clear H1
          obtain rfl := Option.some.inj H
          go_wp2
          go_ret
          exact ⟨by first | rfl | (simp [errW_none, errW_some] <;> rfl) | (simp [*, errW_none, errW_some] <;> rfl), by repeat (first | (with_reducible first | exact HB.out | apply below_alloc | apply pw_below_drewN | apply below_drew1) | exact HB.out)⟩
        · replace c19 := Bool.eq_false_iff.mpr c19
          subst c19
          have H1 : ((laws_toItemS.f kj8 l0).bind fun t348 => ((laws_eqItemS.f kj8 t342 t348).bind fun t351 => (if t351 = true then (some true) else (some false)))) = some r := by rw [if_neg (show ¬ (false = true) by decide)] at H; exact H
          clear H
          have H := H1
          clear H1
          replace H := Option.bind_eq_some_iff.mp H
          obtain ⟨t348, A200, H⟩ := H
          replace H : ((laws_eqItemS.f kj8 t342 t348).bind fun t351 => (if t351 = true then (some true) else (some false))) = some r := H
          have A20 := Aside0.mk A200
          clear A200
          replace H := Option.bind_eq_some_iff.mp H
          obtain ⟨t351, A210, H⟩ := H
          replace H : (if t351 = true then (some true) else (some false)) = some r := H
          have A21 := Aside0.mk A210
          clear A210
          by_cases c22 : t351 = true
          · subst c22
            have H1 : (some true) = some r := by rw [if_pos rfl] at H; exact H
            clear H
            have H := H1
            clear H1
            obtain rfl := Option.some.inj H
            go_wp2_with (first | ((with_reducible refine gate_callee (f := 10) rfl ?_); refine goesL_ (some 46) rfl rfl Tryd.func10 (by kernel_rfl) rfl #[.slice A0 l0.length c0] rfl (by (try simp only [List.map_toArray, List.map_cons, List.map_nil]); first | done | rfl | (simp only [List.length_drop, List.length_take]; rfl)) ?_; (with_reducible refine (laws_toItemS.calls kj8 _ _ l0 t348 _ ?side1 ?side2 A20.out).mono ?_); (case side1 => repeat (first | exact (Kd.C_below HR0.out HB.out) | (with_reducible refine Kd.C_alloc ?_ _) | (with_reducible refine Kd.C_drewN ?_ _) | (with_reducible refine Kd.C_drew ?_))); (case side2 => exact HC0.out); rintro e w23 ⟨v349, rfl, ho0, hb⟩; refine ⟨_, rfl, ?_⟩; have n0_ := Aside0.mk (Kd.R_elder' (by (with_reducible repeat (first | apply Kd.R_alloc | apply Kd.R_drewN | apply Kd.R_drew)); exact HO_7.out) (Kd.R_base ho0) hb); have n1_ := Aside0.mk (Kd.R_lower (Kd.R_new' ho0 (Kd.R_lt (by (with_reducible repeat (first | apply Kd.R_alloc | apply Kd.R_drewN | apply Kd.R_drew)); exact HO_7.out))) (below_size (by repeat (first | (with_reducible first | exact HB.out | apply below_alloc | apply pw_below_drewN | apply below_drew1) | exact HB.out)))); have n2_ := Aside0.mk (below_step (by repeat (first | (with_reducible first | exact HB.out | apply below_alloc | apply pw_below_drewN | apply below_drew1) | exact HB.out)) hb); clear HO_7; clear HB; have HO_7 := n0_; have HO350 := n1_; have HB := n2_; clear n0_ n1_ n2_; (try clear hb); (try clear hb2); (try clear hk); (try clear hi); (try clear ho0); obtain ⟨Ao24, co24, eo24⟩ := Kd.R_slice HO350.out; subst eo24) | ((with_reducible refine gate_callee (f := 12) rfl ?_); refine goesL_ (some 47) rfl rfl Tryd.func12 (by kernel_rfl) rfl #[.slice Ao15 t342.length co15, .slice Ao24 t348.length co24] rfl (by (try simp only [List.map_toArray, List.map_cons, List.map_nil]); first | done | rfl | (simp only [List.length_drop, List.length_take]; rfl)) ?_; (with_reducible refine (laws_eqItemS.calls kj8 _ _ t342 _ _ t348 true _ ?side1 ?side2 ?side3 ?side4 A21.out).mono ?_); (case side1 => repeat (first | exact (Kd.R_reads' HO_7.out).2.2 | (with_reducible refine Kd.C_alloc ?_ _) | (with_reducible refine Kd.C_drewN ?_ _) | (with_reducible refine Kd.C_drew ?_))); (case side2 => exact (Kd.R_reads' HO_7.out).2.1); (case side3 => repeat (first | exact (Kd.R_reads' HO350.out).2.2 | (with_reducible refine Kd.C_alloc ?_ _) | (with_reducible refine Kd.C_drewN ?_ _) | (with_reducible refine Kd.C_drew ?_))); (case side4 => exact (Kd.R_reads' HO350.out).2.1); rintro e w25 ⟨rfl, hb⟩; refine ⟨_, rfl, ?_⟩; have n0_ := Aside0.mk (Kd.R_below (by (with_reducible repeat (first | apply Kd.R_alloc | apply Kd.R_drewN | apply Kd.R_drew)); exact HO_7.out) hb); have n1_ := Aside0.mk (Kd.R_below (by (with_reducible repeat (first | apply Kd.R_alloc | apply Kd.R_drewN | apply Kd.R_drew)); exact HO350.out) hb); have n2_ := Aside0.mk (below_step (by repeat (first | (with_reducible first | exact HB.out | apply below_alloc | apply pw_below_drewN | apply below_drew1) | exact HB.out)) hb); clear HO_7; clear HO350; clear HB; have HO_7 := n0_; have HO350 := n1_; have HB := n2_; clear n0_ n1_ n2_; (try clear hb); (try clear hb2); (try clear hk); (try clear hi)))
            go_ret
            exact ⟨by first | rfl | (simp [errW_none, errW_some] <;> rfl) | (simp [*, errW_none, errW_some] <;> rfl), by repeat (first | (with_reducible first | exact HB.out | apply below_alloc | apply pw_below_drewN | apply below_drew1) | exact HB.out)⟩
          · replace c22 := Bool.eq_false_iff.mpr c22
            subst c22
            have H1 : (some false) = some r := by rw [if_neg (show ¬ (false = true) by decide)] at H; exact H
            clear H
            have H := H1
            clear H1
            obtain rfl := Option.some.inj H
            go_wp2_with (first | ((with_reducible refine gate_callee (f := 10) rfl ?_); refine goesL_ (some 46) rfl rfl Tryd.func10 (by kernel_rfl) rfl #[.slice A0 l0.length c0] rfl (by (try simp only [List.map_toArray, List.map_cons, List.map_nil]); first | done | rfl | (simp only [List.length_drop, List.length_take]; rfl)) ?_; (with_reducible refine (laws_toItemS.calls kj8 _ _ l0 t348 _ ?side1 ?side2 A20.out).mono ?_); (case side1 => repeat (first | exact (Kd.C_below HR0.out HB.out) | (with_reducible refine Kd.C_alloc ?_ _) | (with_reducible refine Kd.C_drewN ?_ _) | (with_reducible refine Kd.C_drew ?_))); (case side2 => exact HC0.out); rintro e w26 ⟨v349, rfl, ho0, hb⟩; refine ⟨_, rfl, ?_⟩; have n0_ := Aside0.mk (Kd.R_elder' (by (with_reducible repeat (first | apply Kd.R_alloc | apply Kd.R_drewN | apply Kd.R_drew)); exact HO_7.out) (Kd.R_base ho0) hb); have n1_ := Aside0.mk (Kd.R_lower (Kd.R_new' ho0 (Kd.R_lt (by (with_reducible repeat (first | apply Kd.R_alloc | apply Kd.R_drewN | apply Kd.R_drew)); exact HO_7.out))) (below_size (by repeat (first | (with_reducible first | exact HB.out | apply below_alloc | apply pw_below_drewN | apply below_drew1) | exact HB.out)))); have n2_ := Aside0.mk (below_step (by repeat (first | (with_reducible first | exact HB.out | apply below_alloc | apply pw_below_drewN | apply below_drew1) | exact HB.out)) hb); clear HO_7; clear HB; have HO_7 := n0_; have HO350 := n1_; have HB := n2_; clear n0_ n1_ n2_; (try clear hb); (try clear hb2); (try clear hk); (try clear hi); (try clear ho0); obtain ⟨Ao27, co27, eo27⟩ := Kd.R_slice HO350.out; subst eo27) | ((with_reducible refine gate_callee (f := 12) rfl ?_); refine goesL_ (some 47) rfl rfl Tryd.func12 (by kernel_rfl) rfl #[.slice Ao15 t342.length co15, .slice Ao27 t348.length co27] rfl (by (try simp only [List.map_toArray, List.map_cons, List.map_nil]); first | done | rfl | (simp only [List.length_drop, List.length_take]; rfl)) ?_; (with_reducible refine (laws_eqItemS.calls kj8 _ _ t342 _ _ t348 false _ ?side1 ?side2 ?side3 ?side4 A21.out).mono ?_); (case side1 => repeat (first | exact (Kd.R_reads' HO_7.out).2.2 | (with_reducible refine Kd.C_alloc ?_ _) | (with_reducible refine Kd.C_drewN ?_ _) | (with_reducible refine Kd.C_drew ?_))); (case side2 => exact (Kd.R_reads' HO_7.out).2.1); (case side3 => repeat (first | exact (Kd.R_reads' HO350.out).2.2 | (with_reducible refine Kd.C_alloc ?_ _) | (with_reducible refine Kd.C_drewN ?_ _) | (with_reducible refine Kd.C_drew ?_))); (case side4 => exact (Kd.R_reads' HO350.out).2.1); rintro e w28 ⟨rfl, hb⟩; refine ⟨_, rfl, ?_⟩; have n0_ := Aside0.mk (Kd.R_below (by (with_reducible repeat (first | apply Kd.R_alloc | apply Kd.R_drewN | apply Kd.R_drew)); exact HO_7.out) hb); have n1_ := Aside0.mk (Kd.R_below (by (with_reducible repeat (first | apply Kd.R_alloc | apply Kd.R_drewN | apply Kd.R_drew)); exact HO350.out) hb); have n2_ := Aside0.mk (below_step (by repeat (first | (with_reducible first | exact HB.out | apply below_alloc | apply pw_below_drewN | apply below_drew1) | exact HB.out)) hb); clear HO_7; clear HO350; clear HB; have HO_7 := n0_; have HO350 := n1_; have HB := n2_; clear n0_ n1_ n2_; (try clear hb); (try clear hb2); (try clear hk); (try clear hi)))
            go_ret
            exact ⟨by first | rfl | (simp [errW_none, errW_some] <;> rfl) | (simp [*, errW_none, errW_some] <;> rfl), by repeat (first | (with_reducible first | exact HB.out | apply below_alloc | apply pw_below_drewN | apply below_drew1) | exact HB.out)⟩

end Go.Proofs.YtibfocaldcjiiaaDoor.Q

/- The reference's stack of open ways comes to what the program asks. -/
namespace Go.Proofs.YtibfocaldcjiiaaDoor.Q
open Go.RowKit Go.Proofs.YtibfocaldcjiiaaDoorW.PrintWords Go.Proofs.YtibfocaldcjiiaaDoorW.PrintLast Go.Proofs.YtibfocaldcjiiaaDoorW.PrintMore
attribute [local go_sem] max2_int min2_int max_two min_two max_three min_three max_four min_four   -- for this text's walks alone
set_option linter.unusedVariables false
set_option linter.unusedSimpArgs false

theorem namesW_len2 (s : ByteArray) (hs : s.size < 4294967281) : (namesW s).length ≤ 4294967282 := namesW_len s hs
def wayB (N : List ByteArray) : ByteArray := ⟨(wayT N).toArray⟩
theorem wayB_toList (N : List ByteArray) : (wayB N).toList = wayT N := by rw [ByteArray.toList_eq]; simp [wayB]
theorem wayB_names (s : ByteArray) : wayB (namesW s) = s := Go.WideShapes.bytes_inj (by rw [← way_names s]; simp [wayB])
theorem wayB_above {s : ByteArray} {P : List ByteArray} {n : ByteArray} (h : namesW s = P ++ [n]) (hn : nameOkB n = true) : aboveB s = wayB P :=
  Go.WideShapes.bytes_inj (by rw [(above_way h hn).1]; simp [wayB])
def ini (M : List ByteArray) : List ByteArray := (List.range (M.length + 1)).map fun j => wayB (M.take j)
theorem ini_len (M : List ByteArray) : (ini M).length = M.length + 1 := by simp [ini]
theorem ini_get (M : List ByteArray) (j : Nat) (h : j < (ini M).length) : (ini M)[j] = wayB (M.take j) := by simp [ini]
theorem ini_take (M : List ByteArray) (p : Nat) (hp : p ≤ M.length) : (ini M).take (p + 1) = ini (M.take p) := by
  refine List.ext_getElem (by rw [List.length_take, ini_len, ini_len, List.length_take]; omega) (fun j h1 h2 => ?_)
  rw [List.getElem_take, ini_get, ini_get, List.take_take]
  rw [ini_len, List.length_take] at h2
  rw [Nat.min_eq_left (by omega)]
theorem ini_snoc (P : List ByteArray) (n : ByteArray) : ini (P ++ [n]) = ini P ++ [wayB (P ++ [n])] := by
  have h1 := ini_take (P ++ [n]) P.length (by simp)
  rw [List.take_left] at h1
  have h2 : ini (P ++ [n]) = (ini (P ++ [n])).take (P.length + 1) ++ (ini (P ++ [n])).drop (P.length + 1) := (List.take_append_drop _ _).symm
  rw [h1] at h2
  rw [h2]
  congr 1
  have hl : P.length + 1 < (ini (P ++ [n])).length := by rw [ini_len]; simp
  rw [List.drop_eq_getElem_cons hl, ini_get, List.drop_of_length_le (by rw [ini_len]; simp)]
  rw [List.take_of_length_le (by simp)]
def opn (M : List ByteArray) (c : Nat) : List ByteArray := (ini M).take c
def lst (M : List ByteArray) (c : Nat) : List ByteArray := (M ++ [(⟨#[]⟩ : ByteArray)]).take c
theorem opn_len (M : List ByteArray) (c : Nat) (h : c ≤ M.length + 1) : (opn M c).length = c := by simp [opn, ini_len]; omega
theorem lst_len (M : List ByteArray) (c : Nat) (h : c ≤ M.length + 1) : (lst M c).length = c := by simp [lst]; omega
theorem opn_get (M : List ByteArray) (c j : Nat) (h : j < (opn M c).length) : (opn M c)[j] = wayB (M.take j) := by
  have h' : j < ((ini M).take c).length := h
  show ((ini M).take c)[j]'h' = _
  rw [List.getElem_take, ini_get]
theorem lst_get (M : List ByteArray) (c j : Nat) (hc : c ≤ M.length + 1) (h : j < (lst M c).length) : (lst M c)[j] = (M ++ [(⟨#[]⟩ : ByteArray)]).getD j ⟨#[]⟩ := by
  have h' : j < ((M ++ [(⟨#[]⟩ : ByteArray)]).take c).length := h
  show ((M ++ [(⟨#[]⟩ : ByteArray)]).take c)[j]'h' = _
  rw [List.length_take] at h'
  rw [List.getElem_take, List.getD_eq_getElem?_getD, List.getElem?_eq_getElem (by omega)]
  rfl
theorem lst_set (M : List ByteArray) (p : Nat) (w : ByteArray) (hp : p ≤ M.length) : (lst M (p + 1)).set p w = M.take p ++ [w] := by
  have hlt : p < (M ++ [(⟨#[]⟩ : ByteArray)]).length := by simp; omega
  unfold lst
  rw [List.take_add_one, List.getElem?_eq_getElem hlt, List.take_append_of_le_length hp]
  have hl : (M.take p).length = p := by simp; omega
  rw [List.set_append_right _ _ (by omega), hl]
  simp
theorem wayB_ne {M N : List ByteArray} (hM : ∀ p ∈ M, nameOkB p = true) (hN : ∀ p ∈ N, nameOkB p = true) (h : (wayB M).toList = (wayB N).toList) : M = N := by
  rw [wayB_toList, wayB_toList] at h
  exact wayT_inj hM hN h
set_option maxHeartbeats 1000000 in
theorem pop_ev (x5 x6 : ByteArray) (M P : List ByteArray) (w : ByteArray) (p : Nat) (hM : ∀ q ∈ M, nameOkB q = true) (hP : M.take p = P) (hp : p ≤ M.length) (hl : M.length ≤ 4294967282) (r : List It) (n i : Int)
    (y0 : ByteArray) (y1 y2 y3 y4 y5 y6 : Int) (y7 : ByteArray) (R : Bool)
    (hnext : Ev (fun k => if y1 = 2 then spec_l17Next.l0 k x5 x6 (ini P ++ [y0]) ((P ++ [w]) ++ [(⟨#[]⟩ : ByteArray)]) r n (wrap64 (i + 1)) else spec_l17Next.l0 k x5 x6 (ini P) (P ++ [w]) r n (wrap64 (i + 1))) R) (e : Nat) :
    p + 1 + e ≤ M.length + 1 → Ev (fun k => spec_l17Next.l1 k x5 x6 (opn M (p + 1 + e)) (lst M (p + 1 + e)) (wayB P) w r n i y0 y1 y2 y3 y4 y5 y6 y7) R := by
  have hPn : ∀ q ∈ P, nameOkB q = true := fun q hq => hM q (by rw [← hP] at hq; exact List.mem_of_mem_take hq)
  have hPl : P.length = p := by rw [← hP]; simp; omega
  induction e with
  | zero =>
    intro hc
    have e1 : opn M (p + 1 + 0) = ini P := by rw [Nat.add_zero]; unfold opn; rw [ini_take M p hp, hP]
    have e2 : wrap64 (((ini P).length : Int) - 1) = (p : Int) := by rw [ini_len]; unfold wrap64; omega
    have e3 := lst_len M (p + 1 + 0) hc
    have e4 : wrap64 (((lst M (p + 1 + 0)).length : Int) - 1) = (p : Int) := by rw [e3]; unfold wrap64; omega
    have e5 : rdOf ByteArray.empty (ini P) (p : Int) = wayB P := by
      rw [rdS _ _ (by rw [ini_len]; omega), ini_get, List.take_of_length_le (by omega)]
    refine Ev.step (fun k => ?_) hnext
    simp only [spec_l17Next.l1]
    rw [e1, e2, e4, if_pos (by omega), if_pos (by rw [ini_len]; omega), e5, if_pos rfl, if_pos (by omega), if_pos (by omega), Int.toNat_natCast, Nat.add_zero, lst_set M p w hp, hP]
    simp only [Option.bind_some]
    by_cases h2 : y1 = 2
    · rw [if_pos h2, if_pos h2, if_pos (by rw [ini_len]; omega), if_pos (by rw [List.length_append, List.length_singleton]; omega)]
    · rw [if_neg h2, if_neg h2]
  | succ e ih =>
    intro hc
    have e3 := lst_len M (p + 1 + (e + 1)) hc
    have e6 := opn_len M (p + 1 + (e + 1)) hc
    have e2 : wrap64 (((opn M (p + 1 + (e + 1))).length : Int) - 1) = ((p + 1 + e : Nat) : Int) := by rw [e6]; unfold wrap64; omega
    have e4 : wrap64 (((lst M (p + 1 + (e + 1))).length : Int) - 1) = ((p + 1 + e : Nat) : Int) := by rw [e3]; unfold wrap64; omega
    have e5 : rdOf ByteArray.empty (opn M (p + 1 + (e + 1))) ((p + 1 + e : Nat) : Int) = wayB (M.take (p + 1 + e)) := by
      rw [rdS _ _ (by rw [e6]; omega), opn_get]
    have hne : ¬ (wayB (M.take (p + 1 + e))).toList = (wayB P).toList := by
      intro h
      have := wayB_ne (fun q hq => hM q (List.mem_of_mem_take hq)) hPn h
      have := congrArg List.length this
      rw [List.length_take] at this
      omega
    have t1 : (opn M (p + 1 + (e + 1))).take (p + 1 + e) = opn M (p + 1 + e) := by unfold opn; rw [List.take_take, Nat.min_eq_left (by omega)]
    have t2 : (lst M (p + 1 + (e + 1))).take (p + 1 + e) = lst M (p + 1 + e) := by unfold lst; rw [List.take_take, Nat.min_eq_left (by omega)]
    refine Ev.step (fun k => ?_) (ih (by omega))
    simp only [spec_l17Next.l1]
    rw [e2, e4, if_pos (by omega), if_pos (by rw [e6]; omega), e5, if_neg hne, if_pos (by omega), if_pos (by omega), if_pos (by omega), Int.toNat_natCast, t1, t2]
def cnI (l : List It) (i : Nat) : Nat := (nmA l i).length + (if dirI l i = true then 1 else 0)
theorem cnI_le (l : List It) (i : Nat) : cnI l i ≤ (nmA l i).length + 1 := by unfold cnI; split <;> omega
set_option maxHeartbeats 1000000 in
theorem stack_ev {l : List It} {k : Nat} (h : Pre l k) (hk : k ≤ 1000) (hs : ∀ i, (itAt l i).f0.size < 4294967281) (r : List It) (hr : r.length + 1 = k) (hri : ∀ i (hi : i < r.length), r[i] = itAt l (i + 1)) (x5 x6 : ByteArray) (R : Bool)
    (hend : Ev (fun q => spec_l17Next.l2 q x5 x6 (lst (nmA l (k - 1)) (cnI l (k - 1))) (opn (nmA l (k - 1)) (cnI l (k - 1))) ((opn (nmA l (k - 1)) (cnI l (k - 1))).length : Int) 0) R) (d : Nat) :
    ∀ i, i + d = r.length → Ev (fun q => spec_l17Next.l0 q x5 x6 (opn (nmA l i) (cnI l i)) (lst (nmA l i) (cnI l i)) r (r.length : Int) (i : Int)) R := by
  induction d with
  | zero =>
    intro i hi
    have : i = k - 1 := by omega
    subst this
    refine Ev.step (fun q => ?_) hend
    simp only [spec_l17Next.l0]
    rw [if_neg (by omega)]
  | succ d ih =>
    intro i hi
    have hlt : i < r.length := by omega
    obtain ⟨P, n, e, hn, hP⟩ := h.snoc (i := i + 1) (by omega) (by omega)
    have hok := h.ok (i + 1) (by omega)
    obtain ⟨j, hj, ej, hdj⟩ := h.told (K := i + 1) (by omega) hn hP e (h.dir (i + 1) (by omega) (by omega))
    have hc := h.lt i (by omega)
    rw [e] at hc
    obtain ⟨f1, f2⟩ := h.fits' (K := i) (by omega) (show j ≤ i by omega) ej hdj hc
    have hsp := l17Split_ev (itAt l (i + 1)).f0 (hs _) P n e hok
    rw [wayB_above e hn] at hsp
    have hw : wayB (P ++ [n]) = (itAt l (i + 1)).f0 := by rw [← e]; exact wayB_names _
    refine Ev.step (f := fun q => (spec_l17Split.f q ((itAt l (i + 1)).f0)).bind fun bt167 => spec_l17Next.l1 q x5 x6 (opn (nmA l i) (cnI l i)) (lst (nmA l i) (cnI l i)) bt167.1 bt167.2 r (r.length : Int) (i : Int) (itAt l (i + 1)).f0 (itAt l (i + 1)).f1 (itAt l (i + 1)).f2 (itAt l (i + 1)).f3 (itAt l (i + 1)).f4 (itAt l (i + 1)).f5 (itAt l (i + 1)).f6 (itAt l (i + 1)).f7) (fun q => ?_) ?_
    · simp only [spec_l17Next.l0]
      rw [if_pos (by omega), if_pos (by omega), if_pos (by omega), rdI r i hlt, hri i hlt]
    · refine Ev.bind hsp ?_
      have hlen := namesW_len2 (itAt l i).f0 (hs i)
      have hcn : cnI l i = P.length + 1 + (cnI l i - (P.length + 1)) := by unfold cnI; omega
      rw [hcn]
      refine pop_ev x5 x6 (nmA l i) P n P.length (h.names (by omega)) f1 (by unfold cnI at hcn; split at hcn <;> omega) hlen r _ _ _ _ _ _ _ _ _ _ R ?_ _ (by rw [← hcn]; exact cnI_le l i)
      have hih := ih (i + 1) (by omega)
      rw [step_n hlt (by omega)]
      have hnl : (nmA l (i + 1)).length = P.length + 1 := by rw [e]; simp
      by_cases hd : (itAt l (i + 1)).f1 = 2
      · have hdi : dirI l (i + 1) = true := by unfold dirI; simpa using hd
        refine Ev.congr (fun q => ?_) hih
        rw [if_pos hd]
        have a1 : opn (nmA l (i + 1)) (cnI l (i + 1)) = ini P ++ [(itAt l (i + 1)).f0] := by
          unfold opn cnI
          rw [hdi, if_pos rfl, List.take_of_length_le (by rw [ini_len]; omega), e, ini_snoc, hw]
        have a2 : lst (nmA l (i + 1)) (cnI l (i + 1)) = (P ++ [n]) ++ [(⟨#[]⟩ : ByteArray)] := by
          unfold lst cnI
          rw [hdi, if_pos rfl, List.take_of_length_le (by simp), e]
        rw [a1, a2]
      · have hdi : ¬ dirI l (i + 1) = true := by unfold dirI; simpa using hd
        refine Ev.congr (fun q => ?_) hih
        rw [if_neg hd]
        have a1 : opn (nmA l (i + 1)) (cnI l (i + 1)) = ini P := by
          unfold opn cnI
          rw [if_neg hdi, Nat.add_zero, hnl, ini_take _ _ (by omega), e, List.take_left]
        have a2 : lst (nmA l (i + 1)) (cnI l (i + 1)) = P ++ [n] := by
          unfold lst cnI
          rw [if_neg hdi, Nat.add_zero, List.take_left, e]
        rw [a1, a2]
theorem find_ev (M P : List ByteArray) (n : ByteArray) (d : Bool) (hM : ∀ q ∈ M, nameOkB q = true) (hP : ∀ q ∈ P, nameOkB q = true) (hl : M.length ≤ 4294967282) (c : Nat) (hc : c = M.length + (if d = true then 1 else 0)) (m : Nat) :
    ∀ j, j + m = c → (M.take P.length = P → P.length < c → j ≤ P.length) → Ev (fun k => spec_l17Next.l2 k (wayB P) n (lst M c) (opn M c) ((opn M c).length : Int) (j : Int)) (nextB M d P n) := by
  have hcl : c ≤ M.length + 1 := by rw [hc]; split <;> omega
  have l1 := opn_len M c hcl
  have l2 := lst_len M c hcl
  induction m with
  | zero =>
    intro j hj hg
    have hf : nextB M d P n = false := by
      unfold nextB
      rw [decide_eq_false, Bool.false_and]
      rintro ⟨g1, g2⟩
      rw [← hc] at g2
      have := hg g1 g2
      omega
    rw [hf]
    refine Ev.step (f := fun _ => some false) (fun k => ?_) (Ev.now _)
    simp only [spec_l17Next.l2]
    rw [if_neg (by omega)]
  | succ m ih =>
    intro j hj hg
    have e5 : rdOf ByteArray.empty (opn M c) (j : Int) = wayB (M.take j) := by rw [rdS _ _ (by omega), opn_get]
    by_cases hm : M.take j = P
    · have hPl : P.length = j := by rw [← hm]; simp; omega
      have hv : nextB M d P n = Op.bytesLess (rdOf ByteArray.empty (lst M c) (j : Int)).toList n.toList := by
        unfold nextB
        rw [hPl, hm, ← hc, decide_eq_true ⟨rfl, by omega⟩, Bool.true_and, rdS _ _ (by omega), lst_get M c j hcl (by omega)]
      rw [hv]
      refine Ev.step (f := fun _ => some (Op.bytesLess (rdOf ByteArray.empty (lst M c) (j : Int)).toList n.toList)) (fun k => ?_) (Ev.now _)
      simp only [spec_l17Next.l2]
      rw [if_pos (by omega), if_pos (by omega), if_pos (by omega), e5, hm, if_pos rfl, if_pos (by omega)]
    · have hne : ¬ (wayB (M.take j)).toList = (wayB P).toList := fun h => hm (wayB_ne (fun q hq => hM q (List.mem_of_mem_take hq)) hP h)
      refine Ev.step (fun k => ?_) (ih (j + 1) (by omega) (fun g1 g2 => ?_))
      · simp only [spec_l17Next.l2]
        rw [if_pos (by omega), if_pos (by omega), if_pos (by omega), e5, if_neg hne, step_n (show j < c by omega) (by omega)]
      · have := hg g1 g2
        rcases Nat.lt_or_ge j P.length with h | h
        · omega
        · have : j = P.length := by omega
          subst this
          exact absurd g1 hm
theorem next_ev {l : List It} {K : Nat} (h : Pre l (K + 1)) (hK : K + 1 ≤ 1000) (hl : K + 1 ≤ l.length) (hs : ∀ i, (itAt l i).f0.size < 4294967281) (x : It) (hx : x.f0.size < 4294967281) :
    Ev (fun k => spec_l17Next.f k (l.take (K + 1)) x.f0 x.f1 x.f2 x.f3 x.f4 x.f5 x.f6 x.f7) (namesOk x.f0 && (dirAt l (K + 1) (aboveB x.f0).toList && decide (cmpW (itAt l K).f0 x.f0 < 0))) := by
  unfold spec_l17Next.f
  refine Ev.bind (l17Way_ev x.f0 hx) ?_
  unfold innerB
  by_cases ho : namesOk x.f0 = true
  · by_cases hN : namesW x.f0 = []
    · rw [ho, hN]
      have : ¬ cmpW (itAt l K).f0 x.f0 < 0 := by
        unfold cmpW; rw [hN]
        cases namesW (itAt l K).f0 <;> simp [cmpL]
      rw [decide_eq_false this, Bool.and_false]
      exact Ev.now _
    · have hne : (namesW x.f0).isEmpty = false := by cases hq : namesW x.f0 <;> simp [hq] at hN ⊢
      have hnames : ∀ p ∈ namesW x.f0, nameOkB p = true := by rw [namesOk_eq, List.all_eq_true] at ho; exact ho
      have e : namesW x.f0 = (namesW x.f0).dropLast ++ [(namesW x.f0).getLast hN] := (List.dropLast_concat_getLast hN).symm
      have hn := hnames _ (List.getLast_mem hN)
      have hP : ∀ p ∈ (namesW x.f0).dropLast, nameOkB p = true := fun p hp => hnames p (List.dropLast_subset _ hp)
      generalize (namesW x.f0).dropLast = P at e hP
      generalize (namesW x.f0).getLast hN = n at e hn
      rw [ho, hne]
      have hq := next_eq h hn hP e
      rw [Bool.true_and]
      show Ev _ (dirAt l (K + 1) (aboveB x.f0).toList && decide (cmpL (nmA l K) (namesW x.f0) < 0))
      rw [e, ← hq]
      have hsp := l17Split_ev x.f0 hx P n e ho
      rw [wayB_above e hn] at hsp
      refine Ev.congr (f := fun k => (spec_l17Split.f k x.f0).bind fun bt153 => spec_l17Next.l0 k bt153.1 bt153.2 (opn (nmA l 0) (cnI l 0)) (lst (nmA l 0) (cnI l 0)) ((l.take (K + 1)).drop 1) (((l.take (K + 1)).drop 1).length : Int) ((0 : Nat) : Int)) (fun k => ?_) ?_
      · have c0 : cnI l 0 = 1 := by unfold cnI; rw [h.zero, h.rdir]; rfl
        have c1 : (1 : Int) ≤ ((l.take (K + 1)).length : Int) := by rw [List.length_take]; omega
        rw [c0, h.zero]
        simp only [if_pos c1, Option.bind_some]
        rfl
      · refine Ev.bind hsp ?_
        refine stack_ev h hK hs _ (by simp; omega) (fun i hi => ?_) _ _ _ ?_ ((l.take (K + 1)).drop 1).length 0 (by omega)
        · have hi' : i < K := by simp at hi; omega
          rw [List.getElem_drop, List.getElem_take]
          have h1 : itAt l (i + 1) = l[i + 1] := rdI l (i + 1) (by omega)
          rw [h1]
          exact getElem_congr_idx (by omega)
        · rw [Nat.add_sub_cancel]
          exact find_ev (nmA l K) P n (dirI l K) (h.names (by omega)) hP (namesW_len2 _ (hs K)) (cnI l K) rfl (cnI l K) 0 (by omega) (fun _ _ => Nat.zero_le _)
  · have ho' : namesOk x.f0 = false := by simpa using ho
    rw [ho']
    exact Ev.now _

end Go.Proofs.YtibfocaldcjiiaaDoor.Q

/- The reference's GoodItems comes to what the program's does. -/
namespace Go.Proofs.YtibfocaldcjiiaaDoor.Q
open Go.RowKit Go.Proofs.YtibfocaldcjiiaaDoorW.PrintWords Go.Proofs.YtibfocaldcjiiaaDoorW.PrintLast Go.Proofs.YtibfocaldcjiiaaDoorW.PrintMore
attribute [local go_sem] max2_int min2_int max_two min_two max_three min_three max_four min_four   -- for this text's walks alone
set_option linter.unusedVariables false
set_option linter.unusedSimpArgs false

def aloneB (x : It) (i : Int) : Bool := inB 1 3 x.f1 && (inB 0 i x.f6 && (if x.f6 < i then x.f1 != 2 && zerosB x else bareB x.f1 x.f2 x.f3 x.f4 x.f5 x.f7))
def sameB (l : List It) (x : It) : Bool := (itAt l x.f6.toNat).f6 == x.f6 && (itAt l x.f6.toNat).f1 == x.f1
theorem steps_mem {l : List It} {n j : Nat} (h : stepsB l n = true) (hj : j < n) : stepB l j = true := by
  unfold stepsB at h
  rw [List.all_eq_true] at h
  exact h j (List.mem_range.mpr hj)
theorem inB_iff (lo hi n : Int) : inB lo hi n = true ↔ lo ≤ n ∧ n ≤ hi := by unfold inB; simp
theorem item_eq (l : List It) (i : Nat) (hp : ∀ j, j < i → goodItemB l j = true) : goodItemB l i = (aloneB (itAt l i) i && sameB l (itAt l i)) := by
  unfold goodItemB aloneB sameB
  generalize hx : itAt l i = x
  by_cases h6 : x.f6 = (i : Int)
  · rw [if_pos h6, h6, Int.toNat_natCast, hx, h6, (inB_iff 0 i i).mpr (by omega), if_neg (by omega)]
    simp
  · rw [if_neg h6]
    by_cases hb : inB 0 ((i : Int) - 1) x.f6 = true
    · have hb2 := (inB_iff _ _ _).mp hb
      rw [hb, (inB_iff 0 i x.f6).mpr (by omega), if_pos (by omega)]
      by_cases hs : (itAt l x.f6.toNat).f6 = x.f6 ∧ (itAt l x.f6.toNat).f1 = x.f1
      · obtain ⟨s1, s2⟩ := hs
        have hg := hp x.f6.toNat (by omega)
        unfold goodItemB at hg
        rw [if_pos (by rw [s1]; omega), s2] at hg
        have hk : inB 1 3 x.f1 = true := by
          rw [Bool.and_eq_true] at hg; exact hg.1
        rw [s1, s2, hk]
        simp only [beq_self_eq_true, Bool.true_and, Bool.and_true]
        exact Bool.and_comm _ _
      · by_cases s1 : (itAt l x.f6.toNat).f6 = x.f6
        · have s2 : ((itAt l x.f6.toNat).f1 == x.f1) = false := by
            apply beq_eq_false_iff_ne.mpr
            intro s2; exact hs ⟨s1, s2⟩
          rw [s2]; simp
        · have s1' : ((itAt l x.f6.toNat).f6 == x.f6) = false := beq_eq_false_iff_ne.mpr s1
          rw [s1']; simp
    · have hb' : inB 0 ((i : Int) - 1) x.f6 = false := by simpa using hb
      have hb2 : inB 0 (i : Int) x.f6 = false := by
        apply Bool.eq_false_iff.mpr
        intro h
        rw [inB_iff] at h hb
        omega
      rw [hb', hb2]; simp
theorem alone_f (x : It) (i : Int) (hx : x.f7.size < 4294967281) : spec_l17Alone.f x.f0 x.f1 x.f2 x.f3 x.f4 x.f5 x.f6 x.f7 i = some (aloneB x i) := by
  unfold spec_l17Alone.f
  rw [if_pos hx]
  rfl
theorem steps_pre {l : List It} {i : Nat} (h : stepsB l i = true) (hi : 1 ≤ i) (hr : (itAt l 0).f0.toList = [46]) (hd : dirI l 0 = true) : Pre l i := by
  have hst : ∀ j, j < i → namesOk (itAt l j).f0 = true ∧ (0 < j → dirAt l j (aboveB (itAt l j).f0).toList = true ∧ cmpW (itAt l (j - 1)).f0 (itAt l j).f0 < 0) := by
    intro j hj
    have := steps_mem h hj
    unfold stepB at this
    rw [Bool.and_eq_true, Bool.and_eq_true] at this
    refine ⟨this.1, fun h0 => ?_⟩
    have h2 := this.2.2
    rw [decide_eq_false (by omega), Bool.false_or, Bool.and_eq_true, decide_eq_true_eq] at h2
    exact h2
  exact ⟨hr, hd, fun j hj => (hst j hj).1, fun j h0 hj => ((hst j hj).2 h0).1, fun j hj => ((hst (j + 1) hj).2 (by omega)).2⟩
set_option maxHeartbeats 1000000 in
theorem good_loop (l : List It) (hl : l.length ≤ 40) (hr : (itAt l 0).f0.toList = [46]) (hd : dirI l 0 = true ∨ l.length = 1) (hs0 : ∀ i, (itAt l i).f0.size < 4294967281) (hs7 : ∀ i, (itAt l i).f7.size < 4294967281) (d : Nat) :
    ∀ i : Nat, i + d = l.length → stepsB l i = true → Ev (fun k => spec_l17Good.l0 k l l (l.length : Int) (i : Int)) (stepsB l l.length) := by
  induction d with
  | zero =>
    intro i hi h
    have : i = l.length := by omega
    subst this
    rw [h]
    refine Ev.step (f := fun _ => some true) (fun k => ?_) (Ev.now _)
    simp only [spec_l17Good.l0]
    rw [if_neg (by omega)]
  | succ d ih =>
    intro i hi h
    have hlt : i < l.length := by omega
    have hgi : ∀ j, j < i → goodItemB l j = true := fun j hj => by
      have := steps_mem h hj
      unfold stepB at this
      rw [Bool.and_eq_true, Bool.and_eq_true] at this
      exact this.2.1
    have hite := item_eq l i hgi
    have hrd : rd_T50 l (i : Int) = itAt l i := rfl
    have hal := alone_f (itAt l i) (i : Int) (hs7 i)
    have hfalse : stepB l i = false → stepsB l l.length = false := fun hf => stepsB_false l i hf _ hlt
    have hj2 : ∀ b : Bool, aloneB (itAt l i) i = true → (b = true → stepB l i = false) → (b = false → stepB l i = goodItemB l i) →
        Ev (fun k => spec_l17Good.j2 k l l (l.length : Int) (i : Int) b (itAt l i).f0 (itAt l i).f1 (itAt l i).f2 (itAt l i).f3 (itAt l i).f4 (itAt l i).f5 (itAt l i).f6 (itAt l i).f7) (stepsB l l.length) := by
      intro b ha hb1 hb2
      cases b with
      | true =>
        rw [hfalse (hb1 rfl)]
        refine Ev.step (f := fun _ => some false) (fun k => ?_) (Ev.now _)
        simp only [spec_l17Good.j2, if_true]
      | false =>
        have hst := hb2 rfl
        rw [hite, ha, Bool.true_and] at hst
        have hrange : 0 ≤ (itAt l i).f6 ∧ (itAt l i).f6 ≤ i := by
          unfold aloneB at ha
          rw [Bool.and_eq_true, Bool.and_eq_true, inB_iff, inB_iff] at ha
          exact ha.2.1
        have hrd2 : rd_T50 l (itAt l i).f6 = itAt l (itAt l i).f6.toNat := rfl
        by_cases s1 : (itAt l (itAt l i).f6.toNat).f6 = (itAt l i).f6
        · by_cases s2 : (itAt l (itAt l i).f6.toNat).f1 = (itAt l i).f1
          · have hstep : stepB l i = true := by rw [hst]; unfold sameB; rw [beq_iff_eq.mpr s1, beq_iff_eq.mpr s2]; rfl
            refine Ev.step (fun k => ?_) (ih (i + 1) (by omega) (by rw [stepsB_succ, h, hstep]; rfl))
            simp only [spec_l17Good.j2]
            rw [if_neg (by simp), if_pos (by omega), if_pos (by omega), hrd2, if_pos s1, if_pos s2, step_n hlt (by omega)]
          · have hstep : stepB l i = false := by rw [hst]; unfold sameB; rw [show ((itAt l (itAt l i).f6.toNat).f1 == (itAt l i).f1) = false from beq_eq_false_iff_ne.mpr s2]; simp
            rw [hfalse hstep]
            refine Ev.step (f := fun _ => some false) (fun k => ?_) (Ev.now _)
            simp only [spec_l17Good.j2]
            rw [if_neg (by simp), if_pos (by omega), if_pos (by omega), hrd2, if_pos s1, if_neg s2]
        · have hstep : stepB l i = false := by rw [hst]; unfold sameB; rw [show ((itAt l (itAt l i).f6.toNat).f6 == (itAt l i).f6) = false from beq_eq_false_iff_ne.mpr s1]; simp
          rw [hfalse hstep]
          refine Ev.step (f := fun _ => some false) (fun k => ?_) (Ev.now _)
          simp only [spec_l17Good.j2]
          rw [if_neg (by simp), if_pos (by omega), if_pos (by omega), hrd2, if_neg s1]
    by_cases ha : aloneB (itAt l i) i = true
    · by_cases h0 : i = 0
      · subst h0
        refine Ev.step (fun k => ?_) (hj2 false ha (fun e => absurd e (by simp)) (fun _ => ?_))
        · simp only [spec_l17Good.l0]
          rw [if_pos (by omega), if_pos (by omega), if_pos (by omega), hrd, hal]
          simp only [Option.bind_some]
          rw [if_pos ha, if_neg (by omega)]
        · unfold stepB
          have : namesOk (itAt l 0).f0 = true := by unfold namesOk; rw [if_pos hr]
          rw [this]; simp
      · have hd' : dirI l 0 = true := by
          rcases hd with hd | hd
          · exact hd
          · omega
        obtain ⟨K, rfl⟩ : ∃ K, i = K + 1 := ⟨i - 1, by omega⟩
        have hp := steps_pre h (by omega) hr hd'
        have hn := next_ev hp (by omega) (by omega) hs0 (itAt l (K + 1)) (hs0 _)
        generalize hv : (namesOk (itAt l (K + 1)).f0 && (dirAt l (K + 1) (aboveB (itAt l (K + 1)).f0).toList && decide (cmpW (itAt l K).f0 (itAt l (K + 1)).f0 < 0))) = v at hn
        have hst : stepB l (K + 1) = (goodItemB l (K + 1) && v) := by
          unfold stepB
          rw [← hv, decide_eq_false (show ¬ (K + 1 = 0) by omega), Bool.false_or, Nat.add_sub_cancel]
          cases namesOk (itAt l (K + 1)).f0 <;> simp
        refine Ev.step (f := fun k => (spec_l17Next.f k (l.take (K + 1)) (itAt l (K + 1)).f0 (itAt l (K + 1)).f1 (itAt l (K + 1)).f2 (itAt l (K + 1)).f3 (itAt l (K + 1)).f4 (itAt l (K + 1)).f5 (itAt l (K + 1)).f6 (itAt l (K + 1)).f7).bind fun t195 => (spec_l17Good.j2 k l l (l.length : Int) ((K + 1 : Nat) : Int) (!t195) (itAt l (K + 1)).f0 (itAt l (K + 1)).f1 (itAt l (K + 1)).f2 (itAt l (K + 1)).f3 (itAt l (K + 1)).f4 (itAt l (K + 1)).f5 (itAt l (K + 1)).f6 (itAt l (K + 1)).f7)) (fun k => ?_) ?_
        · simp only [spec_l17Good.l0]
          rw [if_pos (by omega), if_pos (by omega), if_pos (by omega), hrd, hal]
          simp only [Option.bind_some]
          rw [if_pos ha, if_pos (by omega), if_pos (by omega), Int.toNat_natCast]
        · refine Ev.bind hn (hj2 (!v) ha (fun e => ?_) (fun e => ?_))
          · rw [hst]; cases v <;> simp at e ⊢
          · rw [hst]; cases v <;> simp at e ⊢
    · have ha' : aloneB (itAt l i) i = false := by simpa using ha
      have hstep : stepB l i = false := by
        unfold stepB
        rw [hite, ha', Bool.false_and, Bool.false_and, Bool.and_false]
      rw [hfalse hstep]
      refine Ev.step (f := fun k => spec_l17Good.j2 k l l (l.length : Int) (i : Int) true (itAt l i).f0 (itAt l i).f1 (itAt l i).f2 (itAt l i).f3 (itAt l i).f4 (itAt l i).f5 (itAt l i).f6 (itAt l i).f7) (fun k => ?_) ?_
      · simp only [spec_l17Good.l0]
        rw [if_pos (by omega), if_pos (by omega), if_pos (by omega), hrd, hal]
        simp only [Option.bind_some]
        rw [if_neg ha]
      · refine Ev.step (f := fun _ => some false) (fun k => ?_) (Ev.now _)
        simp only [spec_l17Good.j2, if_true]
theorem l17Good_ev (l : List It) (hs0 : ∀ i, (itAt l i).f0.size < 4294967281) (hs7 : ∀ i, (itAt l i).f7.size < 4294967281) : Ev (fun k => spec_l17Good.f k l) (goodB l) := by
  unfold spec_l17Good.f
  rw [l1In_f]
  simp only [Option.bind_some]
  have hj : ∀ b, b = true → Ev (fun k => spec_l17Good.j0 k l b) false := by
    rintro b rfl
    refine Ev.step (f := fun _ => some false) (fun k => ?_) (Ev.now _)
    simp only [spec_l17Good.j0, if_true]
  by_cases hn : inB 1 40 (l.length : Int) = true
  · have hlen : 1 ≤ l.length ∧ l.length ≤ 40 := by rw [inB_iff] at hn; omega
    have hg : goodB l = ((itAt l 0).f0.toList == [46] && stepsB l l.length) := by
      unfold goodB
      rw [decide_eq_true hlen.1, decide_eq_true hlen.2]; rfl
    have hrd : rd_T50 l 0 = itAt l 0 := rfl
    rw [hg]
    by_cases h0 : (itAt l 0).f0.toList = [46]
    · have h0' : ((itAt l 0).f0.toList == [46]) = true := by simpa using h0
      rw [h0', Bool.true_and]
      by_cases hk : (itAt l 0).f1 = 2
      · refine Ev.congr (f := fun k => spec_l17Good.j0 k l false) (fun k => ?_) ?_
        · rw [if_pos hn, if_pos (by omega), hrd, if_pos h0, if_pos hk]
        · refine Ev.step (fun k => ?_) (good_loop l hlen.2 h0 (Or.inl (by unfold dirI; simpa using hk)) hs0 hs7 l.length 0 (by omega) rfl)
          simp only [spec_l17Good.j0]; rfl
      · refine Ev.congr (f := fun k => spec_l17Good.j0 k l (decide ((l.length : Int) > 1))) (fun k => ?_) ?_
        · rw [if_pos hn, if_pos (by omega), hrd, if_pos h0, if_neg hk]
        · by_cases h1 : l.length = 1
          · rw [decide_eq_false (by omega)]
            refine Ev.step (fun k => ?_) (good_loop l hlen.2 h0 (Or.inr h1) hs0 hs7 l.length 0 (by omega) rfl)
            simp only [spec_l17Good.j0]; rfl
          · have hst : stepB l 1 = false := by
              unfold stepB
              have : dirAt l 1 (aboveB (itAt l 1).f0).toList = false := by
                have hk' : ((itAt l 0).f1 == 2) = false := beq_eq_false_iff_ne.mpr hk
                simp only [dirAt]
                rw [hk']; simp
              rw [this]; simp
            rw [stepsB_false l 1 hst l.length (by omega)]
            exact hj _ (decide_eq_true (by omega))
    · have h0' : ((itAt l 0).f0.toList == [46]) = false := by simpa using h0
      rw [h0', Bool.false_and]
      refine Ev.congr (f := fun k => spec_l17Good.j0 k l true) (fun k => ?_) (hj _ rfl)
      rw [if_pos hn, if_pos (by omega), hrd, if_neg h0]
  · have hg : goodB l = false := by
      unfold goodB
      rw [inB_iff] at hn
      by_cases h1 : 1 ≤ l.length
      · rw [decide_eq_false (show ¬ l.length ≤ 40 by omega), Bool.false_and, Bool.and_false]
      · rw [decide_eq_false h1, Bool.false_and]
    rw [hg]
    refine Ev.congr (f := fun k => spec_l17Good.j0 k l true) (fun k => ?_) (hj _ rfl)
    rw [if_neg hn]
theorem specGood_ev (l : List It) (hs0 : ∀ i, (itAt l i).f0.size < 4294967281) (hs7 : ∀ i, (itAt l i).f7.size < 4294967281) : Ev (fun k => spec_GoodItems.f k l) (goodB l) := by
  unfold spec_GoodItems.f
  exact Ev.bind (l17Good_ev l hs0 hs7) (Ev.now _)

end Go.Proofs.YtibfocaldcjiiaaDoor.Q

/- What the laws over items ask beside the two functions: copies, sizes, equality. -/
namespace Go.Proofs.YtibfocaldcjiiaaDoor.Q
open Go.RowKit Go.Proofs.YtibfocaldcjiiaaDoorW.PrintWords Go.Proofs.YtibfocaldcjiiaaDoorW.PrintLast Go.Proofs.YtibfocaldcjiiaaDoorW.PrintMore
attribute [local go_sem] max2_int min2_int max_two min_two max_three min_three max_four min_four   -- for this text's walks alone
set_option linter.unusedVariables false
set_option linter.unusedSimpArgs false

theorem step_i {i n : Nat} (h : i < n) (hn : n ≤ 1759218604391) : wrap64 ((i : Int) + 1) = ((i + 1 : Nat) : Int) := by
  unfold wrap64; omega
abbrev Li := S49
theorem rdLi (xs : List Li) (i : Nat) (h : i < xs.length) : rd_T49 xs (i : Int) = xs[i] := by
  unfold rd_T49; simp [List.getD, h]
def conv (x : Li) : It := ⟨x.f0, x.f1, x.f2, x.f3, x.f4, x.f5, x.f6, x.f7⟩
theorem toItemS_loop (l0 : List Li) (hl : l0.length ≤ 1759218604391) (d : Nat) : ∀ (i : Nat) (acc : List It), i + d = l0.length → acc.length = l0.length →
    Ev (fun k => laws_toItemS.l0 k l0 acc (i : Int)) (acc.take i ++ (l0.drop i).map conv) := by
  induction d with
  | zero =>
    intro i acc hi ha
    refine Ev.step (f := fun _ => some acc) (fun k => ?_) ?_
    · simp only [laws_toItemS.l0]; rw [if_neg (by omega)]
    · have : acc.take i ++ (l0.drop i).map conv = acc := by
        rw [List.drop_of_length_le (by omega), List.take_of_length_le (by omega)]; simp
      rw [this]; exact Ev.now acc
  | succ d ih =>
    intro i acc hi ha
    have hlt : i < l0.length := by omega
    have := ih (i + 1) (acc.set i (conv l0[i])) (by omega) (by simpa using ha)
    refine Ev.step (f := fun k => laws_toItemS.l0 k l0 (acc.set i (conv l0[i])) ((i + 1 : Nat) : Int)) (fun k => ?_) ?_
    · simp only [laws_toItemS.l0]
      rw [if_pos (by omega), if_pos (by omega)]
      simp only [laws_toItem.f, Option.bind_some]
      rw [if_pos (by omega), step_i hlt hl, rdLi _ _ hlt]; rfl
    · have e : (acc.set i (conv l0[i])).take (i + 1) ++ (l0.drop (i + 1)).map conv = acc.take i ++ (l0.drop i).map conv := by
        rw [List.drop_eq_getElem_cons hlt, List.map_cons, List.take_succ_eq_append_getElem (by simp; omega), List.take_set_of_le (by omega), List.getElem_set_self, List.append_assoc]; rfl
      rw [← e]; exact this
theorem toItemS_ev (l0 : List Li) (hl : l0.length ≤ 1759218604391) : Ev (fun k => laws_toItemS.f k l0) (l0.map conv) := by
  refine Ev.congr (f := fun k => laws_toItemS.l0 k l0 (List.replicate l0.length z50) ((0 : Nat) : Int)) (fun k => ?_) ?_
  · simp only [laws_toItemS.f]
    rw [if_pos (by omega), if_pos (by omega)]; rfl
  · simpa using toItemS_loop l0 hl l0.length 0 (List.replicate l0.length z50) (by omega) (by simp)
theorem eqItem_self (a : It) : laws_eqItem.f a.f0 a.f1 a.f2 a.f3 a.f4 a.f5 a.f6 a.f7 a.f0 a.f1 a.f2 a.f3 a.f4 a.f5 a.f6 a.f7 = some true := by
  unfold laws_eqItem.f; simp
theorem eqItemS_loop (l : List It) (hl : l.length ≤ 1759218604391) (d : Nat) : ∀ i : Nat, i + d = l.length → Ev (fun k => laws_eqItemS.l0 k l l (i : Int)) true := by
  induction d with
  | zero =>
    intro i hi
    refine Ev.step (f := fun _ => some true) (fun k => ?_) (Ev.now true)
    simp only [laws_eqItemS.l0]; rw [if_neg (by omega)]
  | succ d ih =>
    intro i hi
    have hlt : i < l.length := by omega
    refine Ev.step (f := fun k => laws_eqItemS.l0 k l l ((i + 1 : Nat) : Int)) (fun k => ?_) (ih (i + 1) (by omega))
    simp only [laws_eqItemS.l0]
    rw [if_pos (by omega), if_pos (by omega), if_pos (by omega), rdI _ _ hlt, eqItem_self, step_i hlt hl]; simp only [Option.bind_some, if_true]
theorem eqItemS_ev (l : List It) (hl : l.length ≤ 1759218604391) : Ev (fun k => laws_eqItemS.f k l l) true := by
  refine Ev.congr (f := fun k => laws_eqItemS.l0 k l l ((0 : Nat) : Int)) (fun k => ?_) (eqItemS_loop l hl l.length 0 (by omega))
  simp only [laws_eqItemS.f, if_true]; rfl
theorem szItem_ev (x : Li) (a : Int) (h0 : x.f0.size ≤ maxLen) (h7 : x.f7.size ≤ maxLen) (ha : 0 ≤ a) (ha2 : a ≤ 1048576) :
    ∃ r, laws_szItem.f x.f0 x.f1 x.f2 x.f3 x.f4 x.f5 x.f6 x.f7 a = some r ∧ r ≤ 1048576 ∧ (0 ≤ r → x.f0.size ≤ 1048576 ∧ x.f7.size ≤ 1048576) := by
  unfold laws_szItem.f wrap64
  unfold maxLen at h0 h7
  split
  · exact ⟨_, rfl, by omega, by omega⟩
  · split
    · exact ⟨_, rfl, by omega, by omega⟩
    · exact ⟨_, rfl, by omega, by omega⟩
theorem szItemS_loop (l : List Li) (hl : l.length ≤ 1759218604391) (hs : ∀ x ∈ l, x.f0.size ≤ maxLen ∧ x.f7.size ≤ maxLen) (d : Nat) : ∀ (i : Nat) (a : Int), i + d = l.length → 0 ≤ a → a ≤ 1048576 →
    ∃ r, Ev (fun k => laws_szItemS.l0 k l a (i : Int)) r ∧ r ≤ 1048576 ∧ (0 ≤ r → ∀ x ∈ l.drop i, x.f0.size ≤ 1048576 ∧ x.f7.size ≤ 1048576) := by
  induction d with
  | zero =>
    intro i a hi h0 h1
    refine ⟨a, Ev.step (f := fun _ => some a) (fun k => ?_) (Ev.now a), h1, fun _ => ?_⟩
    · simp only [laws_szItemS.l0]; rw [if_neg (by omega)]
    · rw [List.drop_of_length_le (by omega)]; simp
  | succ d ih =>
    intro i a hi h0 h1
    have hlt : i < l.length := by omega
    obtain ⟨hs0, hs7⟩ := hs l[i] (List.getElem_mem hlt)
    obtain ⟨r, hr, hr1, hr2⟩ := szItem_ev l[i] a hs0 hs7 h0 h1
    have e : ∀ k, laws_szItemS.l0 (k + 1) l a (i : Int) = if r < 0 then some (-1) else laws_szItemS.l0 k l r ((i + 1 : Nat) : Int) := fun k => by
      simp only [laws_szItemS.l0]
      rw [if_pos (by omega), if_pos (by omega), rdLi _ _ hlt, hr, step_i hlt hl]; rfl
    by_cases hc : r < 0
    · exact ⟨-1, Ev.step (f := fun _ => some (-1)) (fun k => by rw [e k, if_pos hc]) (Ev.now _), by omega, by omega⟩
    · obtain ⟨q, hq, hq1, hq2⟩ := ih (i + 1) r (by omega) (by omega) hr1
      refine ⟨q, Ev.step (f := fun k => laws_szItemS.l0 k l r ((i + 1 : Nat) : Int)) (fun k => by rw [e k, if_neg hc]) hq, hq1, fun h => ?_⟩
      rw [List.drop_eq_getElem_cons hlt]
      intro x hx
      rcases List.mem_cons.mp hx with rfl | hx
      · exact hr2 (by omega)
      · exact hq2 h x hx
theorem szItemS_ev (l : List Li) (hl : l.length ≤ maxLen) (hs : ∀ x ∈ l, x.f0.size ≤ maxLen ∧ x.f7.size ≤ maxLen) (a : Int) (h0 : 0 ≤ a) (h1 : a ≤ 1048576) :
    ∃ r, Ev (fun k => laws_szItemS.f k l a) r ∧ r ≤ 1048576 ∧ (0 ≤ r → l.length ≤ 1048576 ∧ ∀ x ∈ l, x.f0.size ≤ 1048576 ∧ x.f7.size ≤ 1048576) := by
  have e : wrap64 (a - (l.length : Int)) = a - l.length := by unfold wrap64; unfold maxLen at hl; omega
  by_cases hc : a - (l.length : Int) < 0
  · exact ⟨-1, Ev.congr (f := fun _ => some (-1)) (fun k => by simp only [laws_szItemS.f]; rw [e, if_pos hc]) (Ev.now _), by omega, by omega⟩
  · obtain ⟨r, hr, h, hz⟩ := szItemS_loop l (by omega) hs l.length 0 (a - l.length) (by omega) (by omega) (by omega)
    exact ⟨r, Ev.congr (fun k => by simp only [laws_szItemS.f]; rw [e, if_neg hc]; rfl) hr, h, fun hr => ⟨by omega, by simpa using hz hr⟩⟩
theorem conv_small (l0 : List Li) (hz : ∀ x ∈ l0, x.f0.size ≤ 1048576 ∧ x.f7.size ≤ 1048576) (i : Nat) : (itAt (l0.map conv) i).f0.size < 4294967281 ∧ (itAt (l0.map conv) i).f7.size < 4294967281 := by
  by_cases hi : i < (l0.map conv).length
  · have : itAt (l0.map conv) i = (l0.map conv)[i] := rdI _ i hi
    rw [this, List.getElem_map]
    have := hz _ (List.getElem_mem (by simpa using hi))
    show (l0[i]'_).f0.size < _ ∧ (l0[i]'_).f7.size < _
    omega
  · have : itAt (l0.map conv) i = z50 := by unfold itAt rd_T50; simp [List.getD, List.getElem?_eq_none (show l0.length ≤ i by simpa using hi)]
    rw [this]; decide
theorem implGood_f (l : List It) (h : ∀ i, (itAt l i).f0.size < 4294967281) : impl_GoodItems.f l = some (goodB l) := by
  unfold impl_GoodItems.f
  rw [if_pos]
  rw [List.all_eq_true]
  intro x hx
  obtain ⟨i, hi, rfl⟩ := List.getElem_of_mem hx
  have h1 : itAt l i = l[i] := rdI l i hi
  rw [← h1]
  exact decide_eq_true (h i)

end Go.Proofs.YtibfocaldcjiiaaDoor.Q

/- The law FnExactNeedsOf over lists alone: the printed functions answer true. -/
namespace Go.Proofs.YtibfocaldcjiiaaDoor.Q
open Go.RowKit Go.Proofs.YtibfocaldcjiiaaDoorW.PrintWords Go.Proofs.YtibfocaldcjiiaaDoorW.PrintLast Go.Proofs.YtibfocaldcjiiaaDoorW.PrintMore
attribute [local go_sem] max2_int min2_int max_two min_two max_three min_three max_four min_four   -- for this text's walks alone
set_option linter.unusedVariables false
set_option linter.unusedSimpArgs false

theorem needs_l0 : ∀ k a b l n i, impl_needs.l0 k a b l n i = spec_l17Needs.l0 k a b l n i := by
  intro k
  induction k with
  | zero => intros; rfl
  | succ k ih => intros; simp only [impl_needs.l0, spec_l17Needs.l0, ih]
theorem needs_f (k : Nat) (l : List It) : impl_needs.f k l = spec_l17Needs.f k l := by
  unfold impl_needs.f spec_l17Needs.f; rw [needs_l0]
theorem needs_loop (l : List It) (hl : l.length ≤ 1759218604391) (d : Nat) : ∀ (i : Nat) (a b : Int), i + d = l.length → ∃ r, Ev (fun k => spec_l17Needs.l0 k a b l (l.length : Int) (i : Int)) r := by
  induction d with
  | zero =>
    intro i a b hi
    refine ⟨(a, b), Ev.step (f := fun _ => some (a, b)) (fun k => ?_) (Ev.now _)⟩
    simp only [spec_l17Needs.l0]; rw [if_neg (by omega)]
  | succ d ih =>
    intro i a b hi
    have hlt : i < l.length := by omega
    have e : ∀ k, spec_l17Needs.l0 (k + 1) a b l (l.length : Int) (i : Int) = if (itAt l i).f6 = (i : Int) then spec_l17Needs.l0 k (wrap64 (a + 1)) (wrap64 (b + ((itAt l i).f7.size : Int))) l (l.length : Int) ((i + 1 : Nat) : Int) else spec_l17Needs.l0 k a (wrap64 (b + ((itAt l i).f7.size : Int))) l (l.length : Int) ((i + 1 : Nat) : Int) := fun k => by
      simp only [spec_l17Needs.l0]
      rw [if_pos (by omega), if_pos (by omega), if_pos (by omega), step_i hlt hl]
      rfl
    by_cases h : (itAt l i).f6 = (i : Int)
    · obtain ⟨r, hr⟩ := ih (i + 1) (wrap64 (a + 1)) (wrap64 (b + ((itAt l i).f7.size : Int))) (by omega)
      exact ⟨r, Ev.step (fun k => by rw [e k, if_pos h]) hr⟩
    · obtain ⟨r, hr⟩ := ih (i + 1) a (wrap64 (b + ((itAt l i).f7.size : Int))) (by omega)
      exact ⟨r, Ev.step (fun k => by rw [e k, if_neg h]) hr⟩
theorem needs_ev (l : List It) (hl : l.length ≤ 1759218604391) (hs0 : ∀ i, (itAt l i).f0.size < 4294967281) (hs7 : ∀ i, (itAt l i).f7.size < 4294967281) :
    ∃ r, Ev (fun k => spec_NeedsOf.f k l) r ∧ Ev (fun k => impl_NeedsOf.f k l) r := by
  have hg := l17Good_ev l hs0 hs7
  cases hq : goodB l with
  | false =>
    rw [hq] at hg
    refine ⟨(0, 0, false), ?_, ?_⟩
    · unfold spec_NeedsOf.f
      refine Ev.bind hg ?_
      exact Ev.congr (f := fun _ => some (0, 0, false)) (fun k => by rw [if_neg (by simp)]) (Ev.now _)
    · unfold impl_NeedsOf.f
      rw [implGood_f l hs0, hq]
      exact Ev.congr (f := fun _ => some (0, 0, false)) (fun k => by simp) (Ev.now _)
  | true =>
    rw [hq] at hg
    obtain ⟨r, hr⟩ := needs_loop l hl l.length 0 0 0 (by omega)
    have hr2 : Ev (fun k => spec_l17Needs.f k l) r := hr
    refine ⟨(r.1, r.2, true), ?_, ?_⟩
    · unfold spec_NeedsOf.f
      refine Ev.bind hg ?_
      refine Ev.congr (fun k => by rw [if_pos rfl]) ?_
      exact Ev.bind hr2 (Ev.now _)
    · unfold impl_NeedsOf.f
      rw [implGood_f l hs0, hq]
      refine Ev.congr (f := fun k => (spec_l17Needs.f k l).bind fun bt333 => (some (bt333.1, bt333.2, true))) (fun k => by simp [needs_f]) ?_
      exact Ev.bind hr2 (Ev.now _)
/-- The law over lists alone. -/
theorem pureNeedsOf (l0 : List Li) (h0 : l0.length ≤ maxLen) (hs0 : ∀ x ∈ l0, x.f0.size ≤ maxLen ∧ x.f7.size ≤ maxLen) : ∃ k, laws_FnExactNeedsOf.f k l0 = some true := by
  refine Ev.rounds ?_
  unfold laws_FnExactNeedsOf.f
  obtain ⟨r, hr, hr1, hr2⟩ := szItemS_ev l0 h0 hs0 1048576 (by omega) (by omega)
  refine Ev.bind hr ?_
  by_cases hc : r < 0
  · exact Ev.congr (f := fun _ => some true) (fun k => by rw [if_pos hc]) (Ev.now _)
  refine Ev.congr (fun k => by rw [if_neg hc]) ?_
  obtain ⟨b0, hz⟩ := hr2 (by omega)
  have t0 := toItemS_ev l0 (by omega)
  have hsm := conv_small l0 hz
  obtain ⟨v, hspec, himpl⟩ := needs_ev (l0.map conv) (by rw [List.length_map]; omega) (fun i => (hsm i).1) (fun i => (hsm i).2)
  refine Ev.bind t0 (Ev.bind hspec (Ev.bind t0 (Ev.bind himpl ?_)))
  refine Ev.congr (f := fun k => laws_FnExactNeedsOf.j0 k l0 (l0.map conv) false) (fun k => by rw [if_pos rfl, if_pos rfl]; simp) ?_
  refine Ev.step (f := fun k => ((laws_toItemS.f k l0).bind fun t348 => ((laws_eqItemS.f k (l0.map conv) t348).bind fun t351 => (if t351 = true then (some true) else (some false))))) (fun k => ?_) ?_
  · simp only [laws_FnExactNeedsOf.j0]; rw [if_neg (by simp)]
  refine Ev.bind t0 (Ev.bind (eqItemS_ev _ (by rw [List.length_map]; omega)) ?_)
  exact Ev.congr (f := fun _ => some true) (fun k => by rw [if_pos rfl]) (Ev.now _)

end Go.Proofs.YtibfocaldcjiiaaDoor.Q
