/- Texts of this claim, merged by a program (wip/tools/merge.py): HGoodItem, HGoodDef, HAbove, HGoodItems, HMapI, HByWay, HWays, HOrder, HDiffDef, HPut18. -/
import Derived.Test.YthhmkbchdiflcaaGreatDoorF2
import Derived.Test.YthhmkbchdiflcaaGreatDoorF4
import Derived.Test.YthhmkbchdiflcaaGreatDoorF15
import Derived.Test.YthhmkbchdiflcaaGreatDoorF14
import Derived.Test.YthhmkbchdiflcaaGreatDoorF5
import Derived.Test.YthhmkbchdiflcaaGreatDoorF8
import Derived.Test.YthhmkbchdiflcaaGreatDoorF13
import Derived.Test.YthhmkbchdiflcaaGreatDoorF11
import Derived.Test.YthhmkbchdiflcaaGreatDoorF16
import Derived.Maps.OwnOps
import Derived.Maps.Views
import Derived.StillTailTactics
import Derived.Deep.QuietTactic
import Derived.BigQuiet
import Derived.Test.YthhmkbchdiflcaaGreatDoorF10
import Derived.Maps.OwnSet
import Derived.Maps.RangeWalk
import Derived.Outline
import Derived.Deep.RegionHeld3
import Derived.Deep.DeepCutAuto
import Derived.Test.YthhmkbchdiflcaaGreatDoorF3
import Derived.Laws.Rows
import Derived.Great.BuildSlice
import Derived.Deep.CutBlock
/- impl.isGoodItem: whether an item is right behind those ahead of it. -/
namespace Go.Proofs.YthhmkbchdiflcaaGreatDoor.Q
open Go.RowKit Go.Proofs.YthhmkbchdiflcaaGreatDoorW.PrintWords Go.Proofs.YthhmkbchdiflcaaGreatDoorW.PrintLast Go.Proofs.YthhmkbchdiflcaaGreatDoorW.PrintMore
attribute [local go_sem] max2_int min2_int max_two min_two max_three min_three max_four min_four   -- for this text's walks alone
set_option linter.unusedVariables false
set_option linter.unusedSimpArgs false

abbrev It := S74
/-- The i-th item, of no items a bare one. -/
def itAt (l : List It) (i : Nat) : It := rd_T74 l (i : Int)
def zerosB (x : It) : Bool := x.f2 == 0 && (x.f3 == 0 && (x.f4 == 0 && (x.f5 == 0 && nilB x.f7)))
def goodItemB (l : List It) (i : Nat) : Bool :=
  if (itAt l i).f6 = i then inB 1 3 (itAt l i).f1 && bareB (itAt l i).f1 (itAt l i).f2 (itAt l i).f3 (itAt l i).f4 (itAt l i).f5 (itAt l i).f7
  else inB 0 ((i : Int) - 1) (itAt l i).f6 && (zerosB (itAt l i) &&
    ((itAt l (itAt l i).f6.toNat).f1 == (itAt l i).f1 && ((itAt l (itAt l i).f6.toNat).f1 != 2 && (itAt l (itAt l i).f6.toNat).f6 == (itAt l i).f6)))
def impl_isGoodItem.f (l : List It) (i : Int) : Option Bool := if 0 ≤ i ∧ i < l.length ∧ l.length ≤ 1000 then some (goodItemB l i.toNat) else none
theorem itemEq (d : Nat) (w : World) (x0 y0 : ByteArray) (x1 y1 : Int) (x2 y2 : Int) (x3 y3 : Int) (x4 y4 : Int) (x5 y5 : Int) (x6 y6 : Int) (x7 y7 : ByteArray) :
    (Op.equalIn (d + 2) 74 (.agg #[.string x0, .int .i64 x1, .int .i64 x2, .int .i64 x3, .int .i64 x4, .int .i64 x5, .int .i64 x6, .string x7]) (.agg #[.string y0, .int .i64 y1, .int .i64 y2, .int .i64 y3, .int .i64 y4, .int .i64 y5, .int .i64 y6, .string y7])).run Tryz.prog w = .ok (x0.toList == y0.toList && (x1 == y1 && (x2 == y2 && (x3 == y3 && (x4 == y4 && (x5 == y5 && (x6 == y6 && (x7.toList == y7.toList)))))))) w := by
  refine eqA_of Tryz.underlying74 (by kernel_rfl) ?_
  refine eqf_cons (by rfl) (by go_simp; rfl) (by go_simp; rfl) (by go_simp) ?_
  refine eqf_cons (by rfl) (by go_simp; rfl) (by go_simp; rfl) (by go_simp) ?_
  refine eqf_cons (by rfl) (by go_simp; rfl) (by go_simp; rfl) (by go_simp) ?_
  refine eqf_cons (by rfl) (by go_simp; rfl) (by go_simp; rfl) (by go_simp) ?_
  refine eqf_cons (by rfl) (by go_simp; rfl) (by go_simp; rfl) (by go_simp) ?_
  refine eqf_cons (by rfl) (by go_simp; rfl) (by go_simp; rfl) (by go_simp) ?_
  refine eqf_cons (by rfl) (by go_simp; rfl) (by go_simp; rfl) (by go_simp) ?_
  exact eqf_last (by rfl) (by go_simp; rfl) (by go_simp; rfl) (by go_simp)
attribute [local go_sem high] itemEq
/-- The eight cells of an item. -/
structure Cells (w : World) (a : Addr) (x : It) : Prop where
  h0 : w.cell? a = some (.string x.f0)
  h1 : w.cell? ⟨a.block, a.off + 1, none⟩ = some (.int .i64 x.f1)
  h2 : w.cell? ⟨a.block, a.off + 2, none⟩ = some (.int .i64 x.f2)
  h3 : w.cell? ⟨a.block, a.off + 3, none⟩ = some (.int .i64 x.f3)
  h4 : w.cell? ⟨a.block, a.off + 4, none⟩ = some (.int .i64 x.f4)
  h5 : w.cell? ⟨a.block, a.off + 5, none⟩ = some (.int .i64 x.f5)
  h6 : w.cell? ⟨a.block, a.off + 6, none⟩ = some (.int .i64 x.f6)
  h7 : w.cell? ⟨a.block, a.off + 7, none⟩ = some (.string x.f7)
set_option maxHeartbeats 4000000 in
set_option maxRecDepth 100000 in
theorem isGood_own (w : World) (ad : Addr) (i j c0 n : Nat) (hi : i < n) (x y : It) (r : Bool)
    (cx : Cells w (ad.add (i * 8)) x) (hs : x.f6 = (i : Int)) (hr : r = (inB 1 3 x.f1 && bareB x.f1 x.f2 x.f3 x.f4 x.f5 x.f7)) :
    Calls Tryz.prog 97 #[.slice (some ad) n c0, .int .i64 (i : Int)] w fun e w' => e = .returned (.bool r) ∧ Below w.heap.size w w' := by
  have hu1 := Tryz.underlying74
  have hu2 := Tryz.underlying26
  have HI := Aside0.mk (fun W => impl_isItem.calls x.f0 x.f1 x.f2 x.f3 x.f4 x.f5 x.f6 x.f7 r W (by rw [hr]; rfl))
  obtain ⟨x0, x1, x2, x3, x4, x5, x6, x7⟩ := x
  obtain ⟨hx0, hx1, hx2, hx3, hx4, hx5, hx6, hx7⟩ := cx
  simp only at hx0 hx1 hx2 hx3 hx4 hx5 hx6 hx7
  have p1 : ((0 : Int) ≤ (i : Int)) = True := eq_true (by omega)
  have p2 : ((i : Int) < (n : Int)) = True := eq_true (by omega)
  simp only at hs HI
  subst hs
  clear hr hi
  go_enter Tryz.func97, Tryz.ntmps97
  go_wp2_with fail
  refine (HI.out _).mono ?_; rintro e w1 ⟨rfl, hd⟩
  go_wp2
  go_ret
  exact ⟨by first | rfl | (simp; done) | (simp [*]; done), below_step (by repeat (first | exact Below.refl _ _ | apply below_alloc | apply pw_below_drewN | apply below_drew1)) hd⟩
set_option maxHeartbeats 4000000 in
set_option maxRecDepth 100000 in
theorem isGood_out (w : World) (ad : Addr) (i j c0 n : Nat) (hi : i < n) (x y : It) 
    (cx : Cells w (ad.add (i * 8)) x) (hn : n ≤ 1000) (hs : x.f6 ≠ (i : Int)) (hw : inB 0 ((i : Int) - 1) x.f6 = false) :
    Calls Tryz.prog 97 #[.slice (some ad) n c0, .int .i64 (i : Int)] w fun e w' => e = .returned (.bool false) ∧ Below w.heap.size w w' := by
  have hu1 := Tryz.underlying74
  have hu2 := Tryz.underlying26
  have HW := Aside0.mk (fun W => impl_within.calls x.f6 0 ((i : Int) - 1) _ W (within_f x.f6 0 ((i : Int) - 1)))
  rw [hw] at HW
  have hwr : wrap64 ((i : Int) - 1) = (i : Int) - 1 := by unfold wrap64; omega

  obtain ⟨x0, x1, x2, x3, x4, x5, x6, x7⟩ := x
  obtain ⟨hx0, hx1, hx2, hx3, hx4, hx5, hx6, hx7⟩ := cx
  simp only at hx0 hx1 hx2 hx3 hx4 hx5 hx6 hx7
  have p1 : ((0 : Int) ≤ (i : Int)) = True := eq_true (by omega)
  have p2 : ((i : Int) < (n : Int)) = True := eq_true (by omega)
  simp only at hs HW
  have hs1 : (x6 == (i : Int)) = false := beq_eq_false_iff_ne.mpr hs
  clear hi hn hw
  go_enter Tryz.func97, Tryz.ntmps97
  go_wp2_with fail
  refine (HW.out _).mono ?_; rintro e w1 ⟨rfl, ⟨n1, rfl⟩⟩
  go_wp2
  go_ret
  exact ⟨by first | rfl | (simp; done) | (simp [*]; done), by repeat (first | exact Below.refl _ _ | apply below_alloc | apply pw_below_drewN | apply below_drew1)⟩
set_option maxHeartbeats 4000000 in
set_option maxRecDepth 100000 in
theorem isGood_nz (w : World) (ad : Addr) (i j c0 n : Nat) (hi : i < n) (x y : It) 
    (cx : Cells w (ad.add (i * 8)) x) (hn : n ≤ 1000) (hs : x.f6 ≠ (i : Int)) (hw : inB 0 ((i : Int) - 1) x.f6 = true) (hz : zerosB x = false) :
    Calls Tryz.prog 97 #[.slice (some ad) n c0, .int .i64 (i : Int)] w fun e w' => e = .returned (.bool false) ∧ Below w.heap.size w w' := by
  have hu1 := Tryz.underlying74
  have hu2 := Tryz.underlying26
  have HW := Aside0.mk (fun W => impl_within.calls x.f6 0 ((i : Int) - 1) _ W (within_f x.f6 0 ((i : Int) - 1)))
  rw [hw] at HW
  have hwr : wrap64 ((i : Int) - 1) = (i : Int) - 1 := by unfold wrap64; omega
  have hz1 : (!(x.f2 == 0) || (!(x.f3 == 0) || (!(x.f4 == 0) || (!(x.f5 == 0) || !x.f7.toList.isEmpty)))) = true := by
    rw [show (!(x.f2 == 0) || (!(x.f3 == 0) || (!(x.f4 == 0) || (!(x.f5 == 0) || !x.f7.toList.isEmpty)))) = !zerosB x by unfold zerosB; rw [← nilB_eq, show (x.f7.toList == []) = x.f7.toList.isEmpty by cases x.f7.toList <;> rfl]; simp only [Bool.not_and], hz]; rfl

  obtain ⟨x0, x1, x2, x3, x4, x5, x6, x7⟩ := x
  obtain ⟨hx0, hx1, hx2, hx3, hx4, hx5, hx6, hx7⟩ := cx
  simp only at hx0 hx1 hx2 hx3 hx4 hx5 hx6 hx7
  have p1 : ((0 : Int) ≤ (i : Int)) = True := eq_true (by omega)
  have p2 : ((i : Int) < (n : Int)) = True := eq_true (by omega)
  simp only at hs HW hz1
  have hs1 : (x6 == (i : Int)) = false := beq_eq_false_iff_ne.mpr hs
  clear hi hn hw hz
  go_enter Tryz.func97, Tryz.ntmps97
  go_wp2_with fail
  refine (HW.out _).mono ?_; rintro e w1 ⟨rfl, ⟨n1, rfl⟩⟩
  go_wp2
  go_ret
  exact ⟨by first | rfl | (simp; done) | (simp [*]; done), by repeat (first | exact Below.refl _ _ | apply below_alloc | apply pw_below_drewN | apply below_drew1)⟩
set_option maxHeartbeats 4000000 in
set_option maxRecDepth 100000 in
theorem isGood_k (w : World) (ad : Addr) (i j c0 n : Nat) (hi : i < n) (x y : It) 
    (cx : Cells w (ad.add (i * 8)) x) (cy : Cells w (ad.add (j * 8)) y) (hj : j < n) (hn : n ≤ 1000) (hs : x.f6 ≠ (i : Int)) (hw : inB 0 ((i : Int) - 1) x.f6 = true) (hz : zerosB x = true) (hxj : x.f6 = j) (hk : (y.f1 == x.f1) = false) :
    Calls Tryz.prog 97 #[.slice (some ad) n c0, .int .i64 (i : Int)] w fun e w' => e = .returned (.bool false) ∧ Below w.heap.size w w' := by
  have hu1 := Tryz.underlying74
  have hu2 := Tryz.underlying26
  have HW := Aside0.mk (fun W => impl_within.calls x.f6 0 ((i : Int) - 1) _ W (within_f x.f6 0 ((i : Int) - 1)))
  rw [hw] at HW
  have hwr : wrap64 ((i : Int) - 1) = (i : Int) - 1 := by unfold wrap64; omega
  have hz1 : x.f2 = 0 ∧ x.f3 = 0 ∧ x.f4 = 0 ∧ x.f5 = 0 ∧ x.f7.toList = [] := by
    unfold zerosB at hz; rw [← nilB_eq] at hz; simpa using hz

  obtain ⟨x0, x1, x2, x3, x4, x5, x6, x7⟩ := x
  obtain ⟨hx0, hx1, hx2, hx3, hx4, hx5, hx6, hx7⟩ := cx
  simp only at hx0 hx1 hx2 hx3 hx4 hx5 hx6 hx7
  obtain ⟨y0, y1, y2, y3, y4, y5, y6, y7⟩ := y
  obtain ⟨hy0, hy1, hy2, hy3, hy4, hy5, hy6, hy7⟩ := cy
  simp only at hy0 hy1 hy2 hy3 hy4 hy5 hy6 hy7
  have hlb : (ad.add (j * 8)).block < w.heap.size := World.block_lt_of_cell? _ _ hy0
  have hz0_ : ∀ o, (w.alloc o).cell? (ad.add (j * 8)) = some (.string y0) := fun o => (Below.cell (B := w.heap.size) (w := w) (p := (ad.add (j * 8))) (by apply below_alloc; exact Below.refl _ _) hlb).trans hy0
  have hz1_ : ∀ o, (w.alloc o).cell? ⟨(ad.add (j * 8)).block, (ad.add (j * 8)).off + 1, none⟩ = some (.int .i64 y1) := fun o => (Below.cell (B := w.heap.size) (w := w) (p := ⟨(ad.add (j * 8)).block, (ad.add (j * 8)).off + 1, none⟩) (by apply below_alloc; exact Below.refl _ _) hlb).trans hy1
  have hz2_ : ∀ o, (w.alloc o).cell? ⟨(ad.add (j * 8)).block, (ad.add (j * 8)).off + 2, none⟩ = some (.int .i64 y2) := fun o => (Below.cell (B := w.heap.size) (w := w) (p := ⟨(ad.add (j * 8)).block, (ad.add (j * 8)).off + 2, none⟩) (by apply below_alloc; exact Below.refl _ _) hlb).trans hy2
  have hz3_ : ∀ o, (w.alloc o).cell? ⟨(ad.add (j * 8)).block, (ad.add (j * 8)).off + 3, none⟩ = some (.int .i64 y3) := fun o => (Below.cell (B := w.heap.size) (w := w) (p := ⟨(ad.add (j * 8)).block, (ad.add (j * 8)).off + 3, none⟩) (by apply below_alloc; exact Below.refl _ _) hlb).trans hy3
  have hz4_ : ∀ o, (w.alloc o).cell? ⟨(ad.add (j * 8)).block, (ad.add (j * 8)).off + 4, none⟩ = some (.int .i64 y4) := fun o => (Below.cell (B := w.heap.size) (w := w) (p := ⟨(ad.add (j * 8)).block, (ad.add (j * 8)).off + 4, none⟩) (by apply below_alloc; exact Below.refl _ _) hlb).trans hy4
  have hz5_ : ∀ o, (w.alloc o).cell? ⟨(ad.add (j * 8)).block, (ad.add (j * 8)).off + 5, none⟩ = some (.int .i64 y5) := fun o => (Below.cell (B := w.heap.size) (w := w) (p := ⟨(ad.add (j * 8)).block, (ad.add (j * 8)).off + 5, none⟩) (by apply below_alloc; exact Below.refl _ _) hlb).trans hy5
  have hz6_ : ∀ o, (w.alloc o).cell? ⟨(ad.add (j * 8)).block, (ad.add (j * 8)).off + 6, none⟩ = some (.int .i64 y6) := fun o => (Below.cell (B := w.heap.size) (w := w) (p := ⟨(ad.add (j * 8)).block, (ad.add (j * 8)).off + 6, none⟩) (by apply below_alloc; exact Below.refl _ _) hlb).trans hy6
  have hz7_ : ∀ o, (w.alloc o).cell? ⟨(ad.add (j * 8)).block, (ad.add (j * 8)).off + 7, none⟩ = some (.string y7) := fun o => (Below.cell (B := w.heap.size) (w := w) (p := ⟨(ad.add (j * 8)).block, (ad.add (j * 8)).off + 7, none⟩) (by apply below_alloc; exact Below.refl _ _) hlb).trans hy7
  have q1 : ((0 : Int) ≤ (j : Int)) = True := eq_true (by omega)
  have q2 : ((j : Int) < (n : Int)) = True := eq_true (by omega)
  have p1 : ((0 : Int) ≤ (i : Int)) = True := eq_true (by omega)
  have p2 : ((i : Int) < (n : Int)) = True := eq_true (by omega)
  simp only at hs HW hz1 hxj
  subst hxj
  obtain ⟨rfl, rfl, rfl, rfl, hz0⟩ := hz1
  have hz2 : x7.toList.isEmpty = true := by rw [hz0]; rfl
  clear hz0
  have hs1 : ((j : Int) == (i : Int)) = false := beq_eq_false_iff_ne.mpr hs
  clear hi hn hw hz hj
  simp only at hk
  go_enter Tryz.func97, Tryz.ntmps97
  go_wp2_with fail
  refine (HW.out _).mono ?_; rintro e w1 ⟨rfl, ⟨n1, rfl⟩⟩
  go_wp2
  go_ret
  exact ⟨by first | rfl | (simp; done) | (simp [*]; done), by repeat (first | exact Below.refl _ _ | apply below_alloc | apply pw_below_drewN | apply below_drew1)⟩
set_option maxHeartbeats 4000000 in
set_option maxRecDepth 100000 in
theorem isGood_d (w : World) (ad : Addr) (i j c0 n : Nat) (hi : i < n) (x y : It) 
    (cx : Cells w (ad.add (i * 8)) x) (cy : Cells w (ad.add (j * 8)) y) (hj : j < n) (hn : n ≤ 1000) (hs : x.f6 ≠ (i : Int)) (hw : inB 0 ((i : Int) - 1) x.f6 = true) (hz : zerosB x = true) (hxj : x.f6 = j) (hk : y.f1 = x.f1) (hd : y.f1 = 2) :
    Calls Tryz.prog 97 #[.slice (some ad) n c0, .int .i64 (i : Int)] w fun e w' => e = .returned (.bool false) ∧ Below w.heap.size w w' := by
  have hu1 := Tryz.underlying74
  have hu2 := Tryz.underlying26
  have HW := Aside0.mk (fun W => impl_within.calls x.f6 0 ((i : Int) - 1) _ W (within_f x.f6 0 ((i : Int) - 1)))
  rw [hw] at HW
  have hwr : wrap64 ((i : Int) - 1) = (i : Int) - 1 := by unfold wrap64; omega
  have hz1 : x.f2 = 0 ∧ x.f3 = 0 ∧ x.f4 = 0 ∧ x.f5 = 0 ∧ x.f7.toList = [] := by
    unfold zerosB at hz; rw [← nilB_eq] at hz; simpa using hz

  obtain ⟨x0, x1, x2, x3, x4, x5, x6, x7⟩ := x
  obtain ⟨hx0, hx1, hx2, hx3, hx4, hx5, hx6, hx7⟩ := cx
  simp only at hx0 hx1 hx2 hx3 hx4 hx5 hx6 hx7
  obtain ⟨y0, y1, y2, y3, y4, y5, y6, y7⟩ := y
  obtain ⟨hy0, hy1, hy2, hy3, hy4, hy5, hy6, hy7⟩ := cy
  simp only at hy0 hy1 hy2 hy3 hy4 hy5 hy6 hy7
  have hlb : (ad.add (j * 8)).block < w.heap.size := World.block_lt_of_cell? _ _ hy0
  have hz0_ : ∀ o, (w.alloc o).cell? (ad.add (j * 8)) = some (.string y0) := fun o => (Below.cell (B := w.heap.size) (w := w) (p := (ad.add (j * 8))) (by apply below_alloc; exact Below.refl _ _) hlb).trans hy0
  have hz1_ : ∀ o, (w.alloc o).cell? ⟨(ad.add (j * 8)).block, (ad.add (j * 8)).off + 1, none⟩ = some (.int .i64 y1) := fun o => (Below.cell (B := w.heap.size) (w := w) (p := ⟨(ad.add (j * 8)).block, (ad.add (j * 8)).off + 1, none⟩) (by apply below_alloc; exact Below.refl _ _) hlb).trans hy1
  have hz2_ : ∀ o, (w.alloc o).cell? ⟨(ad.add (j * 8)).block, (ad.add (j * 8)).off + 2, none⟩ = some (.int .i64 y2) := fun o => (Below.cell (B := w.heap.size) (w := w) (p := ⟨(ad.add (j * 8)).block, (ad.add (j * 8)).off + 2, none⟩) (by apply below_alloc; exact Below.refl _ _) hlb).trans hy2
  have hz3_ : ∀ o, (w.alloc o).cell? ⟨(ad.add (j * 8)).block, (ad.add (j * 8)).off + 3, none⟩ = some (.int .i64 y3) := fun o => (Below.cell (B := w.heap.size) (w := w) (p := ⟨(ad.add (j * 8)).block, (ad.add (j * 8)).off + 3, none⟩) (by apply below_alloc; exact Below.refl _ _) hlb).trans hy3
  have hz4_ : ∀ o, (w.alloc o).cell? ⟨(ad.add (j * 8)).block, (ad.add (j * 8)).off + 4, none⟩ = some (.int .i64 y4) := fun o => (Below.cell (B := w.heap.size) (w := w) (p := ⟨(ad.add (j * 8)).block, (ad.add (j * 8)).off + 4, none⟩) (by apply below_alloc; exact Below.refl _ _) hlb).trans hy4
  have hz5_ : ∀ o, (w.alloc o).cell? ⟨(ad.add (j * 8)).block, (ad.add (j * 8)).off + 5, none⟩ = some (.int .i64 y5) := fun o => (Below.cell (B := w.heap.size) (w := w) (p := ⟨(ad.add (j * 8)).block, (ad.add (j * 8)).off + 5, none⟩) (by apply below_alloc; exact Below.refl _ _) hlb).trans hy5
  have hz6_ : ∀ o, (w.alloc o).cell? ⟨(ad.add (j * 8)).block, (ad.add (j * 8)).off + 6, none⟩ = some (.int .i64 y6) := fun o => (Below.cell (B := w.heap.size) (w := w) (p := ⟨(ad.add (j * 8)).block, (ad.add (j * 8)).off + 6, none⟩) (by apply below_alloc; exact Below.refl _ _) hlb).trans hy6
  have hz7_ : ∀ o, (w.alloc o).cell? ⟨(ad.add (j * 8)).block, (ad.add (j * 8)).off + 7, none⟩ = some (.string y7) := fun o => (Below.cell (B := w.heap.size) (w := w) (p := ⟨(ad.add (j * 8)).block, (ad.add (j * 8)).off + 7, none⟩) (by apply below_alloc; exact Below.refl _ _) hlb).trans hy7
  have q1 : ((0 : Int) ≤ (j : Int)) = True := eq_true (by omega)
  have q2 : ((j : Int) < (n : Int)) = True := eq_true (by omega)
  have p1 : ((0 : Int) ≤ (i : Int)) = True := eq_true (by omega)
  have p2 : ((i : Int) < (n : Int)) = True := eq_true (by omega)
  simp only at hs HW hz1 hxj
  subst hxj
  obtain ⟨rfl, rfl, rfl, rfl, hz0⟩ := hz1
  have hz2 : x7.toList.isEmpty = true := by rw [hz0]; rfl
  clear hz0
  have hs1 : ((j : Int) == (i : Int)) = false := beq_eq_false_iff_ne.mpr hs
  clear hi hn hw hz hj
  simp only at hk hd
  subst hk
  subst hd
  go_enter Tryz.func97, Tryz.ntmps97
  go_wp2_with fail
  refine (HW.out _).mono ?_; rintro e w1 ⟨rfl, ⟨n1, rfl⟩⟩
  go_wp2
  go_ret
  exact ⟨by first | rfl | (simp; done) | (simp [*]; done), by repeat (first | exact Below.refl _ _ | apply below_alloc | apply pw_below_drewN | apply below_drew1)⟩
set_option maxHeartbeats 4000000 in
set_option maxRecDepth 100000 in
theorem isGood_s (w : World) (ad : Addr) (i j c0 n : Nat) (hi : i < n) (x y : It) 
    (cx : Cells w (ad.add (i * 8)) x) (cy : Cells w (ad.add (j * 8)) y) (hj : j < n) (hn : n ≤ 1000) (hs : x.f6 ≠ (i : Int)) (hw : inB 0 ((i : Int) - 1) x.f6 = true) (hz : zerosB x = true) (hxj : x.f6 = j) (hk : y.f1 = x.f1) (hd : ¬ y.f1 = 2) :
    Calls Tryz.prog 97 #[.slice (some ad) n c0, .int .i64 (i : Int)] w fun e w' => e = .returned (.bool (y.f6 == x.f6)) ∧ Below w.heap.size w w' := by
  have hu1 := Tryz.underlying74
  have hu2 := Tryz.underlying26
  have HW := Aside0.mk (fun W => impl_within.calls x.f6 0 ((i : Int) - 1) _ W (within_f x.f6 0 ((i : Int) - 1)))
  rw [hw] at HW
  have hwr : wrap64 ((i : Int) - 1) = (i : Int) - 1 := by unfold wrap64; omega
  have hz1 : x.f2 = 0 ∧ x.f3 = 0 ∧ x.f4 = 0 ∧ x.f5 = 0 ∧ x.f7.toList = [] := by
    unfold zerosB at hz; rw [← nilB_eq] at hz; simpa using hz

  obtain ⟨x0, x1, x2, x3, x4, x5, x6, x7⟩ := x
  obtain ⟨hx0, hx1, hx2, hx3, hx4, hx5, hx6, hx7⟩ := cx
  simp only at hx0 hx1 hx2 hx3 hx4 hx5 hx6 hx7
  obtain ⟨y0, y1, y2, y3, y4, y5, y6, y7⟩ := y
  obtain ⟨hy0, hy1, hy2, hy3, hy4, hy5, hy6, hy7⟩ := cy
  simp only at hy0 hy1 hy2 hy3 hy4 hy5 hy6 hy7
  have hlb : (ad.add (j * 8)).block < w.heap.size := World.block_lt_of_cell? _ _ hy0
  have hz0_ : ∀ o, (w.alloc o).cell? (ad.add (j * 8)) = some (.string y0) := fun o => (Below.cell (B := w.heap.size) (w := w) (p := (ad.add (j * 8))) (by apply below_alloc; exact Below.refl _ _) hlb).trans hy0
  have hz1_ : ∀ o, (w.alloc o).cell? ⟨(ad.add (j * 8)).block, (ad.add (j * 8)).off + 1, none⟩ = some (.int .i64 y1) := fun o => (Below.cell (B := w.heap.size) (w := w) (p := ⟨(ad.add (j * 8)).block, (ad.add (j * 8)).off + 1, none⟩) (by apply below_alloc; exact Below.refl _ _) hlb).trans hy1
  have hz2_ : ∀ o, (w.alloc o).cell? ⟨(ad.add (j * 8)).block, (ad.add (j * 8)).off + 2, none⟩ = some (.int .i64 y2) := fun o => (Below.cell (B := w.heap.size) (w := w) (p := ⟨(ad.add (j * 8)).block, (ad.add (j * 8)).off + 2, none⟩) (by apply below_alloc; exact Below.refl _ _) hlb).trans hy2
  have hz3_ : ∀ o, (w.alloc o).cell? ⟨(ad.add (j * 8)).block, (ad.add (j * 8)).off + 3, none⟩ = some (.int .i64 y3) := fun o => (Below.cell (B := w.heap.size) (w := w) (p := ⟨(ad.add (j * 8)).block, (ad.add (j * 8)).off + 3, none⟩) (by apply below_alloc; exact Below.refl _ _) hlb).trans hy3
  have hz4_ : ∀ o, (w.alloc o).cell? ⟨(ad.add (j * 8)).block, (ad.add (j * 8)).off + 4, none⟩ = some (.int .i64 y4) := fun o => (Below.cell (B := w.heap.size) (w := w) (p := ⟨(ad.add (j * 8)).block, (ad.add (j * 8)).off + 4, none⟩) (by apply below_alloc; exact Below.refl _ _) hlb).trans hy4
  have hz5_ : ∀ o, (w.alloc o).cell? ⟨(ad.add (j * 8)).block, (ad.add (j * 8)).off + 5, none⟩ = some (.int .i64 y5) := fun o => (Below.cell (B := w.heap.size) (w := w) (p := ⟨(ad.add (j * 8)).block, (ad.add (j * 8)).off + 5, none⟩) (by apply below_alloc; exact Below.refl _ _) hlb).trans hy5
  have hz6_ : ∀ o, (w.alloc o).cell? ⟨(ad.add (j * 8)).block, (ad.add (j * 8)).off + 6, none⟩ = some (.int .i64 y6) := fun o => (Below.cell (B := w.heap.size) (w := w) (p := ⟨(ad.add (j * 8)).block, (ad.add (j * 8)).off + 6, none⟩) (by apply below_alloc; exact Below.refl _ _) hlb).trans hy6
  have hz7_ : ∀ o, (w.alloc o).cell? ⟨(ad.add (j * 8)).block, (ad.add (j * 8)).off + 7, none⟩ = some (.string y7) := fun o => (Below.cell (B := w.heap.size) (w := w) (p := ⟨(ad.add (j * 8)).block, (ad.add (j * 8)).off + 7, none⟩) (by apply below_alloc; exact Below.refl _ _) hlb).trans hy7
  have q1 : ((0 : Int) ≤ (j : Int)) = True := eq_true (by omega)
  have q2 : ((j : Int) < (n : Int)) = True := eq_true (by omega)
  have p1 : ((0 : Int) ≤ (i : Int)) = True := eq_true (by omega)
  have p2 : ((i : Int) < (n : Int)) = True := eq_true (by omega)
  simp only at hs HW hz1 hxj
  subst hxj
  obtain ⟨rfl, rfl, rfl, rfl, hz0⟩ := hz1
  have hz2 : x7.toList.isEmpty = true := by rw [hz0]; rfl
  clear hz0
  have hs1 : ((j : Int) == (i : Int)) = false := beq_eq_false_iff_ne.mpr hs
  clear hi hn hw hz hj
  simp only at hk hd
  subst hk
  go_enter Tryz.func97, Tryz.ntmps97
  go_wp2_with fail
  refine (HW.out _).mono ?_; rintro e w1 ⟨rfl, ⟨n1, rfl⟩⟩
  go_wp2
  go_ret
  exact ⟨by first | rfl | (simp; done) | (simp [*]; done), by repeat (first | exact Below.refl _ _ | apply below_alloc | apply pw_below_drewN | apply below_drew1)⟩
theorem cells_at {w : World} {A : Option Addr} {n : Nat} {l : List It} (h : Kd.C k74 w A n l) (i : Nat) (h1 : i < n) : ∃ ad, A = some ad ∧ Cells w (ad.add (i * 8)) (itAt l i) := by
  obtain ⟨ad, e, a0, a1, a2, a3, a4, a5, a6, a7⟩ := at_T74 h (i : Int) (by omega) (by omega)
  exact ⟨ad, e, ⟨a0, a1, a2, a3, a4, a5, a6, a7⟩⟩
theorem impl_isGoodItem.calls (A0 : Option Addr) (c0 : Nat) (l0 : List It) (a1 : Int) (r : Bool) (w : World) (hr0 : Kd.C k74 w A0 l0.length l0) (hc0 : l0.length ≤ c0) (h : impl_isGoodItem.f l0 a1 = some r) :
    Calls Tryz.prog 97 #[.slice A0 l0.length c0, .int .i64 a1] w fun e w' => e = .returned (.bool r) ∧ Below w.heap.size w w' := by
  unfold impl_isGoodItem.f at h
  split at h
  case isFalse => exact absurd h (by simp)
  rename_i hg
  obtain ⟨g1, g2, g3⟩ := hg
  injection h with h
  subst h
  obtain ⟨i, rfl⟩ : ∃ i : Nat, a1 = i := ⟨a1.toNat, by omega⟩
  rw [Int.toNat_natCast]
  have hi : i < l0.length := by omega
  obtain ⟨ad, rfl, cx⟩ := cells_at hr0 i hi
  unfold goodItemB
  by_cases h6 : (itAt l0 i).f6 = (i : Int)
  · rw [if_pos h6]
    exact isGood_own w ad i 0 c0 _ hi _ (itAt l0 i) _ cx h6 rfl
  · rw [if_neg h6]
    by_cases hw : inB 0 ((i : Int) - 1) (itAt l0 i).f6 = true
    · rw [hw, Bool.true_and]
      by_cases hz : zerosB (itAt l0 i) = true
      · rw [hz, Bool.true_and]
        obtain ⟨j, hj⟩ : ∃ j : Nat, (itAt l0 i).f6 = j := ⟨(itAt l0 i).f6.toNat, by unfold inB at hw; simp at hw; omega⟩
        have hj1 : j < l0.length := by unfold inB at hw; simp at hw; omega
        obtain ⟨ad', e', cy⟩ := cells_at hr0 j hj1
        obtain rfl : ad = ad' := by injection e'
        have hjj : (itAt l0 i).f6.toNat = j := by omega
        rw [hjj]
        by_cases hk : (itAt l0 j).f1 = (itAt l0 i).f1
        · have hk' : ((itAt l0 j).f1 == (itAt l0 i).f1) = true := by simpa using hk
          rw [hk', Bool.true_and]
          by_cases hd : (itAt l0 j).f1 = 2
          · have hd' : ((itAt l0 j).f1 != 2) = false := by simpa using hd
            rw [hd', Bool.false_and]
            exact isGood_d w ad i j c0 _ hi _ _ cx cy hj1 g3 h6 hw hz hj hk hd
          · have hd' : ((itAt l0 j).f1 != 2) = true := by simpa using hd
            rw [hd', Bool.true_and]
            exact isGood_s w ad i j c0 _ hi _ _ cx cy hj1 g3 h6 hw hz hj hk hd
        · have hk' : ((itAt l0 j).f1 == (itAt l0 i).f1) = false := by simpa using hk
          rw [hk', Bool.false_and]
          exact isGood_k w ad i j c0 _ hi _ _ cx cy hj1 g3 h6 hw hz hj hk'
      · have hz' : zerosB (itAt l0 i) = false := by simpa using hz
        rw [hz', Bool.false_and]
        exact isGood_nz w ad i 0 c0 _ hi _ (itAt l0 i) cx g3 h6 hw hz'
    · have hw' : inB 0 ((i : Int) - 1) (itAt l0 i).f6 = false := by simpa using hw
      rw [hw', Bool.false_and]
      exact isGood_out w ad i 0 c0 _ hi _ (itAt l0 i) cx g3 h6 hw'

end Go.Proofs.YthhmkbchdiflcaaGreatDoor.Q

/- What the program's GoodItems asks, as plain functions; the printed callees come to them. -/
namespace Go.Proofs.YthhmkbchdiflcaaGreatDoor.Q
open Go.RowKit Go.Proofs.YthhmkbchdiflcaaGreatDoorW.PrintWords Go.Proofs.YthhmkbchdiflcaaGreatDoorW.PrintLast Go.Proofs.YthhmkbchdiflcaaGreatDoorW.PrintMore
attribute [local go_sem] max2_int min2_int max_two min_two max_three min_three max_four min_four   -- for this text's walks alone
set_option linter.unusedVariables false
set_option linter.unusedSimpArgs false

def namesW (s : ByteArray) : List ByteArray := if s.toList = [46] then [] else slashL s
def namesOk (s : ByteArray) : Bool := if s.toList = [46] then true else !(slashL s).any (fun p => !nameOkB p)
theorem namesOf_f (s : ByteArray) (hs : s.size < 4294967281) : impl_namesOf.f s = some (namesW s, namesOk s) := by
  unfold impl_namesOf.f namesW namesOk
  by_cases h : s.toList = [46]
  · simp [h]
  · rw [if_neg h, if_pos hs, if_neg h, if_neg h]
/-- The last place of c ahead of n, -1 where there is none. -/
def lastAt (s : ByteArray) (c : Int) : Nat → Int
  | 0 => -1
  | n + 1 => if bt s n = c then n else lastAt s c n
theorem lastAt_lt (s : ByteArray) (c : Int) : ∀ n, -1 ≤ lastAt s c n ∧ lastAt s c n < n
  | 0 => by simp [lastAt]
  | n + 1 => by
    have := lastAt_lt s c n
    simp only [lastAt]
    split <;> omega
def aboveB (s : ByteArray) : ByteArray := if 0 ≤ lastAt s 47 s.size then s.extract 0 (lastAt s 47 s.size).toNat else ⟨#[46]⟩
def cmpS (a b : ByteArray) : Int := if Op.bytesLess a.toList b.toList = true then -1 else if Op.bytesLess b.toList a.toList = true then 1 else 0
def cmpL : List ByteArray → List ByteArray → Int
  | [], [] => 0
  | [], _ :: _ => -1
  | _ :: _, [] => 1
  | a :: x, b :: y => if cmpS a b = 0 then cmpL x y else cmpS a b
theorem cmp_f (a b : ByteArray) : cmp_Compare_string.f a b = some (cmpS a b) := by
  unfold cmp_Compare_string.f cmp_isNaN_string.f cmpS
  simp only [Option.bind_some]
  simp
  split
  · rfl
  · split <;> rfl
theorem cmp_loop (x y : List ByteArray) (hx : x.length ≤ 4294967282) (d : Nat) : ∀ i : Nat, i + d = x.length → i ≤ y.length → Ev (fun k => slices_Compare_string_string.l0 k x y x (x.length : Int) (i : Int)) (cmpL (x.drop i) (y.drop i)) := by
  induction d with
  | zero =>
    intro i hi hy
    rw [List.drop_of_length_le (show x.length ≤ i by omega)]
    by_cases hl : x.length < y.length
    · refine Ev.step (f := fun _ => some (-1)) (fun k => ?_) ?_
      · simp only [slices_Compare_string_string.l0]; rw [if_neg (by omega), if_pos (by omega)]
      · rw [List.drop_eq_getElem_cons (show i < y.length by omega)]; exact Ev.now _
    · refine Ev.step (f := fun _ => some 0) (fun k => ?_) ?_
      · simp only [slices_Compare_string_string.l0]; rw [if_neg (by omega), if_neg (by omega)]
      · rw [List.drop_of_length_le (show y.length ≤ i by omega)]; exact Ev.now _
  | succ d ih =>
    intro i hi hy
    have hlt : i < x.length := by omega
    have hw := step_n (i := i) (n := x.length) hlt (by omega)
    rw [List.drop_eq_getElem_cons hlt]
    by_cases hl : i < y.length
    · rw [List.drop_eq_getElem_cons hl]
      simp only [cmpL]
      have e : ∀ k, slices_Compare_string_string.l0 (k + 1) x y x (x.length : Int) (i : Int) = if cmpS x[i] y[i] = 0 then slices_Compare_string_string.l0 k x y x (x.length : Int) ((i + 1 : Nat) : Int) else some (cmpS x[i] y[i]) := fun k => by
        simp only [slices_Compare_string_string.l0]
        rw [if_pos (by omega), if_pos (by omega), if_pos (by omega), if_neg (by omega), if_pos (by omega), rdS _ _ hlt, rdS _ _ hl, cmp_f, hw]
        rfl
      by_cases hc : cmpS x[i] y[i] = 0
      · rw [if_pos hc]
        exact Ev.step (fun k => by rw [e k, if_pos hc]) (ih (i + 1) (by omega) (by omega))
      · rw [if_neg hc]
        exact Ev.step (f := fun _ => some (cmpS x[i] y[i])) (fun k => by rw [e k, if_neg hc]) (Ev.now _)
    · rw [List.drop_of_length_le (show y.length ≤ i by omega)]
      refine Ev.step (f := fun _ => some 1) (fun k => ?_) (Ev.now _)
      simp only [slices_Compare_string_string.l0]
      rw [if_pos (by omega), if_pos (by omega), if_pos (by omega), if_pos (by omega)]
def cmpW (a b : ByteArray) : Int := cmpL (namesW a) (namesW b)
theorem namesW_len (s : ByteArray) (hs : s.size < 4294967281) : (namesW s).length ≤ 4294967282 := by
  unfold namesW
  split
  · simp
  · exact slash_len s hs
theorem compareWays_ev (a b : ByteArray) (ha : a.size < 4294967281) (hb : b.size < 4294967281) : Ev (fun k => impl_compareWays.f k a b) (cmpW a b) := by
  unfold impl_compareWays.f slices_Compare_string_string.f
  rw [namesOf_f a ha, namesOf_f b hb]
  simp only [Option.bind_some]
  have := cmp_loop (namesW a) (namesW b) (namesW_len a ha) (namesW a).length 0 (by omega) (by omega)
  exact Ev.bind this (Ev.now _)
theorem rdI (l : List It) (i : Nat) (h : i < l.length) : rd_T74 l (i : Int) = l[i] := by
  unfold rd_T74; simp [List.getD, h]
/-- What the map of directories tells of a way, behind the first i items. -/
def dirAt (l : List It) : Nat → List UInt8 → Bool
  | 0, _ => false
  | i + 1, s => if (itAt l i).f0.toList = s then (itAt l i).f1 == 2 else dirAt l i s
def stepB (l : List It) (i : Nat) : Bool :=
  namesOk (itAt l i).f0 && (goodItemB l i && (decide (i = 0) || (dirAt l i (aboveB (itAt l i).f0).toList && decide (cmpW (itAt l (i - 1)).f0 (itAt l i).f0 < 0))))
def stepsB (l : List It) (n : Nat) : Bool := (List.range n).all (stepB l)
def goodB (l : List It) : Bool := decide (1 ≤ l.length) && (decide (l.length ≤ 40) && ((itAt l 0).f0.toList == [46] && stepsB l l.length))

end Go.Proofs.YthhmkbchdiflcaaGreatDoor.Q

/- impl.aboveOf, and the call of it draws nothing. -/
namespace Go.Proofs.YthhmkbchdiflcaaGreatDoor.Q
open Go.RowKit Go.Proofs.YthhmkbchdiflcaaGreatDoorW.PrintWords Go.Proofs.YthhmkbchdiflcaaGreatDoorW.PrintLast Go.Proofs.YthhmkbchdiflcaaGreatDoorW.PrintMore
attribute [local go_sem] max2_int min2_int max_two min_two max_three min_three max_four min_four   -- for this text's walks alone
set_option linter.unusedVariables false
set_option linter.unusedSimpArgs false

set_option maxHeartbeats 1000000 in
set_option maxRecDepth 100000 in
theorem lastIdx_still (s : ByteArray) (c : Int) (hs : s.size < 4294967281) (r : Int) (hr : lastAt s c s.size = r) (w : World) :
    Calls Tryz.prog 214 #[.string s, .int .u8 c] w fun e w' => e = .returned (.int .i64 r) ∧ w' = w := by
  go_enter Tryz.func214, Tryz.ntmps214
  go_wp2
  go_loopg [5] s.size (fun gg i wr => ∃ n : Nat, n ≤ gg ∧ n ≤ s.size ∧ i = .int .i64 ((n : Int) - 1) ∧ Aside0 (lastAt s c n = r) ∧ wr = w)
  case atStart => exact ⟨s.size, Nat.le_refl _, Nat.le_refl _, by first | rfl | go_num, ⟨hr⟩, rfl⟩
  case round =>
    obtain ⟨n, hg, hn, rfl, HL, rfl⟩ := hrel
    cases n with
    | zero =>
      have c3 : decide ((0 : Int) ≤ ((0 : Nat) : Int) - 1) = false := by decide
      have hl := HL.out
      simp only [lastAt] at hl
      clear HL hr
      subst hl
      go_wp2
      go_ret
      exact ⟨rfl, rfl⟩
    | succ n =>
      have e1 : ((n + 1 : Nat) : Int) - 1 = n := by omega
      rw [e1]
      have c3 : decide ((0 : Int) ≤ (n : Int)) = true := by simp
      have p6 : ((0 : Int) ≤ (n : Int)) = True := eq_true (by omega)
      have q6 : ((n : Int) < (s.size : Int)) = True := eq_true (by omega)
      have hx6 : ∀ (h : n < s.size), ((s[n]'h).toNat : Int) = bt s (n : Int) := fun h => bt_at s (n : Int) h
      have hl := HL.out
      simp only [lastAt] at hl
      clear HL
      by_cases hc : bt s n = c
      · have c7 : (bt s n == c) = true := by simpa using hc
        rw [if_pos hc] at hl
        clear hc hr
        subst hl
        go_wp2
        go_ret
        exact ⟨rfl, rfl⟩
      · have c7 : (bt s n == c) = false := by simpa using hc
        rw [if_neg hc] at hl
        have HL := Aside0.mk hl
        clear hl hc
        go_wp2
        go_roundg n
        case measure => omega
        case rel => exact ⟨n, Nat.le_refl _, by omega, by first | rfl | go_num, HL, rfl⟩
theorem lastIdx_still2 (s : ByteArray) (c : Int) (hs : s.size < 4294967281) (w : World) :
    Calls Tryz.prog 152 #[.string s, .int .u8 c] w fun e w' => e = .returned (.int .i64 (lastAt s c s.size)) ∧ w' = w := by
  have HX := Aside0.mk (fun W => lastIdx_still s c hs _ rfl W)
  generalize lastAt s c s.size = q at HX ⊢
  go_enter Tryz.func152, Tryz.ntmps152
  go_wp2_with fail
  refine (HX.out _).mono ?_; rintro e w1 ⟨rfl, rfl⟩
  go_wp2
  go_ret
  exact ⟨rfl, rfl⟩
theorem aboveOf_still (s : ByteArray) (hs : s.size < 4294967281) (w : World) :
    Calls Tryz.prog 98 #[.string s] w fun e w' => e = .returned (.string (aboveB s)) ∧ w' = w := by
  have HX := Aside0.mk (fun W => lastIdx_still2 s 47 hs W)
  have hlt := lastAt_lt s 47 s.size
  unfold aboveB
  generalize lastAt s 47 s.size = q at HX hlt ⊢
  by_cases h0 : 0 ≤ q
  · obtain ⟨m, rfl⟩ : ∃ m : Nat, q = m := ⟨q.toNat, by omega⟩
    rw [if_pos h0, Int.toNat_natCast]
    have c3 : decide ((0 : Int) ≤ (m : Int)) = true := by simp
    have p6 : ((0 : Int) ≤ (m : Int)) = True := eq_true (by omega)
    have q6 : ((m : Int) ≤ (s.size : Int)) = True := eq_true (by omega)
    go_enter Tryz.func98, Tryz.ntmps98
    go_wp2_with fail
    refine (HX.out _).mono ?_; rintro e w1 ⟨rfl, rfl⟩
    go_wp2
    go_ret
    exact ⟨by first | rfl | (simp; done), rfl⟩
  · rw [if_neg h0]
    have c3 : decide (0 ≤ q) = false := by simpa using h0
    go_enter Tryz.func98, Tryz.ntmps98
    go_wp2_with fail
    refine (HX.out _).mono ?_; rintro e w1 ⟨rfl, rfl⟩
    go_wp2
    go_ret
    exact ⟨by first | rfl | (simp; done), rfl⟩

end Go.Proofs.YthhmkbchdiflcaaGreatDoor.Q

/- impl.GoodItems: the walk. -/
namespace Go.Proofs.YthhmkbchdiflcaaGreatDoor.Q
open Go.RowKit Go.Proofs.YthhmkbchdiflcaaGreatDoorW.PrintWords Go.Proofs.YthhmkbchdiflcaaGreatDoorW.PrintLast Go.Proofs.YthhmkbchdiflcaaGreatDoorW.PrintMore
attribute [local go_sem] max2_int min2_int max_two min_two max_three min_three max_four min_four   -- for this text's walks alone
set_option linter.unusedVariables false
set_option linter.unusedSimpArgs false

open Go.Maps Go.WideMaps
def impl_GoodItems.f (l : List It) : Option Bool := if (l.all fun x => decide (x.f0.size < 4294967281)) = true then some (goodB l) else none
theorem keyLaw : Keyed Tryz.prog 9 := string_keyed Tryz.underlying9
theorem zeroBool (w : World) : (zeroValue 4).run Tryz.prog w = .ok (.bool false) w := by kernel_rfl
theorem key_of (s : ByteArray) (hs : s.size < 4294967281) : keyOf Tryz.prog 9 (.string s) = some (.string s.data.toList) :=
  keyOf_string_mk Tryz.underlying9 (by unfold maxLen; omega)
/-- The call's own map: what it tells of a way. -/
def MapIs (w : World) (b n : Nat) (p : List UInt8 → Bool) : Prop :=
  ∃ D : DataW Unit, w.ownsMap Tryz.prog 9 (plainElem Tryz.prog 4) b n D ∧ IsMap D ∧ ∀ s : List UInt8, D.atKey (.string s) (.lit (.bool false)) = .lit (.bool (p s))
theorem MapIs.below {w w' : World} {b n : Nat} {p : List UInt8 → Bool} {B : Nat} (h : MapIs w b n p) (hb : Below B w w') (hlt : b < B) : MapIs w' b n p := by
  obtain ⟨D, ho, h1, h2⟩ := h
  refine ⟨D, ?_, h1, h2⟩
  unfold World.ownsMap at ho ⊢
  rw [hb.block b hlt]
  exact ho
theorem MapIs.empty (w : World) : MapIs (w.alloc (.map #[] 0)) w.heap.size 0 (fun _ => false) :=
  ⟨.map [], World.ownsMap_made _ _ _ _, isMap_empty, fun _ => rfl⟩
set_option maxRecDepth 100000 in
theorem bool_inv {v : Value} {z : DataW Unit × List MemPlace} (h : plainElem Tryz.prog 4 v = some z) : ∃ a, v = .bool a ∧ z = (.lit (.bool a), []) := by
  unfold plainElem at h
  rw [Tryz.underlying4] at h
  cases v <;> simp at h
  exact ⟨_, rfl, h.symm⟩
set_option maxRecDepth 100000 in
theorem MapIs.look {w : World} {b n : Nat} {p : List UInt8 → Bool} (h : MapIs w b n p) (s : ByteArray) (hs : s.size < 4294967281) :
    (Instr.lookup 125 (.map (some b)) (.string s) false).run Tryz.prog w = .ok (.bool (p s.toList)) w := by
  obtain ⟨D, ho, h1, h2⟩ := h
  obtain ⟨v, ps, hrun, hv⟩ := ho.lookup keyLaw Tryz.underlying125 (zeroBool w) (plainElem_bool Tryz.underlying4 false) (key_of s hs)
  obtain ⟨c, rfl, hc⟩ := bool_inv hv
  simp only [Prod.mk.injEq] at hc
  have := (h2 s.data.toList).symm.trans hc.1
  injection this with this
  injection this with this
  rw [hrun, ByteArray.toList_eq, this]
theorem MapIs.put {D : DataW Unit} {w : World} {b n : Nat} {p : List UInt8 → Bool} (h1 : IsMap D) (h2 : ∀ s : List UInt8, D.atKey (.string s) (.lit (.bool false)) = .lit (.bool (p s))) (k : ByteArray) (v : Bool)
    (h : w.ownsMap Tryz.prog 9 (plainElem Tryz.prog 4) b n (D.put (.string k.data.toList) (.lit (.bool v)))) : MapIs w b n (fun s => if k.toList = s then v else p s) := by
  refine ⟨_, h, h1.put _ _, fun s => ?_⟩
  by_cases hk : k.toList = s
  · simp only
    rw [if_pos hk, ← hk, ByteArray.toList_eq]
    exact atKey_put_same h1 (show WideAt.IsKeyLit (.string k.data.toList) from trivial) _ _
  · simp only
    rw [if_neg hk, ← h2 s]
    refine atKey_put_other ?_ _ _
    intro e
    injection e with e
    exact hk (by rw [ByteArray.toList_eq]; exact e.symm)
theorem stepsB_succ (l : List It) (k : Nat) : stepsB l (k + 1) = (stepsB l k && stepB l k) := by
  unfold stepsB
  rw [List.range_succ, List.all_append]
  simp
theorem stepsB_false (l : List It) (k : Nat) (h : stepB l k = false) : ∀ n, k < n → stepsB l n = false
  | 0, h0 => absurd h0 (by omega)
  | n + 1, h0 => by
    rw [stepsB_succ]
    by_cases hk : k = n
    · subst hk; rw [h, Bool.and_false]
    · rw [stepsB_false l k h n (by omega), Bool.false_and]
theorem alloc_lt (w : World) (o : Obj) : w.heap.size < (w.alloc o).heap.size := by unfold World.alloc; simp
set_option maxHeartbeats 8000000 in
set_option maxRecDepth 100000 in
theorem goodItems_loop (w : World) (ad : Addr) (c0 : Nat) (l : List It) (hl : 1 ≤ l.length ∧ l.length ≤ 40) (hc0 : l.length ≤ c0) (hr : Kd.C k74 w (some ad) l.length l) (hs : ∀ i, (itAt l i).f0.size < 4294967281)
   (x0 : ByteArray) (hx0 : w.cell? ad = some (.string x0)) (h0 : x0.toList = [46]) (r : Bool) (hres : stepsB l l.length = r) :
    Calls Tryz.prog 38 #[.slice (some ad) l.length c0] w fun e w' => e = .returned (.bool r) ∧ Below w.heap.size w w' := by
  have hu1 := Tryz.underlying74
  have hu2 := Tryz.underlying26
  have HW := Aside0.mk (fun W => impl_within.calls (l.length : Int) 1 40 _ W (within_f (l.length : Int) 1 40))
  rw [show inB 1 40 (l.length : Int) = true by unfold inB; simp; omega] at HW
  have HR := Aside0.mk hr
  have HS := Aside0.mk hs
  have p2 : ((0 : Int) < (l.length : Int)) = True := eq_true (by omega)
  have ha : ad.add 0 = ad := by cases ad; rfl
  have h0' : (x0.toList == [46]) = true := by simpa using h0
  have hres' := Aside0.mk hres
  clear hr hs h0 hres
  have hmm := @run_makeMap Tryz.prog
  go_enter Tryz.func38, Tryz.ntmps38
  go_wp2_with fail
  refine (HW.out _).mono ?_; rintro e w1 ⟨rfl, ⟨n1, rfl⟩⟩
  go_wp2
  go_loopw [22] (fun i wr => ∃ k : Nat, k ≤ l.length ∧ i = .int .i64 k ∧ Aside0 (MapIs wr w.heap.size k (dirAt l k)) ∧ Aside0 (Below w.heap.size w wr) ∧ Aside0 (w.heap.size < wr.heap.size) ∧ Aside0 (stepsB l k = true))
    (fun i _ => l.length - (intOf i).toNat)
  case atStart => exact ⟨0, Nat.zero_le _, rfl, ⟨MapIs.empty _⟩, ⟨by repeat (first | exact Below.refl _ _ | apply below_alloc | apply pw_below_drewN | apply below_drew1)⟩, ⟨by simp [World.alloc]⟩, ⟨rfl⟩⟩
  case round =>
    obtain ⟨k, hk, rfl, HM, HB, HZ, HT⟩ := hrel
    by_cases hlt : k < l.length
    case neg =>
      have hkl : k = l.length := by omega
      subst hkl
      have hr1 := HT.out.symm.trans hres'.out
      subst hr1
      clear hx0 hlt
      have c1 : decide ((l.length : Int) < (l.length : Int)) = false := by simp
      go_wp2
      go_ret
      exact ⟨rfl, HB.out⟩
    case pos =>
      obtain ⟨ad', e', cx⟩ := cells_at (Kd.C_below HR.out HB.out) k hlt
      obtain rfl : ad = ad' := by injection e'
      clear e' hx0
      have hstep : Aside0 (stepB l k = false → r = false) := ⟨fun h => hres'.out.symm.trans (stepsB_false l k h _ hlt)⟩
      have hS := HS.out k
      have hI := Aside0.mk (fun (W : World) (hb : Below w.heap.size w W) => impl_isGoodItem.calls (some ad) c0 l (k : Int) (goodItemB l k) W (Kd.C_below HR.out hb) hc0 (by unfold impl_isGoodItem.f; rw [if_pos ⟨by omega, by omega, by omega⟩, Int.toNat_natCast]))
      obtain ⟨x, hx⟩ : ∃ x, x = itAt l k := ⟨_, rfl⟩
      rw [← hx] at cx hS
      have HX := Aside0.mk hx
      clear hx
      have hN := Aside0.mk (fun (W : World) => impl_namesOf.calls x.f0 _ _ W (namesOf_f x.f0 hS))
      have hA := Aside0.mk (fun (W : World) => aboveOf_still x.f0 hS W)
      have hsB : Aside0 (stepB l k = (namesOk x.f0 && (goodItemB l k && (decide (k = 0) || (dirAt l k (aboveB x.f0).toList && decide (cmpW (itAt l (k - 1)).f0 x.f0 < 0)))))) := ⟨by unfold stepB; rw [← HX.out]⟩
      have hcmp := Aside0.mk (fun (W : World) => compareWays_ev (itAt l (k - 1)).f0 x.f0 (HS.out _) hS)
      have hput : Aside0 (∀ s, (if x.f0.toList = s then x.f1 == 2 else dirAt l k s) = dirAt l (k + 1) s) := ⟨fun s => by simp only [dirAt]; rw [← HX.out]⟩
      have hSz : Aside0 (x.f0.size < 4294967281 ∧ (aboveB x.f0).size < 4294967281) := ⟨hS, by
        unfold aboveB; split
        · simp only [ByteArray.size_extract]; omega
        · decide⟩
      have hkey := key_of x.f0 hS
      obtain ⟨x0', x1, x2, x3, x4, x5, x6, x7⟩ := x
      obtain ⟨hx0, hx1, hx2, hx3, hx4, hx5, hx6, hx7⟩ := cx
      simp only at hx0 hx1 hx2 hx3 hx4 hx5 hx6 hx7 hN hA hsB hput hSz hkey
      have p1 : ((0 : Int) ≤ (k : Int)) = True := eq_true (by omega)
      have p3 : ((k : Int) < (l.length : Int)) = True := eq_true (by omega)
      have c1 : decide ((k : Int) < (l.length : Int)) = true := by simpa using hlt
      clear hS HX
      go_wp2_with fail
      refine (hN.out _).mono ?_
      rintro e w1 ⟨v0, rfl, -, hd⟩
      have hz0 : wr.heap.size < (wr.alloc (Obj.cells #[.string x0', .int .i64 x1, .int .i64 x2, .int .i64 x3, .int .i64 x4, .int .i64 x5, .int .i64 x6, .string x7] 74)).heap.size := alloc_lt _ _
      have hB1 : Below wr.heap.size wr w1 := below_step (by repeat (first | exact Below.refl _ _ | apply below_alloc | apply pw_below_drewN | apply below_drew1)) hd
      have hz1 : wr.heap.size < w1.heap.size := Nat.lt_of_lt_of_le hz0 hd.size
      have d0 : w1.cell? ⟨wr.heap.size, 0, none⟩ = some (.string x0') := (Below.cell hd (p := ⟨wr.heap.size, 0, none⟩) hz0).trans (by go_simp)
      have d1 : w1.cell? ⟨wr.heap.size, 1, none⟩ = some (.int .i64 x1) := (Below.cell hd (p := ⟨wr.heap.size, 1, none⟩) hz0).trans (by go_simp)
      have hB1' : Below w.heap.size w w1 := HB.out.trans (hB1.mono HB.out.size)
      clear hd hz0 hx0 hx1 hx2 hx3 hx4 hx5 hx6 hx7
      by_cases hq1 : namesOk x0' = true
      case neg =>
        have hq1' : namesOk x0' = false := by simpa using hq1
        have hr1 : r = false := hstep.out (by rw [hsB.out, hq1']; rfl)
        subst hr1
        clear hq1 hstep hsB
        go_wp2
        go_ret
        exact ⟨rfl, hB1'⟩
      case pos =>
        go_wp2_with fail
        refine (hI.out _ hB1').mono ?_
        rintro e w2 ⟨rfl, hd⟩
        have e0 : w2.cell? ⟨wr.heap.size, 0, none⟩ = some (.string x0') := (Below.cell hd (p := ⟨wr.heap.size, 0, none⟩) hz1).trans d0
        have e1 : w2.cell? ⟨wr.heap.size, 1, none⟩ = some (.int .i64 x1) := (Below.cell hd (p := ⟨wr.heap.size, 1, none⟩) hz1).trans d1
        have hB2 : Below wr.heap.size wr w2 := hB1.trans (hd.mono hB1.size)
        have hz2 : wr.heap.size < w2.heap.size := Nat.lt_of_lt_of_le hz1 hd.size
        have hB2' : Below w.heap.size w w2 := HB.out.trans (hB2.mono HB.out.size)
        have HM2 : MapIs w2 w.heap.size k (dirAt l k) := HM.out.below hB2 HZ.out
        clear d0 d1 hd hz1 hB1 hB1'
        by_cases hq2 : goodItemB l k = true
        case neg =>
          have hq2' : goodItemB l k = false := by simpa using hq2
          have hr1 : r = false := hstep.out (by rw [hsB.out, hq1, hq2']; rfl)
          subst hr1
          clear hq2 hstep hsB
          go_wp2
          go_ret
          exact ⟨rfl, hB2'⟩
        case pos =>
          by_cases hk0 : k = 0
          case pos =>
            have hsk : stepsB l (k + 1) = true := by rw [stepsB_succ, HT.out, hsB.out, hq1, hq2, hk0]; rfl
            have hg0 : decide ((0 : Int) < (k : Int)) = false := by simp; omega
            have hg1 : decide (0 < k) = false := by simp; omega
            obtain ⟨D, hown, h1, h2⟩ := HM2
            clear hk0
            go_wp2_with fail
            go_quiet (fail)
            go_wp2_with (first
              | (at_mapUpdate; refine wpList_mapUpdate_own _ rfl _ _ _ 125 rfl 9 4 keyLaw Tryz.underlying125 _ w.heap.size k _ rfl (show World.ownsMap _ _ _ _ _ _ _ from hown) (by unfold maxLen; omega) _ _ _ rfl rfl hkey _ [] (plainElem_bool Tryz.underlying4 _) ?_)
              | go_in)
            have hB3 : Below w.heap.size w (w2.drewN nq) := by apply pw_below_drewN; exact hB2'
            intro w4 hown4 hgrow
            have hB4 := hB3.grown hgrow hB3.size (fun j hj => by cases hj; exact Nat.le_refl _)
            have hM4 := MapIs.put h1 h2 _ _ hown4
            clear hgrow
            go_wp2
            go_roundw
            case rel => exact ⟨k + 1, by omega, by first | rfl | go_num, ⟨by rw [show dirAt l (k + 1) = _ from (funext hput.out).symm]; exact hM4⟩, ⟨hB4⟩, ⟨hown4.lt⟩, ⟨hsk⟩⟩
            case measure => simp [intOf]; omega
          case neg =>
            have hg0 : decide ((0 : Int) < (k : Int)) = true := by simp; omega
            have hg1 : decide (0 < k) = true := by simp; omega
            have hg2 : 0 < k := by omega
            have hlk : ∀ n, (Instr.lookup 125 (.map (some w.heap.size)) (.string (aboveB x0')) false).run Tryz.prog (w2.drewN n) = .ok (.bool (dirAt l k (aboveB x0').toList)) (w2.drewN n) := fun n => MapIs.look (w := w2.drewN n) HM2 _ hSz.out.2
            by_cases hq3 : dirAt l k (aboveB x0').toList = true
            case neg =>
              have hq3' : dirAt l k (aboveB x0').toList = false := by simpa using hq3
              have hr1 : r = false := hstep.out (by rw [hsB.out, hq1, hq2, hq3', decide_eq_false hk0]; rfl)
              rw [hq3'] at hlk
              subst hr1
              clear hq3 hstep hsB hcmp hk0
              go_wp2_with fail
              go_quiet ((go_at_call 98; refine Calls.quiet_of_same (hA.out _)))
              go_wp2
              go_ret
              exact ⟨rfl, by apply pw_below_drewN; exact hB2'⟩
            case pos =>
              rw [hq3] at hlk
              have hlk0 := hlk 0
              obtain ⟨m, hm⟩ : ∃ m : Nat, k = m + 1 := ⟨k - 1, by omega⟩
              have hmz : (k : Int) - 1 = (m : Int) := by omega
              have hms : IntKind.i64.wrap ((k : Int) - 1) = (m : Int) := by rw [IntKind.wrap_i64]; omega
              have hms2 : IntKind.i64.wrap (m : Int) = (m : Int) := by rw [IntKind.wrap_i64]; omega
              have hmn : k - 1 = m := by omega
              rw [hmn] at hcmp hsB
              obtain ⟨ad', e', cy⟩ := cells_at (Kd.C_below HR.out hB2') m (by omega)
              obtain rfl : ad = ad' := by injection e'
              have hy0 := cy.h0
              clear e' cy hmn hm
              obtain ⟨kc, hkc⟩ := Ev.rounds (hcmp.out w)
              have hC := Aside0.mk (fun (W : World) => impl_compareWays.calls kc (itAt l m).f0 x0' _ W hkc)
              clear hkc hcmp
              generalize cmpW (itAt l m).f0 x0' = cm at hC hsB
              generalize (itAt l m).f0 = y0 at hC hy0
              have p5 : ((0 : Int) ≤ (m : Int)) = True := eq_true (by omega)
              have p6 : ((m : Int) < (l.length : Int)) = True := eq_true (by omega)
              have hlkd : (Instr.lookup 125 (.map (some w.heap.size)) (.string (aboveB x0')) false).run Tryz.prog w2 = .ok (.bool true) w2 := hlk0
              have hlke : (Instr.lookup 125 (.map (some w.heap.size)) (.string (aboveB x0')) false).run Tryz.prog w2.drew = .ok (.bool true) w2.drew := hlk 1
              by_cases hcm : cm < 0
              case neg =>
                have hcm1 : decide (0 ≤ cm) = true := by simp; omega
                have hr1 : r = false := hstep.out (by rw [hsB.out, hq1, hq2, hq3, decide_eq_false hcm, Bool.and_false, decide_eq_false hk0]; rfl)
                subst hr1
                clear hstep hsB hk0
                go_wp2_with fail
                go_still_tail 18, (by kernel_rfl)
                still_call (hA.out _)
                repeat still_step
                refine wpStill_nil ?_
                change wpList _ _ _ _ _ w2.drew
                go_wp2_with fail
                refine (hC.out _).mono ?_
                rintro e w3 ⟨rfl, hd⟩
                have hB3 : Below w.heap.size w w3 := (show Below w.heap.size w w2.drew from below_drew1 hB2').trans (hd.mono hB2'.size)
                clear hd
                go_wp2
                go_ret
                exact ⟨rfl, hB3⟩
              case pos =>
                have hcm1 : decide (0 ≤ cm) = false := by simp; omega
                have hsk : stepsB l (k + 1) = true := by rw [stepsB_succ, HT.out, hsB.out, hq1, hq2, hq3, decide_eq_true hcm, Bool.and_true, Bool.or_true]; rfl
                have hz0 := hSz.out.1
                clear hstep hsB hk0
                go_wp2_with fail
                go_still_tail 18, (by kernel_rfl)
                still_call (hA.out _)
                repeat still_step
                refine wpStill_nil ?_
                change wpList _ _ _ _ _ w2.drew
                go_wp2_with fail
                refine (hC.out _).mono ?_
                rintro e w3 ⟨rfl, hd⟩
                have hB3 : Below w.heap.size w w3 := (show Below w.heap.size w w2.drew from below_drew1 hB2').trans (hd.mono hB2'.size)
                have HM3 : MapIs w3 w.heap.size k (dirAt l k) := MapIs.below (w := w2.drew) HM2 hd (Nat.lt_of_lt_of_le HZ.out hB2.size)
                have f0 : w3.cell? ⟨wr.heap.size, 0, none⟩ = some (.string x0') := (Below.cell hd (p := ⟨wr.heap.size, 0, none⟩) hz2).trans e0
                have f1 : w3.cell? ⟨wr.heap.size, 1, none⟩ = some (.int .i64 x1) := (Below.cell hd (p := ⟨wr.heap.size, 1, none⟩) hz2).trans e1
                obtain ⟨D, hown, h1, h2⟩ := HM3
                clear hd e0 e1 HM2 hlk hlk0 hlkd hlke
                go_wp2_with (first
                  | (at_mapUpdate; refine wpList_mapUpdate_own _ rfl _ _ _ 125 rfl 9 4 keyLaw Tryz.underlying125 _ w.heap.size k _ rfl (show World.ownsMap _ _ _ _ _ _ _ from hown) (by unfold maxLen; omega) _ _ _ rfl rfl hkey _ [] (plainElem_bool Tryz.underlying4 _) ?_)
                  | go_in)
                intro w4 hown4 hgrow
                have hB4 := hB3.grown hgrow hB3.size (fun j hj => by cases hj; exact Nat.le_refl _)
                have hM4 := MapIs.put h1 h2 _ _ hown4
                clear hgrow
                go_wp2
                go_roundw
                case rel => exact ⟨k + 1, by omega, by first | rfl | go_num, ⟨by rw [show dirAt l (k + 1) = _ from (funext hput.out).symm]; exact hM4⟩, ⟨hB4⟩, ⟨hown4.lt⟩, ⟨hsk⟩⟩
                case measure => simp [intOf]; omega
set_option maxHeartbeats 1000000 in
set_option maxRecDepth 100000 in
theorem goodItems_empty (w : World) (A : Option Addr) (n c0 : Nat) (hn : inB 1 40 (n : Int) = false) : Calls Tryz.prog 38 #[.slice A n c0] w fun e w' => e = .returned (.bool false) ∧ Below w.heap.size w w' := by
  have HW := Aside0.mk (fun W => impl_within.calls (n : Int) 1 40 _ W (within_f (n : Int) 1 40))
  rw [hn] at HW
  clear hn
  go_enter Tryz.func38, Tryz.ntmps38
  go_wp2_with fail
  refine (HW.out _).mono ?_; rintro e w1 ⟨rfl, ⟨n1, rfl⟩⟩
  go_wp2
  go_ret
  exact ⟨rfl, by repeat (first | exact Below.refl _ _ | apply below_alloc | apply pw_below_drewN | apply below_drew1)⟩
set_option maxHeartbeats 1000000 in
set_option maxRecDepth 100000 in
theorem goodItems_root (w : World) (ad : Addr) (n c0 : Nat) (hn : inB 1 40 (n : Int) = true) (x0 : ByteArray) (hx0 : w.cell? ad = some (.string x0)) (h0 : (x0.toList == [46]) = false) :
    Calls Tryz.prog 38 #[.slice (some ad) n c0] w fun e w' => e = .returned (.bool false) ∧ Below w.heap.size w w' := by
  have hu1 := Tryz.underlying74
  have hu2 := Tryz.underlying26
  have HW := Aside0.mk (fun W => impl_within.calls (n : Int) 1 40 _ W (within_f (n : Int) 1 40))
  rw [hn] at HW
  have p2 : ((0 : Int) < (n : Int)) = True := eq_true (by unfold inB at hn; simp at hn; omega)
  have p3 : 0 < n := by unfold inB at hn; simp at hn; omega
  have ha : ad.add 0 = ad := by cases ad; rfl
  clear hn
  go_enter Tryz.func38, Tryz.ntmps38
  go_wp2_with fail
  refine (HW.out _).mono ?_; rintro e w1 ⟨rfl, ⟨n1, rfl⟩⟩
  go_wp2
  go_ret
  exact ⟨rfl, by repeat (first | exact Below.refl _ _ | apply below_alloc | apply pw_below_drewN | apply below_drew1)⟩
theorem impl_GoodItems.calls (A0 : Option Addr) (c0 : Nat) (l0 : List It) (r : Bool) (w : World) (hr0 : Kd.C k74 w A0 l0.length l0) (hc0 : l0.length ≤ c0) (h : impl_GoodItems.f l0 = some r) :
    Calls Tryz.prog 38 #[.slice A0 l0.length c0] w fun e w' => e = .returned (.bool r) ∧ Below w.heap.size w w' := by
  unfold impl_GoodItems.f at h
  split at h
  case isFalse => exact absurd h (by simp)
  rename_i hsz
  injection h with h
  by_cases hn : inB 1 40 (l0.length : Int) = true
  · have hl : 1 ≤ l0.length ∧ l0.length ≤ 40 := by unfold inB at hn; simp at hn; omega
    obtain ⟨ad, rfl, cx⟩ := cells_at hr0 0 (by omega)
    have hx0 := cx.h0
    have ha : ad.add (0 * 8) = ad := by cases ad; rfl
    rw [ha] at hx0
    have hg : goodB l0 = ((itAt l0 0).f0.toList == [46] && stepsB l0 l0.length) := by
      unfold goodB
      rw [decide_eq_true hl.1, decide_eq_true hl.2]; rfl
    by_cases h0 : ((itAt l0 0).f0.toList == [46]) = true
    · refine goodItems_loop w ad c0 l0 hl hc0 hr0 (fun i => ?_) _ hx0 (by simpa using h0) r ?_
      · by_cases hi : i < l0.length
        · have : itAt l0 i = l0[i] := rdI l0 i hi
          rw [this]
          simpa using List.all_eq_true.mp hsz _ (List.getElem_mem hi)
        · have : itAt l0 i = z74 := by unfold itAt rd_T74; simp [List.getD, List.getElem?_eq_none (show l0.length ≤ i by omega)]
          rw [this]; decide
      · rw [← h, hg, h0, Bool.true_and]
    · have h0' : ((itAt l0 0).f0.toList == [46]) = false := by simpa using h0
      have : r = false := by rw [← h, hg, h0', Bool.false_and]
      subst this
      exact goodItems_root w ad _ c0 hn _ hx0 h0'
  · have hn' : inB 1 40 (l0.length : Int) = false := by simpa using hn
    have : r = false := by
      rw [← h]; unfold goodB
      unfold inB at hn'
      by_cases h1 : 1 ≤ l0.length
      · have : ¬ l0.length ≤ 40 := by intro h2; simp at hn'; omega
        rw [decide_eq_false this, Bool.false_and, Bool.and_false]
      · rw [decide_eq_false h1, Bool.false_and]
    subst this
    exact goodItems_empty w A0 _ c0 hn'

end Go.Proofs.YthhmkbchdiflcaaGreatDoor.Q

/- The call's own map from ways to items. -/
namespace Go.Proofs.YthhmkbchdiflcaaGreatDoor.Q
open Go.RowKit Go.Proofs.YthhmkbchdiflcaaGreatDoorW.PrintWords Go.Proofs.YthhmkbchdiflcaaGreatDoorW.PrintLast Go.Proofs.YthhmkbchdiflcaaGreatDoorW.PrintMore
attribute [local go_sem] max2_int min2_int max_two min_two max_three min_three max_four min_four   -- for this text's walks alone
set_option linter.unusedVariables false
set_option linter.unusedSimpArgs false

open Go.Maps Go.WideMaps
/-- An item as a value, and as a datum. -/
def itV (x : It) : Value := .agg #[.string x.f0, .int .i64 x.f1, .int .i64 x.f2, .int .i64 x.f3, .int .i64 x.f4, .int .i64 x.f5, .int .i64 x.f6, .string x.f7]
def itD (x : It) : DataW Unit := .agg [.lit (.string x.f0.data.toList), .lit (.int .i64 x.f1), .lit (.int .i64 x.f2), .lit (.int .i64 x.f3), .lit (.int .i64 x.f4), .lit (.int .i64 x.f5), .lit (.int .i64 x.f6), .lit (.string x.f7.data.toList)]
theorem itV_inj {x y : It} (h : itV x = itV y) : x = y := by
  obtain ⟨x0, x1, x2, x3, x4, x5, x6, x7⟩ := x
  obtain ⟨y0, y1, y2, y3, y4, y5, y6, y7⟩ := y
  unfold itV at h
  injection h with h
  simp at h
  obtain ⟨rfl, rfl, rfl, rfl, rfl, rfl, rfl, rfl⟩ := h
  rfl
theorem data_inj {a b : ByteArray} (h : a.data.toList = b.data.toList) : a = b := ByteArray.ext (Array.toList_inj.mp h)
theorem itD_inj {x y : It} (h : itD x = itD y) : x = y := by
  obtain ⟨x0, x1, x2, x3, x4, x5, x6, x7⟩ := x
  obtain ⟨y0, y1, y2, y3, y4, y5, y6, y7⟩ := y
  unfold itD at h
  injection h with h
  simp only [List.cons.injEq, DataW.lit.injEq, Lit.string.injEq, Lit.int.injEq, true_and, and_true] at h
  obtain ⟨h0, rfl, rfl, rfl, rfl, rfl, rfl, h7⟩ := h
  rw [data_inj h0, data_inj h7]
open Classical in
/-- How an element of the map reads. -/
noncomputable def elemI (v : Value) : Option (DataW Unit × List MemPlace) := if h : ∃ x, v = itV x then some (itD (Classical.choose h), []) else none
theorem elemI_mk (x : It) : elemI (itV x) = some (itD x, []) := by
  unfold elemI
  have h : ∃ y, itV x = itV y := ⟨x, rfl⟩
  rw [dif_pos h, ← itV_inj (Classical.choose_spec h)]
theorem elemI_inv {v : Value} {z : DataW Unit × List MemPlace} (h : elemI v = some z) : ∃ x, v = itV x ∧ z = (itD x, []) := by
  unfold elemI at h
  split at h
  · rename_i hx
    injection h with h
    exact ⟨Classical.choose hx, Classical.choose_spec hx, h.symm⟩
  · cases h
theorem zeroI (w : World) : (zeroValue 74).run Tryz.prog w = .ok (itV z74) w := by kernel_rfl
/-- The call's own map reads as a function from ways to items. -/
def MapI (w : World) (b n : Nat) (g : List UInt8 → Option It) : Prop :=
  ∃ D : DataW Unit, w.ownsMap Tryz.prog 9 elemI b n D ∧ (∀ s, has D (.string s) = (g s).isSome) ∧ ∀ s x, g s = some x → ∀ z, D.atKey (.string s) z = itD x
theorem MapI.below {w w' : World} {b n : Nat} {g : List UInt8 → Option It} (h : MapI w b n g) (hb : Below w.heap.size w w') : MapI w' b n g := by
  obtain ⟨D, ho, h1, h2⟩ := h
  have hlt := ho.lt
  refine ⟨D, ?_, h1, h2⟩
  unfold World.ownsMap at ho ⊢
  rw [hb.block b hlt]
  exact ho
theorem MapI.lt {w : World} {b n : Nat} {g : List UInt8 → Option It} (h : MapI w b n g) : b < w.heap.size := by
  obtain ⟨D, ho, _⟩ := h; exact ho.lt
theorem MapI.empty (w : World) : MapI (w.alloc (.map #[] 0)) w.heap.size 0 (fun _ => none) :=
  ⟨.map [], World.ownsMap_made _ _ _ _, fun _ => rfl, fun _ _ h => by cases h⟩
/-- The store. -/
theorem MapI.put {w : World} {b n : Nat} {g : List UInt8 → Option It} (h : MapI w b n g) (hn : n < maxLen) (k : ByteArray) (hk : k.size < 4294967281) (x : It) :
    ∃ w', (Instr.mapUpdate 105 (.map (some b)) (.string k) (itV x)).run Tryz.prog w = .ok () w' ∧ MapI w' b (n + 1) (fun s => if k.data.toList = s then some x else g s) ∧ w.grownBy w' (some b) := by
  obtain ⟨D, ho, h1, h2⟩ := h
  obtain ⟨w', hrun, ho', hg⟩ := ho.update keyLaw Tryz.underlying105 hn (key_of k hk) (elemI_mk x)
  have hm : IsMap D := World.ownsMap.isMap ho
  refine ⟨w', hrun, ⟨_, ho', fun s => ?_, fun s y hy z => ?_⟩, hg⟩
  · simp only
    by_cases hs : k.data.toList = s
    · rw [if_pos hs]
      subst hs
      exact has_put_same hm (show WideAt.IsKeyLit (.string k.data.toList) from trivial) _
    · rw [if_neg hs, has_put_other (by intro e; injection e with e; exact hs e.symm)]; exact h1 s
  · simp only at hy
    by_cases hs : k.data.toList = s
    · rw [if_pos hs] at hy
      have hy := Option.some.inj hy
      subst hy
      subst hs
      exact atKey_put_same hm (show WideAt.IsKeyLit (.string k.data.toList) from trivial) _ _
    · rw [if_neg hs] at hy
      rw [atKey_put_other (by intro e; injection e with e; exact hs e.symm)]
      exact h2 s y hy z
/-- The look-up with 'ok'. -/
theorem MapI.look_ok {w : World} {b n : Nat} {g : List UInt8 → Option It} (h : MapI w b n g) (k : ByteArray) (hk : k.size < 4294967281) :
    (Instr.lookup 105 (.map (some b)) (.string k) true).run Tryz.prog w = .ok (.tuple #[itV ((g k.data.toList).getD z74), .bool (g k.data.toList).isSome]) w := by
  obtain ⟨D, ho, h1, h2⟩ := h
  obtain ⟨v, ps, hrun, hv⟩ := ho.look_ok keyLaw Tryz.underlying105 (zeroI w) (elemI_mk _) (key_of k hk)
  obtain ⟨x, rfl, hx⟩ := elemI_inv hv
  rw [hrun, h1]
  have hat := (Prod.mk.inj hx).1
  cases hg : g k.data.toList with
  | none =>
    have hno : has D (.string k.data.toList) = false := by rw [h1, hg]; rfl
    rw [atKey_of_not_has hno] at hat
    rw [← itD_inj hat]; rfl
  | some y =>
    rw [h2 _ y hg] at hat
    rw [← itD_inj hat]; rfl
/-- The look-up without 'ok'. -/
theorem MapI.look {w : World} {b n : Nat} {g : List UInt8 → Option It} (h : MapI w b n g) (k : ByteArray) (hk : k.size < 4294967281) :
    (Instr.lookup 105 (.map (some b)) (.string k) false).run Tryz.prog w = .ok (itV ((g k.data.toList).getD z74)) w := by
  obtain ⟨D, ho, h1, h2⟩ := h
  obtain ⟨v, ps, hrun, hv⟩ := ho.lookup keyLaw Tryz.underlying105 (zeroI w) (elemI_mk _) (key_of k hk)
  obtain ⟨x, rfl, hx⟩ := elemI_inv hv
  rw [hrun]
  have hat := (Prod.mk.inj hx).1
  cases hg : g k.data.toList with
  | none =>
    have hno : has D (.string k.data.toList) = false := by rw [h1, hg]; rfl
    rw [atKey_of_not_has hno] at hat
    rw [← itD_inj hat]; rfl
  | some y =>
    rw [h2 _ y hg] at hat
    rw [← itD_inj hat]; rfl

end Go.Proofs.YthhmkbchdiflcaaGreatDoor.Q

/- impl.byWay: the walk. -/
namespace Go.Proofs.YthhmkbchdiflcaaGreatDoor.Q
open Go.RowKit Go.Proofs.YthhmkbchdiflcaaGreatDoorW.PrintWords Go.Proofs.YthhmkbchdiflcaaGreatDoorW.PrintLast Go.Proofs.YthhmkbchdiflcaaGreatDoorW.PrintMore
attribute [local go_sem] max2_int min2_int max_two min_two max_three min_three max_four min_four   -- for this text's walks alone
set_option linter.unusedVariables false
set_option linter.unusedSimpArgs false

open Go.Maps Go.WideMaps
def bareI (x : It) : It := ⟨x.f0, x.f1, x.f2, x.f3, x.f4, x.f5, 0, x.f7⟩
/-- What the map of the first k items tells of a way: the last of them with that way, bare. -/
def wayMap (l : List It) : Nat → List UInt8 → Option It
  | 0, _ => none
  | k + 1, s => if (itAt l k).f0.data.toList = s then some (bareI (itAt l k)) else wayMap l k s
theorem keep8 {w W : World} {g : Nat} {v0 v1 v2 v3 v4 v5 v6 v7 : Value} {T : TypeId} (h : w.heap[g]? = some (.cells #[v0, v1, v2, v3, v4, v5, v6, v7] T (0, 0))) (hb : Below w.heap.size w W) :
    W.cell? ⟨g, 0, none⟩ = some v0 ∧ W.cell? ⟨g, 1, none⟩ = some v1 ∧ W.cell? ⟨g, 2, none⟩ = some v2 ∧ W.cell? ⟨g, 3, none⟩ = some v3 ∧ W.cell? ⟨g, 4, none⟩ = some v4 ∧ W.cell? ⟨g, 5, none⟩ = some v5 ∧ W.cell? ⟨g, 6, none⟩ = some v6 ∧ W.cell? ⟨g, 7, none⟩ = some v7 := by
  have h2 := (hb.block g (blk_lt h)).trans h
  exact ⟨blk_cell h2 0, blk_cell h2 1, blk_cell h2 2, blk_cell h2 3, blk_cell h2 4, blk_cell h2 5, blk_cell h2 6, blk_cell h2 7⟩
set_option maxHeartbeats 8000000 in
set_option maxRecDepth 100000 in
theorem byWay_walk (w : World) (A : Option Addr) (c0 : Nat) (l : List It) (hr : Kd.C k74 w A l.length l) (hl : l.length ≤ 1000) (hs : ∀ i, (itAt l i).f0.size < 4294967281) :
    Calls Tryz.prog 80 #[.slice A l.length c0] w fun e w' => ∃ b, e = .returned (.map (some b)) ∧ w.heap.size ≤ b ∧ MapI w' b l.length (wayMap l l.length) ∧ Below w.heap.size w w' := by
  have hu1 := Tryz.underlying74
  have hu2 := Tryz.underlying26
  have HR := Aside0.mk hr
  have HS := Aside0.mk hs
  have hmm := @run_makeMap Tryz.prog
  clear hr hs
  go_enter Tryz.func80, Tryz.ntmps80
  go_wp2
  go_loopw [9] (fun i wr => ∃ k : Nat, k ≤ l.length ∧ i = .int .i64 k ∧ Aside0 (MapI wr w.heap.size k (wayMap l k)) ∧ Aside0 (Below w.heap.size w wr)) (fun i _ => l.length - (intOf i).toNat)
  case atStart => exact ⟨0, Nat.zero_le _, rfl, ⟨MapI.empty _⟩, ⟨below_alloc (Below.refl _ _) _⟩⟩
  case round =>
    obtain ⟨k, hk, rfl, HM, HB⟩ := hrel
    by_cases hlt : k < l.length
    case neg =>
      have hkl : k = l.length := by omega
      subst hkl
      have c1 : decide ((l.length : Int) < (l.length : Int)) = false := by simp
      clear hlt
      go_wp2
      go_ret
      exact ⟨_, rfl, Nat.le_refl _, HM.out, HB.out⟩
    case pos =>
      obtain ⟨ad, rfl, cx⟩ := cells_at (Kd.C_below HR.out HB.out) k hlt
      have hS := HS.out k
      obtain ⟨x, hx⟩ : ∃ x, x = itAt l k := ⟨_, rfl⟩
      rw [← hx] at cx hS
      have HX := Aside0.mk hx
      have hbare : impl_bare.f x.f0 x.f1 x.f2 x.f3 x.f4 x.f5 x.f6 x.f7 = some (x.f0, x.f1, x.f2, x.f3, x.f4, x.f5, 0, x.f7) := rfl
      have HBR := Aside0.mk (fun W => impl_bare.calls x.f0 x.f1 x.f2 x.f3 x.f4 x.f5 x.f6 x.f7 _ _ _ _ _ _ _ _ W hbare)
      have HW : Aside0 (∀ s, (if x.f0.data.toList = s then some (bareI x) else wayMap l k s) = wayMap l (k + 1) s) := ⟨fun s => by rw [hx]; rfl⟩
      have HSS := Aside0.mk hS
      clear hx hS hbare
      obtain ⟨x0, x1, x2, x3, x4, x5, x6, x7⟩ := x
      obtain ⟨hx0, hx1, hx2, hx3, hx4, hx5, hx6, hx7⟩ := cx
      simp only at hx0 hx1 hx2 hx3 hx4 hx5 hx6 hx7 HBR HSS
      have p1 : ((0 : Int) ≤ (k : Int)) = True := eq_true (by omega)
      have p3 : ((k : Int) < (l.length : Int)) = True := eq_true (by omega)
      go_upto_region 5 with (fail)
      obtain ⟨gx, hgx⟩ : ∃ y, y = wr.heap.size := ⟨_, rfl⟩
      have hbk : (wr.alloc (.cells #[.string x0, .int .i64 x1, .int .i64 x2, .int .i64 x3, .int .i64 x4, .int .i64 x5, .int .i64 x6, .string x7] 74)).heap[gx]? = some (.cells #[.string x0, .int .i64 x1, .int .i64 x2, .int .i64 x3, .int .i64 x4, .int .i64 x5, .int .i64 x6, .string x7] 74 (0, 0)) := by rw [hgx]; exact blk_new _ _
      have hb2 : Below wr.heap.size wr (wr.alloc (.cells #[.string x0, .int .i64 x1, .int .i64 x2, .int .i64 x3, .int .i64 x4, .int .i64 x5, .int .i64 x6, .string x7] 74)) := below_alloc (Below.refl _ _) _
      have hM2 := HM.out.below hb2
      have hne : gx ≠ w.heap.size := by have := HM.out.lt; omega
      rw [← hgx]
      generalize wr.alloc (.cells #[.string x0, .int .i64 x1, .int .i64 x2, .int .i64 x3, .int .i64 x4, .int .i64 x5, .int .i64 x6, .string x7] 74) = w2 at hbk hb2 hM2 ⊢
      have HBK := Aside0.mk hbk
      have HM2 := Aside0.mk hM2
      have HB2 : Aside0 (Below w.heap.size w w2) := ⟨HB.out.trans (hb2.mono HB.out.size)⟩
      have HNE := Aside0.mk hne
      have kk := keep8 hbk (Below.refl _ _)
      clear hbk hb2 hM2 hne hgx hx0 hx1 hx2 hx3 hx4 hx5 hx6 hx7
      go_region_held3 (fun W => W.cell? ⟨gx, 0, none⟩ = some (.string x0) ∧ W.cell? ⟨gx, 1, none⟩ = some (.int .i64 x1) ∧ W.cell? ⟨gx, 2, none⟩ = some (.int .i64 x2) ∧ W.cell? ⟨gx, 3, none⟩ = some (.int .i64 x3) ∧ W.cell? ⟨gx, 4, none⟩ = some (.int .i64 x4) ∧ W.cell? ⟨gx, 5, none⟩ = some (.int .i64 x5) ∧ W.cell? ⟨gx, 6, none⟩ = some (.int .i64 x6) ∧ W.cell? ⟨gx, 7, none⟩ = some (.string x7))
        (first | exact kk | exact keep8 HBK.out (below_step (below_drew1 (Below.refl _ _)) hd) | exact keep8 ((hgrow.block gx (Nat.lt_of_lt_of_le (blk_lt HBK.out) hd.size) (fun e => HNE.out (Option.some.inj e))).trans ((hd.block gx (blk_lt HBK.out)).trans HBK.out)) (Below.refl _ _))
        (first | (go_at_call 137; refine (HBR.out w2.drew).mono ?_; rintro e w3 ⟨rfl, hd⟩; obtain ⟨w4, hrun, hM4, hgrow⟩ := MapI.put (HM2.out.below (below_step (below_drew1 (Below.refl _ _)) hd)) (by unfold maxLen; omega) x0 HSS.out (bareI ⟨x0, x1, x2, x3, x4, x5, x6, x7⟩); change (Instr.mapUpdate _ _ _ (.agg #[.string x0, .int .i64 x1, .int .i64 x2, .int .i64 x3, .int .i64 x4, .int .i64 x5, .int .i64 0, .string x7])).run _ _ = _ at hrun))
      have hB4 : Below w.heap.size w w4 := (below_step (below_drew1 HB2.out) hd).grown hgrow (by have := HB2.out.size; have := hd.size; have e : w2.drew.heap.size = w2.heap.size := rfl; omega) (fun j hj => by cases hj; exact Nat.le_refl _)
      have HM4 : Aside0 (MapI w4 w.heap.size (k + 1) (wayMap l (k + 1))) := ⟨by rw [show wayMap l (k + 1) = _ from (funext HW.out).symm]; exact hM4⟩
      have HB4 := Aside0.mk hB4
      clear hd hgrow hM4 hB4 hrun kk
      go_wp2
      go_roundw
      case rel => exact ⟨k + 1, by omega, by go_num, HM4, HB4⟩
      case measure => simp [intOf]; omega

end Go.Proofs.YthhmkbchdiflcaaGreatDoor.Q

/- Ways as lists of names: the texts of them. -/
namespace Go.Proofs.YthhmkbchdiflcaaGreatDoor.Q
open Go.RowKit Go.Proofs.YthhmkbchdiflcaaGreatDoorW.PrintWords Go.Proofs.YthhmkbchdiflcaaGreatDoorW.PrintLast Go.Proofs.YthhmkbchdiflcaaGreatDoorW.PrintMore
attribute [local go_sem] max2_int min2_int max_two min_two max_three min_three max_four min_four   -- for this text's walks alone
set_option linter.unusedVariables false
set_option linter.unusedSimpArgs false

theorem name_no_slash {p : ByteArray} (h : nameOkB p = true) : (47 : UInt8) ∉ p.data.toList := by
  intro hm
  rw [← nameOk_eq] at h
  simp only [Bool.and_eq_true, List.all_eq_true] at h
  have := h.1 (((47 : UInt8).toNat : Nat) : Int) (by unfold bytesOf; exact List.mem_map.mpr ⟨47, hm, rfl⟩)
  exact absurd this (by decide)
theorem name_size {p : ByteArray} (h : nameOkB p = true) : 1 ≤ p.size ∧ p.size ≤ 8 := by
  rw [← nameOk_eq] at h
  unfold nameEnd inB at h
  simp at h
  omega
theorem name_dot {p : ByteArray} (h : nameOkB p = true) : p.data.toList ≠ [46] := by
  intro e
  unfold nameOkB at h
  rw [show p.toList = [46] from by rw [ByteArray.toList_eq]; exact e] at h
  simp at h
theorem name_ne {p : ByteArray} (h : nameOkB p = true) : p.data.toList ≠ [] := by
  intro e
  have h1 := (name_size h).1
  rw [← data_length, e] at h1
  simp at h1
def joinT : List (List UInt8) → List UInt8
  | [] => []
  | [a] => a
  | a :: b :: r => a ++ 47 :: joinT (b :: r)
theorem joinT_cons (a : List UInt8) (l : List (List UInt8)) (h : l ≠ []) : joinT (a :: l) = a ++ 47 :: joinT l := by
  cases l with
  | nil => exact absurd rfl h
  | cons => rfl
theorem joinT_snoc (n : List UInt8) : ∀ l : List (List UInt8), l ≠ [] → joinT (l ++ [n]) = joinT l ++ 47 :: n
  | [], h => absurd rfl h
  | [a], _ => rfl
  | a :: b :: r, _ => by
    have := joinT_snoc n (b :: r) (by simp)
    simp only [List.cons_append, joinT] at this ⊢
    rw [this]; simp
theorem join_spl (t : List UInt8) : joinT (spl 47 t) = t := by
  induction t with
  | nil => rfl
  | cons b t ih =>
    simp only [spl]
    by_cases hb : b = 47
    · rw [if_pos hb, joinT_cons _ _ (spl_ne _ _), ih, hb]; rfl
    · rw [if_neg hb]
      cases h2 : spl 47 t with
      | nil => exact absurd h2 (spl_ne _ _)
      | cons x r =>
        rw [h2] at ih
        cases r with
        | nil => simp only [joinT] at ih ⊢; rw [ih]
        | cons y r => simp only [joinT] at ih ⊢; rw [List.cons_append, ih]
theorem spl_noc (c : UInt8) : ∀ t : List UInt8, c ∉ t → spl c t = [t]
  | [], _ => rfl
  | b :: t, h => by
    have hb : b ≠ c := fun e => h (by rw [e]; exact List.mem_cons_self)
    simp only [spl, if_neg hb, spl_noc c t (fun e => h (List.mem_cons_of_mem _ e))]
theorem spl_app (c : UInt8) (t : List UInt8) : ∀ a : List UInt8, c ∉ a → spl c (a ++ c :: t) = a :: spl c t
  | [], _ => by simp [spl]
  | b :: a, h => by
    have hb : b ≠ c := fun e => h (by rw [e]; exact List.mem_cons_self)
    simp only [List.cons_append, spl, if_neg hb, spl_app c t a (fun e => h (List.mem_cons_of_mem _ e))]
theorem spl_join : ∀ l : List (List UInt8), l ≠ [] → (∀ x ∈ l, (47 : UInt8) ∉ x) → spl 47 (joinT l) = l
  | [], h, _ => absurd rfl h
  | [a], _, h => spl_noc 47 a (h a (by simp))
  | a :: b :: r, _, h => by
    simp only [joinT]
    rw [spl_app 47 _ a (h a (by simp)), spl_join (b :: r) (by simp) (fun x hx => h x (List.mem_cons_of_mem _ hx))]
def dataL (N : List ByteArray) : List (List UInt8) := N.map (·.data.toList)
def wayT (N : List ByteArray) : List UInt8 := if N = [] then [46] else joinT (dataL N)
theorem wayT_nil : wayT [] = [46] := rfl
theorem wayT_ne {N : List ByteArray} (h : N ≠ []) : wayT N = joinT (dataL N) := if_neg h
theorem slash_data (s : ByteArray) : dataL (slashL s) = spl 47 s.data.toList := splitB_spl 47 s
theorem slash_ne (s : ByteArray) : slashL s ≠ [] := by
  intro e
  have := slash_data s
  rw [e] at this
  exact spl_ne _ _ this.symm
theorem namesW_ne {s : ByteArray} (h : s.toList ≠ [46]) : namesW s = slashL s := if_neg h
theorem namesW_nil {s : ByteArray} : namesW s = [] ↔ s.toList = [46] := by
  constructor
  · intro h
    by_cases hd : s.toList = [46]
    · exact hd
    · rw [namesW_ne hd] at h; exact absurd h (slash_ne s)
  · intro h; exact if_pos h
theorem way_names (s : ByteArray) : wayT (namesW s) = s.data.toList := by
  by_cases h : s.toList = [46]
  · rw [namesW_nil.mpr h, wayT_nil, ← h, ByteArray.toList_eq]
  · rw [namesW_ne h, wayT_ne (slash_ne s), slash_data, join_spl]
theorem namesOk_eq (s : ByteArray) : namesOk s = (namesW s).all nameOkB := by
  unfold namesOk namesW
  by_cases h : s.toList = [46]
  · rw [if_pos h, if_pos h]; rfl
  · rw [if_neg h, if_neg h, List.all_eq_not_any_not]
theorem names_way {s : ByteArray} {N : List ByteArray} (hN : ∀ p ∈ N, nameOkB p = true) (h : s.data.toList = wayT N) : namesW s = N := by
  by_cases hn : N = []
  · subst hn
    exact namesW_nil.mpr (by rw [ByteArray.toList_eq, h]; rfl)
  · rw [wayT_ne hn] at h
    have hs : spl 47 s.data.toList = dataL N := by
      rw [h]
      refine spl_join _ (fun e => hn (List.map_eq_nil_iff.mp e)) (fun x hx => ?_)
      obtain ⟨p, hp, rfl⟩ := List.mem_map.mp hx
      exact name_no_slash (hN p hp)
    have hd : s.toList ≠ [46] := by
      intro e
      rw [ByteArray.toList_eq] at e
      rw [e, spl_noc 47 [46] (by decide)] at hs
      match N, hn, hs, hN with
      | [p], _, hs, hN =>
        simp only [dataL, List.map_cons, List.map_nil, List.cons.injEq, and_true] at hs
        exact name_dot (hN p (by simp)) hs.symm
      | p :: q :: r, _, hs, _ => simp [dataL] at hs
    rw [namesW_ne hd]
    exact map_data_inj ((slash_data s).trans hs)
theorem wayT_inj {M N : List ByteArray} (hM : ∀ p ∈ M, nameOkB p = true) (hN : ∀ p ∈ N, nameOkB p = true) (h : wayT M = wayT N) : M = N := by
  have h1 := names_way (s := ⟨(wayT M).toArray⟩) hM (by simp)
  have h2 := names_way (s := ⟨(wayT M).toArray⟩) hN (by simp [h])
  exact h1.symm.trans h2
theorem lastAt_hit (s : ByteArray) (a t : List UInt8) (hs : s.data.toList = a ++ 47 :: t) (ht : (47 : UInt8) ∉ t) : lastAt s 47 s.size = a.length := by
  have hl : s.size = a.length + 1 + t.length := by rw [← data_length, hs]; simp; omega
  have key : ∀ m, m ≤ t.length → lastAt s 47 (a.length + 1 + m) = a.length := by
    intro m
    induction m with
    | zero =>
      intro _
      simp only [Nat.add_zero, lastAt]
      rw [if_pos]
      rw [bt_data s a.length (by omega)]
      have : s.data.toList[a.length]'(by rw [data_length]; omega) = 47 := by simp [hs]
      rw [this]; rfl
    | succ m ih =>
      intro hm
      rw [show a.length + 1 + (m + 1) = (a.length + 1 + m) + 1 by omega]
      simp only [lastAt]
      rw [if_neg, ih (by omega)]
      rw [bt_data s (a.length + 1 + m) (by omega)]
      intro e
      have e2 : s.data.toList[a.length + 1 + m]'(by rw [data_length]; omega) = t[m] := by
        simp only [hs]
        rw [List.getElem_append_right (by omega)]
        simp [show a.length + 1 + m - a.length = m + 1 by omega]
      rw [e2] at e
      have e3 : t[m] = 47 := by
        apply UInt8.toNat.inj
        exact_mod_cast e
      exact ht (e3 ▸ List.getElem_mem _)
  rw [hl]
  exact key t.length (Nat.le_refl _)
theorem lastAt_none (s : ByteArray) (ht : (47 : UInt8) ∉ s.data.toList) : lastAt s 47 s.size = -1 := by
  have key : ∀ m, m ≤ s.size → lastAt s 47 m = -1 := by
    intro m
    induction m with
    | zero => intro _; rfl
    | succ m ih =>
      intro hm
      simp only [lastAt]
      rw [if_neg, ih (by omega)]
      rw [bt_data s m (by omega)]
      intro e
      have e3 : s.data.toList[m]'(by rw [data_length]; omega) = 47 := by
        apply UInt8.toNat.inj
        exact_mod_cast e
      exact ht (e3 ▸ List.getElem_mem _)
  exact key _ (Nat.le_refl _)
theorem dataL_append (M N : List ByteArray) : dataL (M ++ N) = dataL M ++ dataL N := by simp [dataL]
theorem above_way {s : ByteArray} {P : List ByteArray} {n : ByteArray} (h : namesW s = P ++ [n]) (hn : nameOkB n = true) : (aboveB s).data.toList = wayT P ∧
    (P = [] ∨ (aboveB s = s.extract 0 (s.size - n.size - 1) ∧ n.size + 1 ≤ s.size)) := by
  have hw := way_names s
  rw [h, wayT_ne (by simp), dataL_append] at hw
  have h47 := name_no_slash hn
  by_cases hP : P = []
  · subst hP
    have hl := lastAt_none s (by rw [← hw]; exact h47)
    unfold aboveB
    rw [hl]
    exact ⟨rfl, Or.inl rfl⟩
  · rw [show dataL [n] = [n.data.toList] from rfl, joinT_snoc n.data.toList (dataL P) (fun e => hP (by simpa [dataL] using e))] at hw
    have hl := lastAt_hit s _ _ hw.symm h47
    have hsz : s.size = (joinT (dataL P)).length + 1 + n.size := by rw [← data_length, ← hw, ← data_length]; simp; omega
    have ha : aboveB s = s.extract 0 (joinT (dataL P)).length := by
      unfold aboveB
      rw [hl, if_pos (by omega), Int.toNat_natCast]
    refine ⟨?_, Or.inr ⟨?_, by omega⟩⟩
    · rw [ha, extract_list, ← hw, wayT_ne hP]; simp
    · rw [ha, show s.size - n.size - 1 = (joinT (dataL P)).length by omega]
theorem parts_names {s : ByteArray} (h : ∀ p ∈ slashL s, nameOkB p = true) : partsL s = slashL s := by
  unfold partsL
  rw [List.filter_eq_self]
  intro p hp
  have := (name_size (h p hp)).1
  unfold nilB
  rw [Bool.not_eq_true', decide_eq_false_iff_not]
  omega
theorem l17Split_ev (s : ByteArray) (hs : s.size < 4294967281) (P : List ByteArray) (n : ByteArray) (h : namesW s = P ++ [n]) (ho : namesOk s = true) : Ev (fun k => spec_l17Split.f k s) (aboveB s, n) := by
  have hd : s.toList ≠ [46] := fun e => by rw [namesW_nil.mpr e] at h; simp at h
  rw [namesOk_eq, List.all_eq_true] at ho
  have hsl : slashL s = P ++ [n] := by rw [← namesW_ne hd, h]
  rw [h] at ho
  have hp : partsL s = P ++ [n] := by rw [parts_names (by rw [hsl]; exact ho), hsl]
  have hlen := slash_len s hs
  rw [hsl] at hlen
  have hl : (P ++ [n]).length = P.length + 1 := by simp
  obtain ⟨ha, hb⟩ := above_way h (ho n (by simp))
  unfold spec_l17Split.f
  refine Ev.bind (l2Parts_ev s hs) ?_
  rw [hp]
  have e1 : wrap64 (((P ++ [n]).length : Int) - 1) = (P.length : Int) := by rw [hl]; unfold wrap64; omega
  have e2 : rdOf ByteArray.empty (P ++ [n]) (P.length : Int) = n := by rw [rdS _ _ (by simp)]; simp
  refine Ev.congr (fun k => ?_) (Ev.now _)
  rw [e1, e2, if_pos (by omega), if_pos (by omega)]
  by_cases hP : P = []
  · subst hP
    rw [if_pos (by simp)]
    have : aboveB s = ⟨#[46]⟩ := Go.WideShapes.bytes_inj (by rw [ha]; rfl)
    rw [this]
  · rw [if_neg (by rw [hl]; have := List.length_pos_iff.mpr hP; omega)]
    rcases hb with hb | ⟨hb, hsz⟩
    · exact absurd hb hP
    · have e3 : wrap64 (wrap64 ((s.size : Int) - (n.size : Int)) - 1) = ((s.size - n.size - 1 : Nat) : Int) := by unfold wrap64; omega
      rw [e3, if_pos (by omega), if_pos (by omega), Int.toNat_natCast, hb]
def slashed (N : List ByteArray) : List UInt8 := (dataL N).flatMap fun x => 47 :: x
theorem slashed_join : ∀ N : List ByteArray, N ≠ [] → slashed N = 47 :: joinT (dataL N)
  | [], h => absurd rfl h
  | [a], _ => by simp [slashed, dataL, joinT]
  | a :: b :: r, _ => by
    have := slashed_join (b :: r) (by simp)
    have e : slashed (a :: b :: r) = 47 :: a.data.toList ++ slashed (b :: r) := rfl
    rw [e, this]
    simp [dataL, joinT]
theorem l2Of_loop (N : List ByteArray) (hN : ∀ p ∈ N, nameOkB p = true) (hl : N.length ≤ 4294967282) (d : Nat) : ∀ (i : Nat) (x : ByteArray), i + d = N.length → x.size ≤ 9 * i →
    Ev (fun k => spec_l2Of.l0 k x N (N.length : Int) (i : Int)) ⟨(x.data.toList ++ slashed (N.drop i)).toArray⟩ := by
  induction d with
  | zero =>
    intro i x hi hx
    refine Ev.step (f := fun _ => some x) (fun k => ?_) ?_
    · simp only [spec_l2Of.l0]; rw [if_neg (by omega)]
    · rw [List.drop_of_length_le (by omega)]
      simp only [slashed, dataL, List.map_nil, List.flatMap_nil, List.append_nil]
      exact Ev.now _
  | succ d ih =>
    intro i x hi hx
    have hlt : i < N.length := by omega
    have hn := name_size (hN N[i] (List.getElem_mem hlt))
    have h1 : ((⟨#[47]⟩ : ByteArray) ++ N[i]).size = 1 + N[i].size := by rw [ByteArray.size_append]; rfl
    have e : x.data.toList ++ slashed (N.drop i) = (x ++ ((⟨#[47]⟩ : ByteArray) ++ N[i])).data.toList ++ slashed (N.drop (i + 1)) := by
      have e0 : ∀ (a : ByteArray) (r : List ByteArray), slashed (a :: r) = 47 :: (a.data.toList ++ slashed r) := fun _ _ => rfl
      rw [List.drop_eq_getElem_cons hlt, e0]
      simp only [ByteArray.data_append, Array.toList_append, List.append_assoc]
      rfl
    rw [e]
    refine Ev.step (f := fun k => spec_l2Of.l0 k (x ++ ((⟨#[47]⟩ : ByteArray) ++ N[i])) N (N.length : Int) ((i + 1 : Nat) : Int)) (fun k => ?_) (ih (i + 1) (x ++ ((⟨#[47]⟩ : ByteArray) ++ N[i])) (by omega) (by rw [ByteArray.size_append, h1]; omega))
    simp only [spec_l2Of.l0]
    rw [if_pos (by omega), if_pos (by omega), if_pos (by omega), rdS _ _ hlt, if_pos (by omega), if_pos (by omega), step_n hlt (by omega)]
theorem l17Way_loop (s : ByteArray) (N : List ByteArray) (hl : N.length ≤ 4294967282) (hm : ∀ p ∈ N, p.size < 4294967281) (R : Bool)
    (hR : (∀ p ∈ N, nameOkB p = true) → R = (!N.isEmpty && (joinT (dataL N) == s.data.toList))) (hF : (∃ p ∈ N, nameOkB p = false) → R = false) (d : Nat) : ∀ i : Nat, i + d = N.length → (∀ p ∈ N.take i, nameOkB p = true) →
    Ev (fun k => spec_l17Way.l0 k s N N (N.length : Int) (i : Int)) R := by
  induction d with
  | zero =>
    intro i hi hp
    rw [List.take_of_length_le (by omega)] at hp
    rw [hR hp]
    by_cases hN : N = []
    · subst hN
      refine Ev.step (f := fun _ => some false) (fun k => ?_) (Ev.now _)
      simp only [spec_l17Way.l0]
      rw [if_neg (by simp at hi ⊢), if_neg (by simp)]
    · have hpos := List.length_pos_iff.mpr hN
      refine Ev.step (f := fun k => (spec_l2Of.f k N).bind fun t146 => (if 1 ≤ (t146.size : Int) then (some ((t146.extract 1 t146.size).toList == s.toList)) else (none))) (fun k => ?_) ?_
      · simp only [spec_l17Way.l0]
        rw [if_neg (by omega), if_pos (by omega)]
      · have h2 := l2Of_loop N hp hl N.length 0 ⟨#[]⟩ (by omega) (by decide)
        have h3 : Ev (fun k => spec_l2Of.f k N) ⟨(slashed N).toArray⟩ := by
          unfold spec_l2Of.f
          refine Ev.congr (fun k => ?_) h2
          rw [if_neg (by omega)]; rfl
        refine Ev.bind h3 ?_
        have e1 : (⟨(slashed N).toArray⟩ : ByteArray).size = (joinT (dataL N)).length + 1 := by rw [← data_length, slashed_join N hN]; simp
        refine Ev.congr (fun k => ?_) (Ev.now _)
        rw [if_pos (by omega)]
        have hne : N.isEmpty = false := by cases N <;> simp at hN ⊢
        have e2 : ((⟨(slashed N).toArray⟩ : ByteArray).data.toList.take (⟨(slashed N).toArray⟩ : ByteArray).size).drop 1 = joinT (dataL N) := by
          rw [e1]
          show ((slashed N).toArray.toList.take _).drop 1 = _
          rw [slashed_join N hN]
          simp
        rw [ByteArray.toList_eq, ByteArray.toList_eq, extract_list, e2, hne]
        rfl
  | succ d ih =>
    intro i hi hp
    have hlt : i < N.length := by omega
    have h1 := l2Name_ev N[i] (hm _ (List.getElem_mem hlt))
    by_cases hn : nameOkB N[i] = true
    · refine Ev.step (f := fun k => (spec_l2Name.f k N[i]).bind fun t145 => (if t145 = true then (spec_l17Way.l0 k s N N (N.length : Int) ((i + 1 : Nat) : Int)) else (some false))) (fun k => ?_) ?_
      · simp only [spec_l17Way.l0]
        rw [if_pos (by omega), if_pos (by omega), if_pos (by omega), rdS _ _ hlt, step_n hlt (by omega)]
      · refine Ev.bind h1 ?_
        refine Ev.congr (fun k => ?_) (ih (i + 1) (by omega) ?_)
        · rw [if_pos hn]
        · intro p hpm
          rw [List.take_add_one, List.getElem?_eq_getElem hlt] at hpm
          rcases List.mem_append.mp hpm with h | h
          · exact hp p h
          · simp at h; rw [h]; exact hn
    · rw [hF ⟨N[i], List.getElem_mem hlt, by simpa using hn⟩]
      refine Ev.step (f := fun k => (spec_l2Name.f k N[i]).bind fun t145 => (if t145 = true then (spec_l17Way.l0 k s N N (N.length : Int) ((i + 1 : Nat) : Int)) else (some false))) (fun k => ?_) ?_
      · simp only [spec_l17Way.l0]
        rw [if_pos (by omega), if_pos (by omega), if_pos (by omega), rdS _ _ hlt, step_n hlt (by omega)]
      · refine Ev.bind h1 ?_
        refine Ev.congr (fun k => ?_) (Ev.now false)
        rw [if_neg hn]
/-- A way that is not the first one. -/
def innerB (s : ByteArray) : Bool := namesOk s && !(namesW s).isEmpty
theorem l17Way_ev (s : ByteArray) (hs : s.size < 4294967281) : Ev (fun k => spec_l17Way.f k s) (innerB s) := by
  unfold spec_l17Way.f
  refine Ev.bind (l2Parts_ev s hs) ?_
  have hlen : (partsL s).length ≤ 4294967282 := Nat.le_trans (List.length_filter_le _ _) (slash_len s hs)
  have hmem : ∀ p ∈ partsL s, p.size < 4294967281 := fun p hp => Nat.lt_of_le_of_lt (parts_mem_size s p hp) hs
  refine l17Way_loop s (partsL s) hlen hmem _ ?_ ?_ (partsL s).length 0 (by omega) (by simp)
  · intro hN
    by_cases hE : partsL s = []
    · rw [hE]
      unfold innerB
      rw [namesOk_eq]
      by_cases hd : s.toList = [46]
      · rw [namesW_nil.mpr hd]; rfl
      · rw [namesW_ne hd]
        have : (slashL s).all nameOkB = false := by
          apply Bool.eq_false_iff.mpr
          intro h
          rw [List.all_eq_true] at h
          rw [parts_names h] at hE
          exact slash_ne s hE
        rw [this]; rfl
    · have hne : (partsL s).isEmpty = false := by cases h : partsL s <;> simp [h] at hE ⊢
      rw [hne]
      unfold innerB
      rw [namesOk_eq]
      by_cases hj : joinT (dataL (partsL s)) = s.data.toList
      · have hw : namesW s = partsL s := names_way hN (by rw [wayT_ne hE, hj])
        rw [hw, hne, hj, List.all_eq_true.mpr hN]; simp
      · rw [show (joinT (dataL (partsL s)) == s.data.toList) = false from by simpa using hj]
        by_cases hd : s.toList = [46]
        · rw [namesW_nil.mpr hd]; rfl
        · rw [namesW_ne hd]
          have : (slashL s).all nameOkB = false := by
            apply Bool.eq_false_iff.mpr
            intro h
            rw [List.all_eq_true] at h
            rw [parts_names h, slash_data, join_spl] at hj
            exact hj rfl
          rw [this]; rfl
  · rintro ⟨p, hp, hb⟩
    unfold innerB
    rw [namesOk_eq]
    by_cases hd : s.toList = [46]
    · rw [namesW_nil.mpr hd]; rfl
    · rw [namesW_ne hd]
      have : (slashL s).all nameOkB = false := by
        apply Bool.eq_false_iff.mpr
        intro h
        rw [List.all_eq_true] at h
        rw [h p ((List.mem_filter.mp hp).1)] at hb
        exact absurd hb (by simp)
      rw [this]; rfl

end Go.Proofs.YthhmkbchdiflcaaGreatDoor.Q

/- The order of ways, and what good items are among each other. -/
namespace Go.Proofs.YthhmkbchdiflcaaGreatDoor.Q
open Go.RowKit Go.Proofs.YthhmkbchdiflcaaGreatDoorW.PrintWords Go.Proofs.YthhmkbchdiflcaaGreatDoorW.PrintLast Go.Proofs.YthhmkbchdiflcaaGreatDoorW.PrintMore
attribute [local go_sem] max2_int min2_int max_two min_two max_three min_three max_four min_four   -- for this text's walks alone
set_option linter.unusedVariables false
set_option linter.unusedSimpArgs false

theorem less_irrefl : ∀ a : List UInt8, Op.bytesLess a a = false
  | [] => rfl
  | x :: a => by simp [Op.bytesLess, less_irrefl a]
theorem less_trans : ∀ a b c : List UInt8, Op.bytesLess a b = true → Op.bytesLess b c = true → Op.bytesLess a c = true
  | [], _, [], _, h => by cases ‹List UInt8› <;> simp [Op.bytesLess] at h
  | [], _, _ :: _, _, _ => by simp [Op.bytesLess]
  | _ :: _, [], _, h, _ => by simp [Op.bytesLess] at h
  | _ :: _, _ :: _, [], _, h => by simp [Op.bytesLess] at h
  | x :: a, y :: b, z :: c, h1, h2 => by
    simp only [Op.bytesLess, UInt8.lt_iff_toNat_lt, Bool.or_eq_true, decide_eq_true_eq, Bool.and_eq_true, beq_iff_eq] at h1 h2 ⊢
    rcases h1 with h1 | ⟨rfl, h1⟩
    · rcases h2 with h2 | ⟨rfl, h2⟩
      · exact Or.inl (by omega)
      · exact Or.inl h1
    · rcases h2 with h2 | ⟨rfl, h2⟩
      · exact Or.inl h2
      · exact Or.inr ⟨rfl, less_trans a b c h1 h2⟩
theorem less_asymm {a b : List UInt8} (h : Op.bytesLess a b = true) : Op.bytesLess b a = false := by
  cases h2 : Op.bytesLess b a with
  | false => rfl
  | true => have := less_trans a b a h h2; rw [less_irrefl] at this; exact this.symm
theorem less_tri {a b : List UInt8} (h : Op.bytesLess a b = false) (h2 : Op.bytesLess b a = false) : a = b := by
  have := Gtr.less_total a b
  rw [h, h2] at this
  simpa using this
theorem cmpS_neg {a b : ByteArray} : cmpS a b < 0 ↔ Op.bytesLess a.toList b.toList = true := by
  unfold cmpS
  constructor
  · intro h
    by_cases h1 : Op.bytesLess a.toList b.toList = true
    · exact h1
    · rw [if_neg h1] at h; split at h <;> omega
  · intro h; rw [if_pos h]; omega
theorem cmpS_zero {a b : ByteArray} : cmpS a b = 0 ↔ a = b := by
  unfold cmpS
  constructor
  · intro h
    by_cases h1 : Op.bytesLess a.toList b.toList = true
    · rw [if_pos h1] at h; omega
    · rw [if_neg h1] at h
      by_cases h2 : Op.bytesLess b.toList a.toList = true
      · rw [if_pos h2] at h; omega
      · have := less_tri (by simpa using h1) (by simpa using h2)
        rw [ByteArray.toList_eq, ByteArray.toList_eq] at this
        exact Go.WideShapes.bytes_inj this
  · rintro rfl
    rw [less_irrefl]; rfl
theorem cmpL_refl : ∀ a : List ByteArray, cmpL a a = 0
  | [] => rfl
  | x :: a => by simp only [cmpL]; rw [if_pos (cmpS_zero.mpr rfl)]; exact cmpL_refl a
theorem cmpL_cons {a b : ByteArray} {x y : List ByteArray} : cmpL (a :: x) (b :: y) < 0 ↔ Op.bytesLess a.toList b.toList = true ∨ (a = b ∧ cmpL x y < 0) := by
  simp only [cmpL]
  by_cases h : cmpS a b = 0
  · rw [if_pos h]
    have e := cmpS_zero.mp h
    subst e
    rw [less_irrefl]; simp
  · rw [if_neg h, cmpS_neg]
    constructor
    · exact Or.inl
    · rintro (h1 | ⟨h1, _⟩)
      · exact h1
      · exact absurd (cmpS_zero.mpr h1) h
theorem cmpL_trans : ∀ a b c : List ByteArray, cmpL a b < 0 → cmpL b c < 0 → cmpL a c < 0
  | [], [], _, h, _ => by simp [cmpL] at h
  | _, _ :: _, [], _, h => by simp [cmpL] at h
  | [], _ :: _, _ :: _, _, _ => by simp [cmpL]
  | _ :: _, [], _, h, _ => by simp [cmpL] at h
  | x :: a, y :: b, z :: c, h1, h2 => by
    rw [cmpL_cons] at h1 h2 ⊢
    rcases h1 with h1 | ⟨rfl, h1⟩
    · rcases h2 with h2 | ⟨rfl, h2⟩
      · exact Or.inl (less_trans _ _ _ h1 h2)
      · exact Or.inl h1
    · rcases h2 with h2 | ⟨rfl, h2⟩
      · exact Or.inl h2
      · exact Or.inr ⟨rfl, cmpL_trans a b c h1 h2⟩
/-- What stands between a way and one that is made of it by a name more, begins with it. -/
theorem between (n : ByteArray) : ∀ P M : List ByteArray, (P = M ∨ cmpL P M < 0) → cmpL M (P ++ [n]) < 0 → M.take P.length = P ∧ P.length ≤ M.length
  | [], M, _, _ => by simp
  | a :: P, [], h, _ => by
    rcases h with h | h
    · simp at h
    · simp [cmpL] at h
  | a :: P, b :: M, h1, h2 => by
    rw [List.cons_append, cmpL_cons] at h2
    have hab : a = b ∨ Op.bytesLess a.toList b.toList = true := by
      rcases h1 with h1 | h1
      · exact Or.inl (List.cons.inj h1).1
      · rcases cmpL_cons.mp h1 with h1 | h1
        · exact Or.inr h1
        · exact Or.inl h1.1
    rcases h2 with h2 | ⟨rfl, h2⟩
    · rcases hab with rfl | hab
      · rw [less_irrefl] at h2; exact absurd h2 (by simp)
      · rw [less_asymm hab] at h2; exact absurd h2 (by simp)
    · have h3 : P = M ∨ cmpL P M < 0 := by
        rcases h1 with h1 | h1
        · exact Or.inl (List.cons.inj h1).2
        · rcases cmpL_cons.mp h1 with h1 | h1
          · rw [less_irrefl] at h1; exact absurd h1 (by simp)
          · exact Or.inr h1.2
      obtain ⟨h4, h5⟩ := between n P M h3 h2
      exact ⟨by rw [List.length_cons, List.take_succ_cons, h4], by simpa using h5⟩
theorem cmpL_snoc (n m : ByteArray) (R : List ByteArray) : ∀ P : List ByteArray, cmpL (P ++ m :: R) (P ++ [n]) < 0 ↔ Op.bytesLess m.toList n.toList = true
  | [] => by
    rw [List.nil_append, List.nil_append, cmpL_cons]
    constructor
    · rintro (h | ⟨_, h⟩)
      · exact h
      · cases R <;> simp [cmpL] at h
    · exact Or.inl
  | a :: P => by
    rw [List.cons_append, List.cons_append, cmpL_cons, cmpL_snoc n m R P]
    constructor
    · rintro (h | ⟨_, h⟩)
      · rw [less_irrefl] at h; exact absurd h (by simp)
      · exact h
    · intro h; exact Or.inr ⟨rfl, h⟩
theorem cmpL_more (n : ByteArray) : ∀ P : List ByteArray, cmpL P (P ++ [n]) < 0
  | [] => by simp [cmpL]
  | a :: P => by rw [List.cons_append, cmpL_cons]; exact Or.inr ⟨rfl, cmpL_more n P⟩
/-- The names of the i-th item. -/
def nmA (l : List It) (i : Nat) : List ByteArray := namesW (itAt l i).f0
def dirI (l : List It) (i : Nat) : Bool := (itAt l i).f1 == 2
/-- The first k items are as the program asks, the first a directory. -/
structure Pre (l : List It) (k : Nat) : Prop where
  root : (itAt l 0).f0.toList = [46]
  rdir : dirI l 0 = true
  ok : ∀ i, i < k → namesOk (itAt l i).f0 = true
  dir : ∀ i, 0 < i → i < k → dirAt l i (aboveB (itAt l i).f0).toList = true
  lt : ∀ i, i + 1 < k → cmpL (nmA l i) (nmA l (i + 1)) < 0
theorem dirAt_ex (l : List It) (s : List UInt8) : ∀ k, dirAt l k s = true → ∃ j, j < k ∧ (itAt l j).f0.toList = s ∧ dirI l j = true
  | 0, h => by simp [dirAt] at h
  | k + 1, h => by
    simp only [dirAt] at h
    by_cases e : (itAt l k).f0.toList = s
    · rw [if_pos e] at h; exact ⟨k, by omega, e, h⟩
    · rw [if_neg e] at h
      obtain ⟨j, h1, h2⟩ := dirAt_ex l s k h
      exact ⟨j, by omega, h2⟩
theorem dirAt_of (l : List It) (s : List UInt8) (j : Nat) (hd : dirI l j = true) (hs : (itAt l j).f0.toList = s) : ∀ k, j < k → (∀ i, i < k → (itAt l i).f0.toList = s → i = j) → dirAt l k s = true
  | 0, h, _ => absurd h (by omega)
  | k + 1, h, hu => by
    simp only [dirAt]
    by_cases e : (itAt l k).f0.toList = s
    · rw [if_pos e]
      have := hu k (by omega) e
      subst this
      exact hd
    · rw [if_neg e]
      have hjk : j ≠ k := fun ej => e (ej ▸ hs)
      exact dirAt_of l s j hd hs k (by omega) (fun i hi => hu i (by omega))
namespace Pre
variable {l : List It} {k : Nat}
theorem names (h : Pre l k) {i : Nat} (hi : i < k) : ∀ p ∈ nmA l i, nameOkB p = true := by
  have := h.ok i hi
  rw [namesOk_eq, List.all_eq_true] at this
  exact this
theorem lts (h : Pre l k) : ∀ d i, i + d + 1 < k → cmpL (nmA l i) (nmA l (i + d + 1)) < 0
  | 0, i, hi => h.lt i hi
  | d + 1, i, hi => cmpL_trans _ _ _ (lts h d i (by omega)) (h.lt (i + d + 1) (by omega))
theorem less (h : Pre l k) {i j : Nat} (hij : i < j) (hj : j < k) : cmpL (nmA l i) (nmA l j) < 0 := by
  have := lts h (j - i - 1) i (by omega)
  rwa [show i + (j - i - 1) + 1 = j by omega] at this
theorem one (h : Pre l k) {i j : Nat} (hi : i < k) (hj : j < k) (e : nmA l i = nmA l j) : i = j := by
  rcases Nat.lt_trichotomy i j with h1 | h1 | h1
  · have := h.less h1 hj; rw [e, cmpL_refl] at this; omega
  · exact h1
  · have := h.less h1 hi; rw [e, cmpL_refl] at this; omega
theorem zero (h : Pre l k) : nmA l 0 = [] := namesW_nil.mpr h.root
theorem ne (h : Pre l k) {i : Nat} (h0 : 0 < i) (hi : i < k) : nmA l i ≠ [] := by
  intro e
  have := h.one (i := 0) (j := i) (by omega) hi (by rw [h.zero, e])
  omega
/-- Who is told of as a directory by a way's text. -/
theorem told (h : Pre l k) {K : Nat} (hK : K ≤ k) {s : ByteArray} {P : List ByteArray} {n : ByteArray} (hn : nameOkB n = true) (hP : ∀ p ∈ P, nameOkB p = true) (hs : namesW s = P ++ [n]) (hd : dirAt l K (aboveB s).toList = true) :
    ∃ j, j < K ∧ nmA l j = P ∧ dirI l j = true := by
  obtain ⟨j, hj, e, hdj⟩ := dirAt_ex l _ K hd
  refine ⟨j, hj, ?_, hdj⟩
  refine names_way hP ?_
  rw [← (above_way hs hn).1, ← ByteArray.toList_eq, ← ByteArray.toList_eq, e]
theorem snoc (h : Pre l k) {i : Nat} (h0 : 0 < i) (hi : i < k) : ∃ P n, nmA l i = P ++ [n] ∧ nameOkB n = true ∧ (∀ p ∈ P, nameOkB p = true) := by
  have hne := h.ne h0 hi
  have hnm := h.names hi
  refine ⟨(nmA l i).dropLast, (nmA l i).getLast hne, (List.dropLast_concat_getLast hne).symm, hnm _ (List.getLast_mem hne), fun p hp => hnm p (List.dropLast_subset _ hp)⟩
/-- Where a way ends up among those that are open. -/
theorem fits' (h : Pre l k) {K : Nat} (hK : K + 1 ≤ k) {P : List ByteArray} {n : ByteArray} {j : Nat} (hj : j ≤ K) (e : nmA l j = P) (hd : dirI l j = true) (hc : cmpL (nmA l K) (P ++ [n]) < 0) :
    (nmA l K).take P.length = P ∧ P.length < (nmA l K).length + (if dirI l K = true then 1 else 0) := by
  by_cases hjK : j = K
  · subst hjK
    rw [e, hd]
    exact ⟨List.take_length, by simp⟩
  · have hl := h.less (show j < K by omega) (by omega)
    rw [e] at hl
    obtain ⟨h1, h2⟩ := between n P _ (Or.inr hl) hc
    refine ⟨h1, ?_⟩
    have : P.length ≠ (nmA l K).length := by
      intro e2
      rw [e2, List.take_length] at h1
      rw [h1, cmpL_refl] at hl
      omega
    omega
theorem closed (h : Pre l k) : ∀ i, i < k → ∀ p, p < (nmA l i).length → ∃ j, j < i ∧ nmA l j = (nmA l i).take p ∧ dirI l j = true := by
  intro i
  induction i using Nat.strongRecOn with
  | _ i ih =>
    intro hi p hp
    by_cases h0 : i = 0
    · subst h0; rw [h.zero] at hp; simp at hp
    · obtain ⟨P, n, e, hn, hP⟩ := h.snoc (show 0 < i by omega) hi
      obtain ⟨j, hj, ej, hdj⟩ := h.told (show i ≤ k by omega) hn hP e (h.dir i (by omega) hi)
      have hlen : (nmA l i).length = P.length + 1 := by rw [e]; simp
      by_cases hpP : p = P.length
      · exact ⟨j, hj, by rw [ej, e, hpP]; simp, hdj⟩
      · obtain ⟨j', hj', e', hd'⟩ := ih j hj (by omega) p (by rw [ej]; omega)
        refine ⟨j', by omega, ?_, hd'⟩
        rw [e', ej, e, List.take_append_of_le_length (by omega)]
end Pre
/-- What the reference asks of a way behind others. -/
def nextB (M : List ByteArray) (d : Bool) (P : List ByteArray) (n : ByteArray) : Bool :=
  decide (M.take P.length = P ∧ P.length < M.length + (if d = true then 1 else 0)) && Op.bytesLess ((M ++ [(⟨#[]⟩ : ByteArray)]).getD P.length ⟨#[]⟩).toList n.toList
theorem next_eq {l : List It} {K : Nat} (h : Pre l (K + 1)) {s : ByteArray} {P : List ByteArray} {n : ByteArray} (hn : nameOkB n = true) (hP : ∀ p ∈ P, nameOkB p = true) (hs : namesW s = P ++ [n]) :
    nextB (nmA l K) (dirI l K) P n = (dirAt l (K + 1) (aboveB s).toList && decide (cmpL (nmA l K) (P ++ [n]) < 0)) := by
  have hless : (nmA l K).take P.length = P → P.length < (nmA l K).length + (if dirI l K = true then 1 else 0) →
      (Op.bytesLess ((nmA l K ++ [(⟨#[]⟩ : ByteArray)]).getD P.length ⟨#[]⟩).toList n.toList = true ↔ cmpL (nmA l K) (P ++ [n]) < 0) := by
    intro h1 h2
    by_cases hlt : P.length < (nmA l K).length
    · have e : nmA l K = P ++ (nmA l K)[P.length] :: (nmA l K).drop (P.length + 1) := by
        conv => lhs; rw [← List.take_append_drop P.length (nmA l K), h1, List.drop_eq_getElem_cons hlt]
      have e2 : (nmA l K ++ [(⟨#[]⟩ : ByteArray)]).getD P.length ⟨#[]⟩ = (nmA l K)[P.length] := by
        rw [List.getD_eq_getElem?_getD, List.getElem?_append_left hlt, List.getElem?_eq_getElem hlt]; rfl
      rw [e2]
      conv => rhs; rw [e]
      exact (cmpL_snoc n _ _ P).symm
    · have hP2 : nmA l K = P := by rw [List.take_of_length_le (by omega)] at h1; exact h1
      rw [hP2]
      have e2 : (P ++ [(⟨#[]⟩ : ByteArray)]).getD P.length ⟨#[]⟩ = ⟨#[]⟩ := by simp
      rw [e2]
      constructor
      · intro _; exact cmpL_more n P
      · intro _
        have := name_ne hn
        rw [← ByteArray.toList_eq] at this
        have e3 : (⟨#[]⟩ : ByteArray).toList = [] := by rw [ByteArray.toList_eq]
        rw [e3]
        cases hx : n.toList with
        | nil => exact absurd hx this
        | cons => rfl
  rw [Bool.eq_iff_iff]
  unfold nextB
  simp only [Bool.and_eq_true, decide_eq_true_eq]
  constructor
  · rintro ⟨⟨h1, h2⟩, h3⟩
    have hc := (hless h1 h2).mp h3
    refine ⟨?_, hc⟩
    have : ∃ j, j < K + 1 ∧ nmA l j = P ∧ dirI l j = true := by
      by_cases hlt : P.length < (nmA l K).length
      · obtain ⟨j, hj, e, hd⟩ := h.closed K (by omega) P.length hlt
        exact ⟨j, by omega, by rw [e, h1], hd⟩
      · refine ⟨K, by omega, ?_, ?_⟩
        · rw [List.take_of_length_le (by omega)] at h1; exact h1
        · by_cases hd : dirI l K = true
          · exact hd
          · rw [if_neg hd] at h2; omega
    obtain ⟨j, hj, e, hd⟩ := this
    have hw : ∀ i, i < K + 1 → ((itAt l i).f0.toList = (aboveB s).toList ↔ nmA l i = P) := by
      intro i hi
      rw [ByteArray.toList_eq, ByteArray.toList_eq, (above_way hs hn).1]
      constructor
      · intro e; exact names_way hP e
      · intro e; rw [← e]; exact (way_names _).symm
    exact dirAt_of l _ j hd ((hw j hj).mpr e) (K + 1) hj (fun i hi ei => h.one hi hj (by rw [(hw i hi).mp ei, e]))
  · rintro ⟨h1, hc⟩
    obtain ⟨j, hj, e, hd⟩ := h.told (Nat.le_refl _) hn hP hs h1
    obtain ⟨h2, h3⟩ := h.fits' (Nat.le_refl _) (show j ≤ K by omega) e hd hc
    exact ⟨⟨h2, h3⟩, (hless h2 h3).mpr hc⟩

end Go.Proofs.YthhmkbchdiflcaaGreatDoor.Q

/- What DiffItems answers, plainly: the changes of each way, in the ways' order. -/
namespace Go.Proofs.YthhmkbchdiflcaaGreatDoor.Q
open Go.RowKit Go.Proofs.YthhmkbchdiflcaaGreatDoorW.PrintWords Go.Proofs.YthhmkbchdiflcaaGreatDoorW.PrintLast Go.Proofs.YthhmkbchdiflcaaGreatDoorW.PrintMore
attribute [local go_sem] max2_int min2_int max_two min_two max_three min_three max_four min_four   -- for this text's walks alone
set_option linter.unusedVariables false
set_option linter.unusedSimpArgs false

abbrev Ch := S104
def mkCh (k : Int) (s : ByteArray) (o n : It) : Ch := ⟨k, s, o, n⟩
abbrev zI : It := z74
/-- The way of a change stands ahead of another one's. -/
def ltW (c d : Ch) : Prop := Op.bytesLess c.f1.toList d.f1.toList = true
theorem ltW_irr (c : Ch) : ¬ ltW c c := by unfold ltW; rw [less_irrefl]; simp
theorem ltW_asym {c d : Ch} (h : ltW c d) : ¬ ltW d c := by unfold ltW at *; rw [less_asymm h]; simp
theorem ltW_trans {c d e : Ch} (h : ltW c d) (h2 : ltW d e) : ltW c e := less_trans _ _ _ h h2
/-- Two lists with the same members, each in order, are one. -/
theorem eq_of_sorted {α : Type} {lt : α → α → Prop} (irr : ∀ a, ¬ lt a a) (asym : ∀ a b, lt a b → ¬ lt b a) : ∀ {l1 l2 : List α}, l1.Pairwise lt → l2.Pairwise lt → (∀ c, c ∈ l1 ↔ c ∈ l2) → l1 = l2
  | [], [], _, _, _ => rfl
  | [], b :: s, _, _, h => absurd ((h b).mpr (by simp)) (by simp)
  | a :: r, [], _, _, h => absurd ((h a).mp (by simp)) (by simp)
  | a :: r, b :: s, h1, h2, h => by
    obtain ⟨ha, hr⟩ := List.pairwise_cons.mp h1
    obtain ⟨hb, hs⟩ := List.pairwise_cons.mp h2
    have hab : a = b := by
      rcases List.mem_cons.mp ((h a).mp (by simp)) with e | e
      · exact e
      · rcases List.mem_cons.mp ((h b).mpr (by simp)) with e2 | e2
        · exact e2.symm
        · exact absurd (ha b e2) (asym _ _ (hb a e))
    subst hab
    rw [eq_of_sorted irr asym hr hs (fun c => ?_)]
    constructor
    · intro hc
      rcases List.mem_cons.mp ((h c).mp (List.mem_cons_of_mem _ hc)) with e | e
      · subst e; exact absurd (ha c hc) (irr c)
      · exact e
    · intro hc
      rcases List.mem_cons.mp ((h c).mpr (List.mem_cons_of_mem _ hc)) with e | e
      · subst e; exact absurd (hb c hc) (irr c)
      · exact e
def chAt (l : List Ch) (i : Nat) : Ch := rd_T104 l (i : Int)
theorem chAt_get (l : List Ch) (i : Nat) (h : i < l.length) : chAt l i = l[i] := by
  unfold chAt rd_T104; simp [List.getD, h]
/-- Where a change goes into a list in order: behind the last whose way does not stand behind its own. -/
def cutK (l : List Ch) (x : Ch) : Nat → Nat
  | 0 => 0
  | k + 1 => if Op.bytesLess x.f1.toList (chAt l k).f1.toList = true then cutK l x k else k + 1
def putL (l : List Ch) (x : Ch) : List Ch := l.take (cutK l x l.length) ++ [x] ++ l.drop (cutK l x l.length)
theorem cutK_le (l : List Ch) (x : Ch) : ∀ k, cutK l x k ≤ k
  | 0 => Nat.le_refl _
  | k + 1 => by
    unfold cutK; split
    · exact Nat.le_succ_of_le (cutK_le l x k)
    · exact Nat.le_refl _
theorem cutK_past (l : List Ch) (x : Ch) : ∀ k j, cutK l x k ≤ j → j < k → ltW x (chAt l j)
  | 0, j, _, h => absurd h (Nat.not_lt_zero j)
  | k + 1, j, h1, h2 => by
    unfold cutK at h1
    split at h1
    · rename_i h
      by_cases hj : j = k
      · subst hj; exact h
      · exact cutK_past l x k j h1 (by omega)
    · omega
theorem cutK_at (l : List Ch) (x : Ch) : ∀ k, 0 < cutK l x k → ¬ ltW x (chAt l (cutK l x k - 1))
  | 0, h => absurd h (by simp [cutK])
  | k + 1, h => by
    unfold cutK at h ⊢
    split
    · rename_i hc
      rw [if_pos hc] at h
      exact cutK_at l x k h
    · rename_i hc
      exact hc
theorem putL_mem (l : List Ch) (x c : Ch) : c ∈ putL l x ↔ c = x ∨ c ∈ l := by
  unfold putL
  conv => rhs; rw [← List.take_append_drop (cutK l x l.length) l]
  simp only [List.mem_append, List.mem_singleton]
  constructor
  · rintro ((h | h) | h)
    · exact .inr (.inl h)
    · exact .inl h
    · exact .inr (.inr h)
  · rintro (h | h | h)
    · exact .inl (.inr h)
    · exact .inl (.inl h)
    · exact .inr h
theorem way_inj {c d : Ch} (h : ¬ ltW c d) (h2 : ¬ ltW d c) : c.f1 = d.f1 := by
  have e := less_tri (a := c.f1.toList) (b := d.f1.toList) (by simpa [ltW] using h) (by simpa [ltW] using h2)
  rw [ByteArray.toList_eq, ByteArray.toList_eq] at e
  exact data_inj e
theorem putL_sorted {l : List Ch} {x : Ch} (h : l.Pairwise ltW) (hx : ∀ c ∈ l, c.f1 ≠ x.f1) : (putL l x).Pairwise ltW := by
  have hle := cutK_le l x l.length
  obtain ⟨k, hk⟩ : ∃ k, k = cutK l x l.length := ⟨_, rfl⟩
  have hpast := cutK_past l x l.length
  have hat := cutK_at l x l.length
  unfold putL
  rw [← hk] at hle hpast hat ⊢
  have hget := List.pairwise_iff_getElem.mp h
  have htake : ∀ c ∈ l.take k, ltW c x := fun c hc => by
    obtain ⟨j, hj, rfl⟩ := List.getElem_of_mem hc
    rw [List.length_take] at hj
    have hj2 : j < l.length := by omega
    rw [List.getElem_take]
    have h0 := hat (by omega)
    rw [chAt_get l (k - 1) (by omega)] at h0
    have hne : l[k - 1].f1 ≠ x.f1 := hx _ (List.getElem_mem _)
    have hlast : ltW l[k - 1] x := by
      by_cases hq : ltW l[k - 1] x
      · exact hq
      · exact absurd (way_inj hq h0) hne
    by_cases hjk : j = k - 1
    · subst hjk; exact hlast
    · exact ltW_trans (hget j (k - 1) hj2 (by omega) (by omega)) hlast
  have hdrop : ∀ c ∈ l.drop k, ltW x c := fun c hc => by
    obtain ⟨j, hj, rfl⟩ := List.getElem_of_mem hc
    rw [List.length_drop] at hj
    rw [List.getElem_drop, ← chAt_get l (k + j) (by omega)]
    exact hpast (k + j) (by omega) (by omega)
  rw [List.append_assoc, List.pairwise_append]
  refine ⟨h.sublist (List.take_sublist _ _), ?_, fun a ha b hb => ?_⟩
  · rw [List.singleton_append, List.pairwise_cons]
    exact ⟨hdrop, h.sublist (List.drop_sublist _ _)⟩
  · rcases List.mem_append.mp hb with hb | hb
    · rw [List.mem_singleton.mp hb]; exact htake a ha
    · exact ltW_trans (htake a ha) (hdrop b hb)
/-- What is put into a list in order, one after the other, with ways of their own: in order, and nothing else. -/
theorem fold_put : ∀ (xs l : List Ch), l.Pairwise ltW → (xs.map (·.f1)).Nodup → (∀ c ∈ l, ∀ x ∈ xs, c.f1 ≠ x.f1) → (xs.foldl putL l).Pairwise ltW ∧ ∀ c, c ∈ xs.foldl putL l ↔ c ∈ l ∨ c ∈ xs
  | [], l, h, _, _ => ⟨h, fun c => by simp⟩
  | x :: r, l, h, hn, hd => by
    rw [List.map_cons, List.nodup_cons] at hn
    have h1 := putL_sorted h (fun c hc => hd c hc x (by simp))
    obtain ⟨h2, h3⟩ := fold_put r (putL l x) h1 hn.2 (fun c hc y hy => by
      rcases (putL_mem l x c).mp hc with e | e
      · subst e; intro e2; exact hn.1 (by rw [e2]; exact List.mem_map_of_mem hy)
      · exact hd c e y (by simp [hy]))
    refine ⟨h2, fun c => ?_⟩
    rw [List.foldl_cons, h3, putL_mem, List.mem_cons]
    constructor
    · rintro ((h | h) | h)
      · exact .inr (.inl h)
      · exact .inl h
      · exact .inr (.inr h)
    · rintro (h | h | h)
      · exact .inl (.inr h)
      · exact .inl (.inl h)
      · exact .inr h
open Classical in
/-- The change of an item that was there; of one that is there now. -/
noncomputable def stepA (gb : List UInt8 → Option It) (s : ByteArray) (x : It) : Option Ch := match gb s.data.toList with
  | none => some (mkCh 2 s x zI)
  | some y => if x = y then none else some (mkCh 3 s x y)
def stepN (ga : List UInt8 → Option It) (s : ByteArray) (y : It) : Option Ch := match ga s.data.toList with
  | none => some (mkCh 1 s zI y)
  | some _ => none
def wayG (l : List It) : List UInt8 → Option It := wayMap l l.length
noncomputable def changesOf (a b : List It) : List Ch := a.filterMap (fun x => stepA (wayG b) x.f0 (bareI x)) ++ b.filterMap (fun y => stepN (wayG a) y.f0 (bareI y))
def loneB (l : List It) : Bool := (List.range l.length).all (fun i => (itAt l i).f6 == (i : Int)) && goodB l
noncomputable def diffL (a b : List It) : List Ch := (changesOf a b).foldl putL []
noncomputable def diffAns (a b : List It) : List Ch × Bool := if loneB a = true ∧ loneB b = true then (diffL a b, true) else ([], false)

end Go.Proofs.YthhmkbchdiflcaaGreatDoor.Q

/- spec.l18Put: a change laid into a list of changes. -/
namespace Go.Proofs.YthhmkbchdiflcaaGreatDoor.Q
open Go.RowKit Go.Proofs.YthhmkbchdiflcaaGreatDoorW.PrintWords Go.Proofs.YthhmkbchdiflcaaGreatDoorW.PrintLast Go.Proofs.YthhmkbchdiflcaaGreatDoorW.PrintMore
attribute [local go_sem] max2_int min2_int max_two min_two max_three min_three max_four min_four   -- for this text's walks alone
set_option linter.unusedVariables false
set_option linter.unusedSimpArgs false

def encIt2 (x : It) : List Value := [.string x.f0, .int .i64 x.f1, .int .i64 x.f2, .int .i64 x.f3, .int .i64 x.f4, .int .i64 x.f5, .int .i64 x.f6, .string x.f7]
def encCh2 (c : Ch) : List Value := [.int .i64 c.f0, .string c.f1] ++ encIt2 c.f2 ++ encIt2 c.f3
def put18_T : Bool × List (List Nat × List Nat) := (true, [([], []), ([], []), ([], []), ([1, 2], [1, 2]), ([0, 3], [0, 3]), ([], []), ([5], [5]), ([4, 6, 4], [4, 6]), ([], []), ([7, 8, 7], [7, 8]), ([9, 9, 0, 1, 2, 3, 4, 5, 6, 7, 8, 9], [9])])
def put18_B : List Nat := [0, 0, 0, 6, 15, 0, 32, 127, 0, 511, 1023]
theorem put18_tab : rtab .any (opsOf Tryz.f77 5) = put18_T := by kernel_rfl
theorem put18_bits : waitsOk put18_T.2 put18_B = true := by kernel_rfl
theorem run_bs (c : Ch) (W : World) : ((do pure (Next.value (← Instr.buildSlice 34 1 #[(0, .agg (encCh2 c).toArray)])) : Sem Next)).run Tryz.prog W = .ok (.value (.slice (some ⟨W.heap.size, 0, none⟩) 1 1)) (W.alloc (.cells (encCh2 c).toArray 104)) := by
  obtain ⟨i0, hi, hz, hs, _⟩ := info_parts info104
  have h := run_buildSlice (P := Tryz.prog) W 34 104 1 #[(0, .agg (encCh2 c).toArray)] (encCh2 c).toArray i0 _ Tryz.underlying34 hi hz (by rw [hs]; decide) (by rw [hs]; decide) (by rw [hs]; first | kernel_rfl | simp [Instr.fill, encCh2, encIt2])
  rw [Sem.run_bind, h]; rfl
theorem wrap_dn (m : Nat) (h : m ≤ 100000) : IntKind.i64.wrap (((m + 1 : Nat) : Int) - 1) = (m : Int) := (i64_w _).trans (by unfold wrap64; omega)
set_option maxHeartbeats 8000000 in
set_option maxRecDepth 100000 in
theorem put18_walk (A0 : Option Addr) (c0 : Nat) (l : List Ch) (c : Ch) (cs : Array Value) (hcs : cs = (encCh2 c).toArray) (w : World) (hr0 : Kd.C k104 w A0 l.length l) (hc0 : l.length ≤ c0) (hl : l.length ≤ 1000) :
    Calls Tryz.prog 77 #[.slice A0 l.length c0, .agg cs] w fun e w' => ∃ v0_ : Value, e = .returned (v0_) ∧ Kd.R k104 104 w' w.heap.size (fun _ => True) v0_ (putL l c) ∧ Below w.heap.size w w' := by
  have hu1 := Tryz.underlying104
  have HR0 := Aside0.mk hr0
  have HC0 := Aside0.mk hc0
  have HL := Aside0.mk hl
  have hs1 : cs[1]? = some (.string c.f1) := by rw [hcs]; rfl
  have hs18 : cs.size = 18 := by rw [hcs]; rfl
  have HCS := Aside0.mk hcs
  have HS1 := Aside0.mk hs1
  have HS18 := Aside0.mk hs18
  have hB := Aside0.mk (Below.refl w.heap.size w)
  clear hr0 hc0 hl hcs hs1 hs18
  go_enter Tryz.func77, Tryz.ntmps77
  go_upto_region 1 with (fail)
  obtain ⟨gb, hgb⟩ : ∃ g, g = w.heap.size := ⟨_, rfl⟩
  have BK := Aside0.mk (show (w.alloc (.cells cs 104)).heap[gb]? = some (.cells cs 104 (0, 0)) from by rw [hgb]; exact blk_new _ _)
  have HB := Aside0.mk (show Below w.heap.size w (w.alloc (.cells cs 104)) from below_alloc (Below.refl w.heap.size w) _)
  have GE := Aside0.mk (show w.heap.size ≤ gb from by omega)
  rw [← hgb]
  generalize w.alloc (.cells cs 104) = w1 at BK HB ⊢
  clear hgb
  go_upto_block 0 with fail
  go_outline
  go_cut [5] (fun v5 wc => v5 = .int .i64 (cutK l c l.length : Int) ∧ Aside0 (wc.heap[gb]? = some (.cells cs 104 (0, 0))) ∧ Aside0 (Below w.heap.size w wc))
  case first =>
    go_wp2
    go_loopw [5] (fun v5 wr => ∃ k : Nat, k ≤ l.length ∧ v5 = .int .i64 (k : Int) ∧ Aside0 (cutK l c l.length = cutK l c k) ∧ Aside0 (wr.heap[gb]? = some (.cells cs 104 (0, 0))) ∧ Aside0 (Below w.heap.size w wr)) (fun v5 _ => (intOf v5).toNat)
    case atStart => exact ⟨l.length, Nat.le_refl _, rfl, ⟨rfl⟩, BK, HB⟩
    case round =>
      clear BK HB
      obtain ⟨k, hk, rfl, HC, BK, HB⟩ := hrel
      by_cases hk0 : k = 0
      case pos =>
        subst hk0
        have d0 : decide ((0 : Int) < ((0 : Nat) : Int)) = false := rfl
        clear hk
        go_wp2_with fail
        go_quiet (fail)
        go_wp2
        go_meet
        case rel => exact ⟨by rw [HC.out]; rfl, ⟨blk_drewN BK.out _⟩, ⟨pw_below_drewN HB.out _⟩⟩
      case neg =>
        obtain ⟨m, hkm⟩ : ∃ m, k = m + 1 := ⟨k - 1, by omega⟩
        have d0 : decide ((0 : Int) < (k : Int)) = true := decide_eq_true (by omega)
        have d1 : decide (0 < k) = true := decide_eq_true (by omega)
        have hm : m < l.length := by omega
        have hw : IntKind.i64.wrap ((k : Int) - 1) = (m : Int) := by rw [hkm]; exact wrap_dn m (by have := HL.out; omega)
        have HKM := Aside0.mk hkm
        obtain ⟨ad, rfl, e0, e1, -⟩ := at_T104 HR0.out (m : Int) (by omega) (by omega)
        simp only [Int.toNat_natCast] at e1
        replace e1 := (HB.out.cell (World.block_lt_of_cell? w _ e1)).trans e1
        have p1 : ((0 : Int) ≤ (m : Int)) = True := eq_true (by omega)
        have p3 : ((m : Int) < (l.length : Int)) = True := eq_true (by omega)
        have b1 : wr.cell? ⟨gb, 1, none⟩ = some (.string c.f1) := (blk_cell BK.out 1).trans HS1.out
        clear e0 hk hkm hk0
        by_cases h : Op.bytesLess c.f1.toList (chAt l m).f1.toList = true
        case pos =>
          have hb : Op.bytesLess c.f1.toList (rd_T104 l (m : Int)).f1.toList = true := h
          have HK : Aside0 (cutK l c l.length = cutK l c m) := ⟨by rw [HC.out, HKM.out, cutK, if_pos h]⟩
          clear h
          go_wp2_with fail
          go_quiet (fail)
          go_wp2
          go_roundw
          case rel => exact ⟨m, by omega, by first | rfl | go_num, HK, ⟨blk_drewN BK.out _⟩, ⟨pw_below_drewN HB.out _⟩⟩
          case measure => have := HKM.out; simp [intOf]; omega
        case neg =>
          have hb : Op.bytesLess c.f1.toList (rd_T104 l (m : Int)).f1.toList = false := by
            have h2 : ¬ Op.bytesLess c.f1.toList (rd_T104 l (m : Int)).f1.toList = true := h
            simpa using h2
          have HK : Aside0 (cutK l c l.length = k) := ⟨by rw [HC.out, HKM.out, cutK, if_neg h]⟩
          clear h
          go_wp2_with fail
          go_quiet (fail)
          go_wp2
          go_meet
          case rel => exact ⟨by rw [HK.out], ⟨blk_drewN BK.out _⟩, ⟨pw_below_drewN HB.out _⟩⟩
  case rest =>
    obtain ⟨rfl, BK, HB⟩ := hcut
    obtain ⟨k, hk⟩ : ∃ k, k = cutK l c l.length := ⟨_, rfl⟩
    have hkl : k ≤ l.length := by rw [hk]; exact cutK_le l c l.length
    have HPUT : Aside0 (l.take k ++ [c] ++ l.drop k = putL l c) := ⟨by rw [hk]; rfl⟩
    rw [← hk]
    clear hk
    obtain ⟨i0, hi0, _, hsz, _⟩ := info_parts info104
    have q0 : (0 : Int) ≤ (k : Int) := by omega
    have q1 : (k : Int) ≤ (l.length : Int) := by omega
    have hcut4 := cut_from (P := Tryz.prog) 34 104 .i64 Tryz.underlying34 hi0 18 hsz A0 l.length c0 (k : Int) q0 q1
    have hcut5 := cut_to (P := Tryz.prog) 34 104 .i64 Tryz.underlying34 hi0 A0 l.length c0 (k : Int) q0 q1 HC0.out
    have hr4 := Kd.C_drop (m := k) (c := c0) HR0.out (by omega) HC0.out
    have hr5 := Kd.C_take (m := k) HR0.out (by omega)
    simp only [Int.toNat_natCast] at hcut4 hcut5
    obtain ⟨A4, hA4⟩ : ∃ A1, A1 = (if c0 = k then A0 else A0.map (·.add (k * 18))) := ⟨_, rfl⟩
    obtain ⟨c4, hc4⟩ : ∃ c1, c1 = c0 - k := ⟨_, rfl⟩
    rw [← hA4, ← hc4] at hcut4
    obtain ⟨y4, hy4⟩ : ∃ y, y = l.drop k := ⟨_, rfl⟩
    obtain ⟨y5, hy5⟩ : ∃ y, y = l.take k := ⟨_, rfl⟩
    have n4 : l.length - k = y4.length := by rw [hy4, List.length_drop]
    have n5 : k = y5.length := by rw [hy5, List.length_take]; omega
    replace hr4 : Kd.C k104 w A4 y4.length y4 := by rw [hA4, hy4]; exact hr4
    rw [← hy5] at hr5
    rw [n4] at hcut4
    replace hcut5 : ∀ W : World, (Instr.slice 34 (.slice A0 l.length c0) none (some (.int .i64 (k : Int))) none).run Tryz.prog W = .ok (.slice A0 y5.length c0) W := by rw [← n5]; exact hcut5
    have R4 := Aside0.mk hr4
    have R5 := Aside0.mk hr5
    have HPUT2 : Aside0 (y5 ++ [c] ++ y4 = putL l c) := ⟨by rw [hy4, hy5]; exact HPUT.out⟩
    have L4 : Aside0 (y4.length ≤ 1000) := ⟨by rw [← n4]; have := HL.out; omega⟩
    have L5 : Aside0 (y5.length ≤ 1000) := ⟨by rw [← n5]; have := HL.out; omega⟩
    clear hr4 hr5 hi0 hsz n4 n5 hy4 hy5 hA4 hc4 HPUT
    go_wp2_with (first | ((with_reducible refine gate_dst (N := 24) rfl ?_); refine Kd.R_lit k104 _ 104 ?hg (N := 24) ?hd (xs := ([] : List Ch)) (inner := []) (ok := fun _ => True) (okp := fun _ => True) ?hr ?hp (fun _ hk => hk) trivial (Below.refl _ _) (Nat.le_refl _) (by simp) ?_; (case hd => rfl); (case hg => rfl); (case hr => first | (go_simp; done) | (go_simp; rfl)); (case hp => exact (Reps.none _ _)); intro v24 w2 ho hb hg_ hnew_; clear hg_ hnew_; have n0_ := Aside0.mk (Kd.R_lower (Kd.R_newB ho BK.out) HB.out.size); have n1_ := Aside0.mk (blk_below BK.out hb); have n2_ := Aside0.mk (below_step HB.out hb); clear BK HB hb ho; have O24 := n0_; have BK := n1_; have HB := n2_; clear n0_ n1_ n2_) | ((with_reducible refine gate_builtin (b := .append) (xs := #[.tmp 24, .tmp 27]) rfl ?_); at_builtin; refine Kd.R_append_rows k104 (w0 := w) w.heap.size rfl (.tmp 24) (.tmp 27) 34 104 (.agg #[(.int .i64 0), (.string ⟨#[]⟩), (.string ⟨#[]⟩), (.int .i64 0), (.int .i64 0), (.int .i64 0), (.int .i64 0), (.int .i64 0), (.int .i64 0), (.string ⟨#[]⟩), (.string ⟨#[]⟩), (.int .i64 0), (.int .i64 0), (.int .i64 0), (.int .i64 0), (.int .i64 0), (.int .i64 0), (.string ⟨#[]⟩)]) 184 rfl Tryz.underlying34 info104 rfl (by decide) (by omega) v24 [] y4 _ _ _ (fun k_ => k_ ≠ gb) (fun _ => False) rfl rfl ?aO ?aR (fun _ _ h => h) (fun _ h => h.elim) ?aF ?aB ?aS ?aL ?_; (case aR => exact Kd.C_below R4.out HB.out); (case aB => exact HB.out); (case aF => exact (fun k_ hk => Kd.freshB BK.out k_ hk)); (case aO => exact Kd.R_mono O24.out (fun _ hk => hk.2)); (case aS => exact HB.out.size); (case aL => have := L4.out; simp only [List.length_nil]; omega); intro v28 w3 ho hb hg hat; rw [List.nil_append] at ho; have n0_ := Aside0.mk (blk_grown BK.out hg (Kd.R_away (Kd.R_mono O24.out (fun _ hk => hk.2)) (fun _ hk => hk))); have n1_ := Aside0.mk ho; have n2_ := Aside0.mk hb; clear BK HB O24 ho hb hg hat; have BK := n0_; have O28 := n1_; have HB := n2_; clear n0_ n1_ n2_))
    obtain ⟨A28, c28, e28⟩ := Kd.R_slice O28.out
    subst e28
    have hload : ∀ W : World, W.heap[gb]? = some (.cells cs 104 (0, 0)) → (loadVar 104 ⟨gb, 0, none⟩).run Tryz.prog W = .ok (.agg cs) W := fun W h => run_loadVar_row W gb 104 104 cs (0, 0) _ h Tryz.underlying104 rfl (by rw [HS18.out]; kernel_rfl)
    have hbs : ∀ W : World, ((do pure (Next.value (← Instr.buildSlice 34 1 #[(0, .agg cs)])) : Sem Next)).run Tryz.prog W = .ok (.value (.slice (some ⟨W.heap.size, 0, none⟩) 1 1)) (W.alloc (.cells (encCh2 c).toArray 104)) := fun W => by rw [HCS.out]; exact run_bs c W
    refine start_ (n := 11) (S := fun W => W.heap[gb]? = some (.cells cs 104 (0, 0))) (ds := []) #[false, false, false, false, false, false, false, false, false, false, false] (by kernel_rfl) rfl rfl (blk_drew BK.out) (fun hHeld => ?_); refine with_tabW put18_tab put18_bits (fun HT_ HW_ => ?_)
    have D := Aside0.mk (below_drew1 (Below.refl w3.heap.size w3))
    generalize w3.drew = w4 at D hHeld ⊢
    refine pure_ (i := 1) (N := some 30) (v := ?_) (a' := ?_) #[false, true, false, false, false, false, false, false, false, false, false] rfl rfl (any_of HT_.out (by kernel_rfl)) (fun _ _ _ h => h) (Or.inl ⟨by rfl, ?_⟩) ?_ ?_
    rotate_left
    · intro w'
      go_simp
      with_reducible rfl
    rotate_left
    · simp only [Act.put, List.setIfInBounds_toArray, List.set_cons_zero, List.set_cons_succ, i64_w, i32_w]
      rfl
    refine pure_ (i := 2) (N := some 31) (v := ?_) (a' := ?_) #[false, true, true, false, false, false, false, false, false, false, false] rfl rfl (any_of HT_.out (by kernel_rfl)) (fun _ _ _ h => h) (Or.inl ⟨by rfl, ?_⟩) ?_ ?_
    rotate_left
    · intro w'
      go_simp
      with_reducible rfl
    rotate_left
    · simp only [Act.put, List.setIfInBounds_toArray, List.set_cons_zero, List.set_cons_succ, i64_w, i32_w]
      rfl
    refine pure_ (i := 3) (N := some 32) (v := ?_) (a' := ?_) #[false, true, true, true, false, false, false, false, false, false, false] rfl rfl (any_of HT_.out (by kernel_rfl)) (fun _ _ _ h => h) (Or.inl ⟨by rfl, ?_⟩) ?_ ?_
    rotate_left
    · intro w'
      go_simp
      with_reducible rfl
    rotate_left
    · simp only [Act.put, List.setIfInBounds_toArray, List.set_cons_zero, List.set_cons_succ, i64_w, i32_w]
      rfl
    refine pure_ (i := 8) (N := some 37) (v := ?_) (a' := ?_) #[false, true, true, true, false, false, false, false, true, false, false] rfl rfl (any_of HT_.out (by kernel_rfl)) (fun _ _ _ h => h) (Or.inl ⟨by rfl, ?_⟩) ?_ ?_
    rotate_left
    · intro w'
      go_simp
      with_reducible rfl
    rotate_left
    · simp only [Act.put, List.setIfInBounds_toArray, List.set_cons_zero, List.set_cons_succ, i64_w, i32_w]
      rfl
    refine take_ (i := 5) (N := some 34) (v := .agg cs) (a' := ?_) #[false, true, true, true, false, true, false, false, true, false, false] rfl rfl (take_ofW HT_.out HW_.out (by kernel_rfl)) (fun _ _ _ h => h) (Or.inl ⟨by rfl, ?hy⟩) hHeld ?ha ?hh
    case ha =>
      simp only [Act.put, List.setIfInBounds_toArray, List.set_cons_zero, List.set_cons_succ, i64_w, i32_w]
      rfl
    case hy =>
      intro w' s0
      have hl2 : (Instr.loadAt 104 (.pointer (some ⟨gb, 0, none⟩))).run Tryz.prog w' = .ok (.agg cs) w' := by simp only [Instr.loadAt, Instr.sureAddr, Sem.run_bind, Sem.run_pure, Result.andThen_ok, hload w' s0]
      show ((do pure (Next.value (← Instr.loadAt 104 (.pointer (some ⟨gb, 0, none⟩)))) : Sem Next)).run Tryz.prog w' = _
      rw [Sem.run_bind, hl2]; rfl
    case hh =>
      clear hload
      refine join_ (σ := Value × Value × Value) 3 #[true, true, true, true, true, true, true, false, true, false, false] (fun s_ => [(29, s_.1), (33, s_.2.1), (35, s_.2.2)]) (fun s_ W => Kd.R k104 104 W w3.heap.size (fun k_ => some k_ ≠ (s_.2.2 : Value).ownBlock) s_.2.1 y5 ∧ Kd.R k104 104 W w3.heap.size (fun k_ => some k_ ≠ (s_.2.1 : Value).ownBlock) s_.2.2 [c] ∧ Below w3.heap.size w3 W) ?hcont ?horders
      case horders =>
        intro hCont
        refine two_ (i := 0) (j := 6) (Ni := some 29) (Nj := some 35) #[true, true, true, true, false, true, false, false, true, false, false] #[false, true, true, true, false, true, true, false, true, false, false] rfl rfl rfl rfl (two_of HT_.out (by kernel_rfl)) (by decide) (by decide) (fun K hK => ?_) (fun K hK => ?_)
        · skip
          refine Kd.R_lit_step k104 _ 104 ?hg (N := 29) ?hd (xs := ([] : List Ch)) (inner := []) (ok := fun _ => True) (okp := fun _ => True) ?hr ?hp (fun _ hk => hk) trivial (Below.refl _ _) (Nat.le_refl _) (by simp) ?_
          case hd => rfl
          case hg => rfl
          case hr => first | (go_simp; done) | (go_simp; rfl)
          case hp => exact (Reps.none _ _)
          intro v29 W ho hb hg_ hnew_
          clear hg_ hnew_
          have n1_ := Aside0.mk (Kd.R_lower ho D.out.size)
          have nD := Aside0.mk (below_step D.out hb)
          clear D hb ho
          have D := nD
          have O29 := n1_
          clear nD n1_
          refine hK.out _ _ ((D.out.block gb (blk_lt BK.out)).trans BK.out) (fun hHeld => ?_)
          clear hK K
          refine norm_ (a' := ?_) ?_ ?_
          rotate_left
          · show Act.put _ (some 29) _ = _
            simp only [Act.put, List.setIfInBounds_toArray, List.set_cons_zero, List.set_cons_succ, i64_w, i32_w]
            rfl
          refine two_ (i := 4) (j := 6) (Ni := some 33) (Nj := some 35) #[true, true, true, true, true, true, false, false, true, false, false] #[true, true, true, true, false, true, true, false, true, false, false] rfl rfl rfl rfl (two_of HT_.out (by kernel_rfl)) (by decide) (by decide) (fun K hK => ?_) (fun K hK => ?_)
          · skip
            refine Kd.R_append_rows_step k104 (w0 := w3) w3.heap.size (by rfl) (.tmp 29) (.tmp 32) 34 104 (.agg #[(.int .i64 0), (.string ⟨#[]⟩), (.string ⟨#[]⟩), (.int .i64 0), (.int .i64 0), (.int .i64 0), (.int .i64 0), (.int .i64 0), (.int .i64 0), (.string ⟨#[]⟩), (.string ⟨#[]⟩), (.int .i64 0), (.int .i64 0), (.int .i64 0), (.int .i64 0), (.int .i64 0), (.int .i64 0), (.string ⟨#[]⟩)]) 184 rfl Tryz.underlying34 info104 rfl (by decide) (by omega) v29 [] y5 _ _ _ (fun _ => True) (fun _ => False) rfl rfl ?aO ?aR (fun _ _ h => h) (fun _ h => h.elim) ?aF ?aB ?aS ?aL ?_
            case aR => exact Kd.C_below R5.out (HB.out.trans (D.out.mono HB.out.size))
            case aB => exact D.out
            case aF => exact (fun _ _ => trivial)
            case aO => exact Kd.R_mono O29.out (fun _ hk => trivial)
            case aS => exact D.out.size
            case aL => have := L5.out; simp only [List.length_nil]; omega
            intro v33 W ho hb hg hat
            rw [List.nil_append] at ho
            clear D hg hat
            have D := Aside0.mk hb
            have O33 := Aside0.mk ho
            clear hb ho
            refine hK.out _ _ ((D.out.block gb (blk_lt BK.out)).trans BK.out) (fun hHeld => ?_)
            clear hK K
            refine norm_ (a' := ?_) ?_ ?_
            rotate_left
            · show Act.put _ (some 33) _ = _
              simp only [Act.put, List.setIfInBounds_toArray, List.set_cons_zero, List.set_cons_succ, i64_w, i32_w]
              rfl
            refine one_ (i := 6) (N := some 35) #[true, true, true, true, true, true, true, false, true, false, false] rfl rfl (one_of HT_.out (by kernel_rfl)) (by decide) (fun K hK => ?_)
            refine Kd.R_lit_step k104 _ 104 ?hg (N := 35) ?hd (xs := [c]) (inner := encCh2 c) (ok := fun _ => True) (okp := fun _ => True) ?hr ?hp (fun _ hk => hk) trivial (Below.refl _ _) (Nat.le_refl _) (by simp) ?_
            case hd => rfl
            case hg => rfl
            case hr => simp only [List.getElem_toArray, List.getElem_cons_succ, List.getElem_cons_zero, execOp, List.map_toArray, List.map_cons, List.map_nil]; exact hbs _
            case hp => exact (Reps.front (show Kd.M k104 _ _ _ c (encCh2 c) from (k104_mkM _ _ _ c)) rfl (Reps.none _ _) rfl)
            intro v35 W ho hb hg_ hnew_
            clear hg_ hnew_
            have n0_ := Aside0.mk (Kd.R_elder' O33.out (Kd.R_base ho) hb)
            have n1_ := Aside0.mk (Kd.R_lower (Kd.R_new' ho (Kd.R_lt O33.out)) D.out.size)
            clear O33
            have O33 := n0_
            clear n0_
            have nD := Aside0.mk (below_step D.out hb)
            clear D hb ho
            have D := nD
            have O35 := n1_
            clear nD n1_
            refine hK.out _ _ ((D.out.block gb (blk_lt BK.out)).trans BK.out) (fun hHeld => ?_)
            clear hK K
            refine norm_ (a' := ?_) ?_ ?_
            rotate_left
            · show Act.put _ (some 35) _ = _
              simp only [Act.put, List.setIfInBounds_toArray, List.set_cons_zero, List.set_cons_succ, i64_w, i32_w]
              rfl
            exact norm_ (by simp only [putAll, Act.put, List.setIfInBounds_toArray, List.set_cons_zero, List.set_cons_succ]) (hCont (v29, v33, v35) _ ⟨Kd.R_mono O33.out (fun _ hk => hk.2), Kd.R_mono O35.out (fun _ hk => hk.2), D.out⟩)
          · skip
            refine Kd.R_lit_step k104 _ 104 ?hg (N := 35) ?hd (xs := [c]) (inner := encCh2 c) (ok := fun _ => True) (okp := fun _ => True) ?hr ?hp (fun _ hk => hk) trivial (Below.refl _ _) (Nat.le_refl _) (by simp) ?_
            case hd => rfl
            case hg => rfl
            case hr => simp only [List.getElem_toArray, List.getElem_cons_succ, List.getElem_cons_zero, execOp, List.map_toArray, List.map_cons, List.map_nil]; exact hbs _
            case hp => exact (Reps.front (show Kd.M k104 _ _ _ c (encCh2 c) from (k104_mkM _ _ _ c)) rfl (Reps.none _ _) rfl)
            intro v35 W ho hb hg_ hnew_
            clear hg_ hnew_
            have n0_ := Aside0.mk (Kd.R_elder' O29.out (Kd.R_base ho) hb)
            have n1_ := Aside0.mk (Kd.R_lower (Kd.R_new' ho (Kd.R_lt O29.out)) D.out.size)
            clear O29
            have O29 := n0_
            clear n0_
            have nD := Aside0.mk (below_step D.out hb)
            clear D hb ho
            have D := nD
            have O35 := n1_
            clear nD n1_
            refine hK.out _ _ ((D.out.block gb (blk_lt BK.out)).trans BK.out) (fun hHeld => ?_)
            clear hK K
            refine norm_ (a' := ?_) ?_ ?_
            rotate_left
            · show Act.put _ (some 35) _ = _
              simp only [Act.put, List.setIfInBounds_toArray, List.set_cons_zero, List.set_cons_succ, i64_w, i32_w]
              rfl
            refine one_ (i := 4) (N := some 33) #[true, true, true, true, true, true, true, false, true, false, false] rfl rfl (one_of HT_.out (by kernel_rfl)) (by decide) (fun K hK => ?_)
            refine Kd.R_append_rows_step k104 (w0 := w3) w3.heap.size (by rfl) (.tmp 29) (.tmp 32) 34 104 (.agg #[(.int .i64 0), (.string ⟨#[]⟩), (.string ⟨#[]⟩), (.int .i64 0), (.int .i64 0), (.int .i64 0), (.int .i64 0), (.int .i64 0), (.int .i64 0), (.string ⟨#[]⟩), (.string ⟨#[]⟩), (.int .i64 0), (.int .i64 0), (.int .i64 0), (.int .i64 0), (.int .i64 0), (.int .i64 0), (.string ⟨#[]⟩)]) 184 rfl Tryz.underlying34 info104 rfl (by decide) (by omega) v29 [] y5 _ _ _ (fun k_ => some k_ ≠ v35.ownBlock) (fun _ => False) rfl rfl ?aO ?aR (fun _ _ h => h) (fun _ h => h.elim) ?aF ?aB ?aS ?aL ?_
            case aR => exact Kd.C_below R5.out (HB.out.trans (D.out.mono HB.out.size))
            case aB => exact D.out
            case aF => exact (Kd.fresh' (Kd.R_lt O35.out))
            case aO => exact Kd.R_mono O29.out (fun _ hk => hk.2)
            case aS => exact D.out.size
            case aL => have := L5.out; simp only [List.length_nil]; omega
            intro v33 W ho hb hg hat
            rw [List.nil_append] at ho
            have n0_ := Aside0.mk (Kd.R_after (ok := fun _ => True) (Kd.R_mono O35.out (fun _ hk => ⟨trivial, hk.2⟩)) hg hat)
            clear O35
            have O35 := n0_
            clear n0_
            clear D hg hat
            have D := Aside0.mk hb
            have O33 := Aside0.mk ho
            clear hb ho
            refine hK.out _ _ ((D.out.block gb (blk_lt BK.out)).trans BK.out) (fun hHeld => ?_)
            clear hK K
            refine norm_ (a' := ?_) ?_ ?_
            rotate_left
            · show Act.put _ (some 33) _ = _
              simp only [Act.put, List.setIfInBounds_toArray, List.set_cons_zero, List.set_cons_succ, i64_w, i32_w]
              rfl
            exact norm_ (by simp only [putAll, Act.put, List.setIfInBounds_toArray, List.set_cons_zero, List.set_cons_succ]) (hCont (v29, v33, v35) _ ⟨Kd.R_mono O33.out (fun _ hk => hk), Kd.R_mono O35.out (fun _ hk => hk.2), D.out⟩)
        · skip
          refine Kd.R_lit_step k104 _ 104 ?hg (N := 35) ?hd (xs := [c]) (inner := encCh2 c) (ok := fun _ => True) (okp := fun _ => True) ?hr ?hp (fun _ hk => hk) trivial (Below.refl _ _) (Nat.le_refl _) (by simp) ?_
          case hd => rfl
          case hg => rfl
          case hr => simp only [List.getElem_toArray, List.getElem_cons_succ, List.getElem_cons_zero, execOp, List.map_toArray, List.map_cons, List.map_nil]; exact hbs _
          case hp => exact (Reps.front (show Kd.M k104 _ _ _ c (encCh2 c) from (k104_mkM _ _ _ c)) rfl (Reps.none _ _) rfl)
          intro v35 W ho hb hg_ hnew_
          clear hg_ hnew_
          have n1_ := Aside0.mk (Kd.R_lower ho D.out.size)
          have nD := Aside0.mk (below_step D.out hb)
          clear D hb ho
          have D := nD
          have O35 := n1_
          clear nD n1_
          refine hK.out _ _ ((D.out.block gb (blk_lt BK.out)).trans BK.out) (fun hHeld => ?_)
          clear hK K
          refine norm_ (a' := ?_) ?_ ?_
          rotate_left
          · show Act.put _ (some 35) _ = _
            simp only [Act.put, List.setIfInBounds_toArray, List.set_cons_zero, List.set_cons_succ, i64_w, i32_w]
            rfl
          refine one_ (i := 0) (N := some 29) #[true, true, true, true, false, true, true, false, true, false, false] rfl rfl (one_of HT_.out (by kernel_rfl)) (by decide) (fun K hK => ?_)
          refine Kd.R_lit_step k104 _ 104 ?hg (N := 29) ?hd (xs := ([] : List Ch)) (inner := []) (ok := fun _ => True) (okp := fun _ => True) ?hr ?hp (fun _ hk => hk) trivial (Below.refl _ _) (Nat.le_refl _) (by simp) ?_
          case hd => rfl
          case hg => rfl
          case hr => first | (go_simp; done) | (go_simp; rfl)
          case hp => exact (Reps.none _ _)
          intro v29 W ho hb hg_ hnew_
          clear hg_ hnew_
          have n0_ := Aside0.mk (Kd.R_elder' O35.out (Kd.R_base ho) hb)
          have n1_ := Aside0.mk (Kd.R_lower (Kd.R_new' ho (Kd.R_lt O35.out)) D.out.size)
          clear O35
          have O35 := n0_
          clear n0_
          have nD := Aside0.mk (below_step D.out hb)
          clear D hb ho
          have D := nD
          have O29 := n1_
          clear nD n1_
          refine hK.out _ _ ((D.out.block gb (blk_lt BK.out)).trans BK.out) (fun hHeld => ?_)
          clear hK K
          refine norm_ (a' := ?_) ?_ ?_
          rotate_left
          · show Act.put _ (some 29) _ = _
            simp only [Act.put, List.setIfInBounds_toArray, List.set_cons_zero, List.set_cons_succ, i64_w, i32_w]
            rfl
          refine one_ (i := 4) (N := some 33) #[true, true, true, true, true, true, true, false, true, false, false] rfl rfl (one_of HT_.out (by kernel_rfl)) (by decide) (fun K hK => ?_)
          refine Kd.R_append_rows_step k104 (w0 := w3) w3.heap.size (by rfl) (.tmp 29) (.tmp 32) 34 104 (.agg #[(.int .i64 0), (.string ⟨#[]⟩), (.string ⟨#[]⟩), (.int .i64 0), (.int .i64 0), (.int .i64 0), (.int .i64 0), (.int .i64 0), (.int .i64 0), (.string ⟨#[]⟩), (.string ⟨#[]⟩), (.int .i64 0), (.int .i64 0), (.int .i64 0), (.int .i64 0), (.int .i64 0), (.int .i64 0), (.string ⟨#[]⟩)]) 184 rfl Tryz.underlying34 info104 rfl (by decide) (by omega) v29 [] y5 _ _ _ (fun k_ => some k_ ≠ v35.ownBlock) (fun _ => False) rfl rfl ?aO ?aR (fun _ _ h => h) (fun _ h => h.elim) ?aF ?aB ?aS ?aL ?_
          case aR => exact Kd.C_below R5.out (HB.out.trans (D.out.mono HB.out.size))
          case aB => exact D.out
          case aF => exact (Kd.fresh' (Kd.R_lt O35.out))
          case aO => exact Kd.R_mono O29.out (fun _ hk => hk.2)
          case aS => exact D.out.size
          case aL => have := L5.out; simp only [List.length_nil]; omega
          intro v33 W ho hb hg hat
          rw [List.nil_append] at ho
          have n0_ := Aside0.mk (Kd.R_after (ok := fun _ => True) (Kd.R_mono O35.out (fun _ hk => ⟨trivial, hk.2⟩)) hg hat)
          clear O35
          have O35 := n0_
          clear n0_
          clear D hg hat
          have D := Aside0.mk hb
          have O33 := Aside0.mk ho
          clear hb ho
          refine hK.out _ _ ((D.out.block gb (blk_lt BK.out)).trans BK.out) (fun hHeld => ?_)
          clear hK K
          refine norm_ (a' := ?_) ?_ ?_
          rotate_left
          · show Act.put _ (some 33) _ = _
            simp only [Act.put, List.setIfInBounds_toArray, List.set_cons_zero, List.set_cons_succ, i64_w, i32_w]
            rfl
          exact norm_ (by simp only [putAll, Act.put, List.setIfInBounds_toArray, List.set_cons_zero, List.set_cons_succ]) (hCont (v29, v33, v35) _ ⟨Kd.R_mono O33.out (fun _ hk => hk), Kd.R_mono O35.out (fun _ hk => hk.2), D.out⟩)
      case hcont =>
        rintro ⟨v29, v33, v35⟩ W ⟨h33, h35, hD⟩
        clear D
        have D := Aside0.mk hD
        have O33 := Aside0.mk h33
        have O35 := Aside0.mk h35
        clear h33 h35 hD hHeld
        have hHeld := (D.out.block gb (blk_lt BK.out)).trans BK.out
        obtain ⟨Ao, co, eo⟩ := Kd.R_slice O35.out
        subst eo
        refine norm_ (a' := ?_) ?_ ?_
        rotate_left
        · simp only [putAll, Act.put, List.setIfInBounds_toArray, List.set_cons_zero, List.set_cons_succ]
          rfl
        refine one_ (i := 7) (N := some 36) #[true, true, true, true, true, true, true, true, true, false, false] rfl rfl (one_of HT_.out (by kernel_rfl)) (by decide) (fun K hK => ?_)
        refine Kd.R_append_rows_step k104 (w0 := w3) w3.heap.size (by rfl) (.tmp 33) (.tmp 35) 34 104 (.agg #[(.int .i64 0), (.string ⟨#[]⟩), (.string ⟨#[]⟩), (.int .i64 0), (.int .i64 0), (.int .i64 0), (.int .i64 0), (.int .i64 0), (.int .i64 0), (.string ⟨#[]⟩), (.string ⟨#[]⟩), (.int .i64 0), (.int .i64 0), (.int .i64 0), (.int .i64 0), (.int .i64 0), (.int .i64 0), (.string ⟨#[]⟩)]) 184 rfl Tryz.underlying34 info104 rfl (by decide) (by omega) v33 y5 [c] _ _ _ (fun k_ => some k_ ≠ (Value.slice Ao [c].length co).ownBlock) (fun _ => False) rfl rfl ?aO ?aR (fun _ _ h => h) (fun _ h => h.elim) ?aF ?aB ?aS ?aL ?_
        case aR => exact (Kd.R_reads' O35.out).2.2
        case aB => exact D.out
        case aF => exact (Kd.fresh' (Kd.R_lt O35.out))
        case aO => exact O33.out
        case aS => exact D.out.size
        case aL => have := L5.out; simp only [List.length_singleton]; omega
        intro v36 W ho hb hg hat
        clear D hg hat O35 O33
        have D := Aside0.mk hb
        have O36 := Aside0.mk ho
        clear hb ho
        refine hK.out _ _ ((D.out.block gb (blk_lt BK.out)).trans BK.out) (fun hHeld => ?_)
        clear hK K
        refine norm_ (a' := ?_) ?_ ?_
        rotate_left
        · show Act.put _ (some 36) _ = _
          simp only [Act.put, List.setIfInBounds_toArray, List.set_cons_zero, List.set_cons_succ, i64_w, i32_w]
          rfl
        refine one_ (i := 9) (N := some 38) #[true, true, true, true, true, true, true, true, true, true, false] rfl rfl (one_of HT_.out (by kernel_rfl)) (by decide) (fun K hK => ?_)
        refine Kd.R_append_rows_step k104 (w0 := w3) w3.heap.size (by rfl) (.tmp 36) (.tmp 37) 34 104 (.agg #[(.int .i64 0), (.string ⟨#[]⟩), (.string ⟨#[]⟩), (.int .i64 0), (.int .i64 0), (.int .i64 0), (.int .i64 0), (.int .i64 0), (.int .i64 0), (.string ⟨#[]⟩), (.string ⟨#[]⟩), (.int .i64 0), (.int .i64 0), (.int .i64 0), (.int .i64 0), (.int .i64 0), (.int .i64 0), (.string ⟨#[]⟩)]) 184 rfl Tryz.underlying34 info104 rfl (by decide) (by omega) v36 (y5 ++ [c]) y4 _ _ _ (fun _ => True) (fun _ => False) rfl rfl ?aO ?aR (fun _ _ h => h) (fun _ h => h.elim) ?aF ?aB ?aS ?aL ?_
        case aR => exact (Kd.R_reads' (Kd.R_below O28.out D.out)).2.2
        case aB => exact D.out
        case aF => exact (fun _ _ => trivial)
        case aO => exact Kd.R_mono O36.out (fun _ _ => trivial)
        case aS => exact D.out.size
        case aL => have := L5.out; have := L4.out; simp only [List.length_append, List.length_singleton]; omega
        intro v38 W ho hb hg hat
        clear D hg hat O36
        have D := Aside0.mk hb
        have O38 := Aside0.mk ho
        clear hb ho
        refine hK.out _ _ ((D.out.block gb (blk_lt BK.out)).trans BK.out) (fun hHeld => ?_)
        clear hK K
        refine norm_ (a' := ?_) ?_ ?_
        rotate_left
        · show Act.put _ (some 38) _ = _
          simp only [Act.put, List.setIfInBounds_toArray, List.set_cons_zero, List.set_cons_succ, i64_w, i32_w]
          rfl
        refine pure_ (i := 10) (N := some 4) (v := ?_) (a' := ?_) #[true, true, true, true, true, true, true, true, true, true, true] rfl rfl (any_of HT_.out (by kernel_rfl)) (fun _ _ _ h => h) (Or.inl ⟨by rfl, ?_⟩) ?_ ?_
        rotate_left
        · intro w'
          go_simp
          with_reducible rfl
        rotate_left
        · simp only [Act.put, List.setIfInBounds_toArray, List.set_cons_zero, List.set_cons_succ, i64_w, i32_w]
          rfl
        refine done_ (done_of HT_.out (by kernel_rfl)) ?_
        try go_wp2
        go_ret
        exact ⟨_, rfl, by rw [← HPUT2.out]; exact Kd.R_lower O38.out HB.out.size, HB.out.trans (D.out.mono HB.out.size)⟩
def spec_l18Put.f (l0 : List Ch) (a1_0 : Int) (a1_1 : ByteArray) (a1_2 : ByteArray) (a1_3 : Int) (a1_4 : Int) (a1_5 : Int) (a1_6 : Int) (a1_7 : Int) (a1_8 : Int) (a1_9 : ByteArray) (a1_10 : ByteArray) (a1_11 : Int) (a1_12 : Int) (a1_13 : Int) (a1_14 : Int) (a1_15 : Int) (a1_16 : Int) (a1_17 : ByteArray) : Option (List Ch) :=
  if l0.length ≤ 1000 then some (putL l0 ⟨a1_0, a1_1, ⟨a1_2, a1_3, a1_4, a1_5, a1_6, a1_7, a1_8, a1_9⟩, ⟨a1_10, a1_11, a1_12, a1_13, a1_14, a1_15, a1_16, a1_17⟩⟩) else none
theorem spec_l18Put.calls (A0 : Option Addr) (c0 : Nat) (l0 : List Ch) (a1_0 : Int) (a1_1 : ByteArray) (a1_2 : ByteArray) (a1_3 : Int) (a1_4 : Int) (a1_5 : Int) (a1_6 : Int) (a1_7 : Int) (a1_8 : Int) (a1_9 : ByteArray) (a1_10 : ByteArray) (a1_11 : Int) (a1_12 : Int) (a1_13 : Int) (a1_14 : Int) (a1_15 : Int) (a1_16 : Int) (a1_17 : ByteArray) (r : List Ch) (w : World) (hr0 : Kd.C k104 w A0 l0.length l0) (hc0 : l0.length ≤ c0) (h : spec_l18Put.f l0 a1_0 a1_1 a1_2 a1_3 a1_4 a1_5 a1_6 a1_7 a1_8 a1_9 a1_10 a1_11 a1_12 a1_13 a1_14 a1_15 a1_16 a1_17 = some r) :
    Calls Tryz.prog 77 #[.slice A0 l0.length c0, .agg #[.int .i64 a1_0, .string a1_1, .string a1_2, .int .i64 a1_3, .int .i64 a1_4, .int .i64 a1_5, .int .i64 a1_6, .int .i64 a1_7, .int .i64 a1_8, .string a1_9, .string a1_10, .int .i64 a1_11, .int .i64 a1_12, .int .i64 a1_13, .int .i64 a1_14, .int .i64 a1_15, .int .i64 a1_16, .string a1_17]] w fun e w' => ∃ v0_ : Value, e = .returned (v0_) ∧ Kd.R k104 104 w' w.heap.size (fun _ => True) v0_ r ∧ Below w.heap.size w w' := by
  unfold spec_l18Put.f at h
  split at h
  · rename_i hl
    rw [← Option.some.inj h]
    exact put18_walk A0 c0 l0 ⟨a1_0, a1_1, ⟨a1_2, a1_3, a1_4, a1_5, a1_6, a1_7, a1_8, a1_9⟩, ⟨a1_10, a1_11, a1_12, a1_13, a1_14, a1_15, a1_16, a1_17⟩⟩ _ rfl w hr0 hc0 hl
  · cases h

end Go.Proofs.YthhmkbchdiflcaaGreatDoor.Q
