/- Texts of this claim, merged by a program (wip/tools/merge.py): HGoodItem. -/
import Derived.Test.YtibfocaldcjiiaaDoorA1
import Derived.Test.YtibfocaldcjiiaaDoorA3
import Derived.Test.YtibfocaldcjiiaaDoorA9
/- impl.isGoodItem: whether an item is right behind those ahead of it. -/
namespace Go.Proofs.YtibfocaldcjiiaaDoor.Q
open Go.RowKit Go.Proofs.YtibfocaldcjiiaaDoorW.PrintWords Go.Proofs.YtibfocaldcjiiaaDoorW.PrintLast Go.Proofs.YtibfocaldcjiiaaDoorW.PrintMore
attribute [local go_sem] max2_int min2_int max_two min_two max_three min_three max_four min_four   -- for this text's walks alone
set_option linter.unusedVariables false
set_option linter.unusedSimpArgs false

abbrev It := S50
/-- The i-th item, of no items a bare one. -/
def itAt (l : List It) (i : Nat) : It := rd_T50 l (i : Int)
def zerosB (x : It) : Bool := x.f2 == 0 && (x.f3 == 0 && (x.f4 == 0 && (x.f5 == 0 && nilB x.f7)))
def goodItemB (l : List It) (i : Nat) : Bool :=
  if (itAt l i).f6 = i then inB 1 3 (itAt l i).f1 && bareB (itAt l i).f1 (itAt l i).f2 (itAt l i).f3 (itAt l i).f4 (itAt l i).f5 (itAt l i).f7
  else inB 0 ((i : Int) - 1) (itAt l i).f6 && (zerosB (itAt l i) &&
    ((itAt l (itAt l i).f6.toNat).f1 == (itAt l i).f1 && ((itAt l (itAt l i).f6.toNat).f1 != 2 && (itAt l (itAt l i).f6.toNat).f6 == (itAt l i).f6)))
def impl_isGoodItem.f (l : List It) (i : Int) : Option Bool := if 0 ≤ i ∧ i < l.length ∧ l.length ≤ 1000 then some (goodItemB l i.toNat) else none
theorem itemEq (d : Nat) (w : World) (x0 y0 : ByteArray) (x1 y1 : Int) (x2 y2 : Int) (x3 y3 : Int) (x4 y4 : Int) (x5 y5 : Int) (x6 y6 : Int) (x7 y7 : ByteArray) :
    (Op.equalIn (d + 2) 50 (.agg #[.string x0, .int .i64 x1, .int .i64 x2, .int .i64 x3, .int .i64 x4, .int .i64 x5, .int .i64 x6, .string x7]) (.agg #[.string y0, .int .i64 y1, .int .i64 y2, .int .i64 y3, .int .i64 y4, .int .i64 y5, .int .i64 y6, .string y7])).run Tryd.prog w = .ok (x0.toList == y0.toList && (x1 == y1 && (x2 == y2 && (x3 == y3 && (x4 == y4 && (x5 == y5 && (x6 == y6 && (x7.toList == y7.toList)))))))) w := by
  refine eqA_of Tryd.underlying50 (by kernel_rfl) ?_
  refine eqf_cons (by rfl) (by go_simp; rfl) (by go_simp; rfl) (by go_simp) ?_
  refine eqf_cons (by rfl) (by go_simp; rfl) (by go_simp; rfl) (by go_simp) ?_
  refine eqf_cons (by rfl) (by go_simp; rfl) (by go_simp; rfl) (by go_simp) ?_
  refine eqf_cons (by rfl) (by go_simp; rfl) (by go_simp; rfl) (by go_simp) ?_
  refine eqf_cons (by rfl) (by go_simp; rfl) (by go_simp; rfl) (by go_simp) ?_
  refine eqf_cons (by rfl) (by go_simp; rfl) (by go_simp; rfl) (by go_simp) ?_
  refine eqf_cons (by rfl) (by go_simp; rfl) (by go_simp; rfl) (by go_simp) ?_
  exact eqf_last (by rfl) (by go_simp; rfl) (by go_simp; rfl) (by go_simp)
attribute [local go_sem high] itemEq
/-- The eight cells of an item. -/
structure Cells (w : World) (a : Addr) (x : It) : Prop where
  h0 : w.cell? a = some (.string x.f0)
  h1 : w.cell? ⟨a.block, a.off + 1, none⟩ = some (.int .i64 x.f1)
  h2 : w.cell? ⟨a.block, a.off + 2, none⟩ = some (.int .i64 x.f2)
  h3 : w.cell? ⟨a.block, a.off + 3, none⟩ = some (.int .i64 x.f3)
  h4 : w.cell? ⟨a.block, a.off + 4, none⟩ = some (.int .i64 x.f4)
  h5 : w.cell? ⟨a.block, a.off + 5, none⟩ = some (.int .i64 x.f5)
  h6 : w.cell? ⟨a.block, a.off + 6, none⟩ = some (.int .i64 x.f6)
  h7 : w.cell? ⟨a.block, a.off + 7, none⟩ = some (.string x.f7)
set_option maxHeartbeats 4000000 in
set_option maxRecDepth 100000 in
theorem isGood_own (w : World) (ad : Addr) (i j c0 n : Nat) (hi : i < n) (x y : It) (r : Bool)
    (cx : Cells w (ad.add (i * 8)) x) (hs : x.f6 = (i : Int)) (hr : r = (inB 1 3 x.f1 && bareB x.f1 x.f2 x.f3 x.f4 x.f5 x.f7)) :
    Calls Tryd.prog 33 #[.slice (some ad) n c0, .int .i64 (i : Int)] w fun e w' => e = .returned (.bool r) ∧ Below w.heap.size w w' := by
  have hu1 := Tryd.underlying50
  have hu2 := Tryd.underlying25
  have HI := Aside0.mk (fun W => impl_isItem.calls x.f0 x.f1 x.f2 x.f3 x.f4 x.f5 x.f6 x.f7 r W (by rw [hr]; rfl))
  obtain ⟨x0, x1, x2, x3, x4, x5, x6, x7⟩ := x
  obtain ⟨hx0, hx1, hx2, hx3, hx4, hx5, hx6, hx7⟩ := cx
  simp only at hx0 hx1 hx2 hx3 hx4 hx5 hx6 hx7
  have p1 : ((0 : Int) ≤ (i : Int)) = True := eq_true (by omega)
  have p2 : ((i : Int) < (n : Int)) = True := eq_true (by omega)
  simp only at hs HI
  subst hs
  clear hr hi
  go_enter Tryd.func33, Tryd.ntmps33
  go_wp2_with fail
  refine (HI.out _).mono ?_; rintro e w1 ⟨rfl, hd⟩
  go_wp2
  go_ret
  exact ⟨by first | rfl | (simp; done) | (simp [*]; done), below_step (by repeat (first | exact Below.refl _ _ | apply below_alloc | apply pw_below_drewN | apply below_drew1)) hd⟩
set_option maxHeartbeats 4000000 in
set_option maxRecDepth 100000 in
theorem isGood_out (w : World) (ad : Addr) (i j c0 n : Nat) (hi : i < n) (x y : It) 
    (cx : Cells w (ad.add (i * 8)) x) (hn : n ≤ 1000) (hs : x.f6 ≠ (i : Int)) (hw : inB 0 ((i : Int) - 1) x.f6 = false) :
    Calls Tryd.prog 33 #[.slice (some ad) n c0, .int .i64 (i : Int)] w fun e w' => e = .returned (.bool false) ∧ Below w.heap.size w w' := by
  have hu1 := Tryd.underlying50
  have hu2 := Tryd.underlying25
  have HW := Aside0.mk (fun W => impl_within.calls x.f6 0 ((i : Int) - 1) _ W (within_f x.f6 0 ((i : Int) - 1)))
  rw [hw] at HW
  have hwr : wrap64 ((i : Int) - 1) = (i : Int) - 1 := by unfold wrap64; omega

  obtain ⟨x0, x1, x2, x3, x4, x5, x6, x7⟩ := x
  obtain ⟨hx0, hx1, hx2, hx3, hx4, hx5, hx6, hx7⟩ := cx
  simp only at hx0 hx1 hx2 hx3 hx4 hx5 hx6 hx7
  have p1 : ((0 : Int) ≤ (i : Int)) = True := eq_true (by omega)
  have p2 : ((i : Int) < (n : Int)) = True := eq_true (by omega)
  simp only at hs HW
  have hs1 : (x6 == (i : Int)) = false := beq_eq_false_iff_ne.mpr hs
  clear hi hn hw
  go_enter Tryd.func33, Tryd.ntmps33
  go_wp2_with fail
  refine (HW.out _).mono ?_; rintro e w1 ⟨rfl, ⟨n1, rfl⟩⟩
  go_wp2
  go_ret
  exact ⟨by first | rfl | (simp; done) | (simp [*]; done), by repeat (first | exact Below.refl _ _ | apply below_alloc | apply pw_below_drewN | apply below_drew1)⟩
set_option maxHeartbeats 4000000 in
set_option maxRecDepth 100000 in
theorem isGood_nz (w : World) (ad : Addr) (i j c0 n : Nat) (hi : i < n) (x y : It) 
    (cx : Cells w (ad.add (i * 8)) x) (hn : n ≤ 1000) (hs : x.f6 ≠ (i : Int)) (hw : inB 0 ((i : Int) - 1) x.f6 = true) (hz : zerosB x = false) :
    Calls Tryd.prog 33 #[.slice (some ad) n c0, .int .i64 (i : Int)] w fun e w' => e = .returned (.bool false) ∧ Below w.heap.size w w' := by
  have hu1 := Tryd.underlying50
  have hu2 := Tryd.underlying25
  have HW := Aside0.mk (fun W => impl_within.calls x.f6 0 ((i : Int) - 1) _ W (within_f x.f6 0 ((i : Int) - 1)))
  rw [hw] at HW
  have hwr : wrap64 ((i : Int) - 1) = (i : Int) - 1 := by unfold wrap64; omega
  have hz1 : (!(x.f2 == 0) || (!(x.f3 == 0) || (!(x.f4 == 0) || (!(x.f5 == 0) || !x.f7.toList.isEmpty)))) = true := by
    rw [show (!(x.f2 == 0) || (!(x.f3 == 0) || (!(x.f4 == 0) || (!(x.f5 == 0) || !x.f7.toList.isEmpty)))) = !zerosB x by unfold zerosB; rw [← nilB_eq, show (x.f7.toList == []) = x.f7.toList.isEmpty by cases x.f7.toList <;> rfl]; simp only [Bool.not_and], hz]; rfl

  obtain ⟨x0, x1, x2, x3, x4, x5, x6, x7⟩ := x
  obtain ⟨hx0, hx1, hx2, hx3, hx4, hx5, hx6, hx7⟩ := cx
  simp only at hx0 hx1 hx2 hx3 hx4 hx5 hx6 hx7
  have p1 : ((0 : Int) ≤ (i : Int)) = True := eq_true (by omega)
  have p2 : ((i : Int) < (n : Int)) = True := eq_true (by omega)
  simp only at hs HW hz1
  have hs1 : (x6 == (i : Int)) = false := beq_eq_false_iff_ne.mpr hs
  clear hi hn hw hz
  go_enter Tryd.func33, Tryd.ntmps33
  go_wp2_with fail
  refine (HW.out _).mono ?_; rintro e w1 ⟨rfl, ⟨n1, rfl⟩⟩
  go_wp2
  go_ret
  exact ⟨by first | rfl | (simp; done) | (simp [*]; done), by repeat (first | exact Below.refl _ _ | apply below_alloc | apply pw_below_drewN | apply below_drew1)⟩
set_option maxHeartbeats 4000000 in
set_option maxRecDepth 100000 in
theorem isGood_k (w : World) (ad : Addr) (i j c0 n : Nat) (hi : i < n) (x y : It) 
    (cx : Cells w (ad.add (i * 8)) x) (cy : Cells w (ad.add (j * 8)) y) (hj : j < n) (hn : n ≤ 1000) (hs : x.f6 ≠ (i : Int)) (hw : inB 0 ((i : Int) - 1) x.f6 = true) (hz : zerosB x = true) (hxj : x.f6 = j) (hk : (y.f1 == x.f1) = false) :
    Calls Tryd.prog 33 #[.slice (some ad) n c0, .int .i64 (i : Int)] w fun e w' => e = .returned (.bool false) ∧ Below w.heap.size w w' := by
  have hu1 := Tryd.underlying50
  have hu2 := Tryd.underlying25
  have HW := Aside0.mk (fun W => impl_within.calls x.f6 0 ((i : Int) - 1) _ W (within_f x.f6 0 ((i : Int) - 1)))
  rw [hw] at HW
  have hwr : wrap64 ((i : Int) - 1) = (i : Int) - 1 := by unfold wrap64; omega
  have hz1 : x.f2 = 0 ∧ x.f3 = 0 ∧ x.f4 = 0 ∧ x.f5 = 0 ∧ x.f7.toList = [] := by
    unfold zerosB at hz; rw [← nilB_eq] at hz; simpa using hz

  obtain ⟨x0, x1, x2, x3, x4, x5, x6, x7⟩ := x
  obtain ⟨hx0, hx1, hx2, hx3, hx4, hx5, hx6, hx7⟩ := cx
  simp only at hx0 hx1 hx2 hx3 hx4 hx5 hx6 hx7
  obtain ⟨y0, y1, y2, y3, y4, y5, y6, y7⟩ := y
  obtain ⟨hy0, hy1, hy2, hy3, hy4, hy5, hy6, hy7⟩ := cy
  simp only at hy0 hy1 hy2 hy3 hy4 hy5 hy6 hy7
  have hlb : (ad.add (j * 8)).block < w.heap.size := World.block_lt_of_cell? _ _ hy0
  have hz0_ : ∀ o, (w.alloc o).cell? (ad.add (j * 8)) = some (.string y0) := fun o => (Below.cell (B := w.heap.size) (w := w) (p := (ad.add (j * 8))) (by apply below_alloc; exact Below.refl _ _) hlb).trans hy0
  have hz1_ : ∀ o, (w.alloc o).cell? ⟨(ad.add (j * 8)).block, (ad.add (j * 8)).off + 1, none⟩ = some (.int .i64 y1) := fun o => (Below.cell (B := w.heap.size) (w := w) (p := ⟨(ad.add (j * 8)).block, (ad.add (j * 8)).off + 1, none⟩) (by apply below_alloc; exact Below.refl _ _) hlb).trans hy1
  have hz2_ : ∀ o, (w.alloc o).cell? ⟨(ad.add (j * 8)).block, (ad.add (j * 8)).off + 2, none⟩ = some (.int .i64 y2) := fun o => (Below.cell (B := w.heap.size) (w := w) (p := ⟨(ad.add (j * 8)).block, (ad.add (j * 8)).off + 2, none⟩) (by apply below_alloc; exact Below.refl _ _) hlb).trans hy2
  have hz3_ : ∀ o, (w.alloc o).cell? ⟨(ad.add (j * 8)).block, (ad.add (j * 8)).off + 3, none⟩ = some (.int .i64 y3) := fun o => (Below.cell (B := w.heap.size) (w := w) (p := ⟨(ad.add (j * 8)).block, (ad.add (j * 8)).off + 3, none⟩) (by apply below_alloc; exact Below.refl _ _) hlb).trans hy3
  have hz4_ : ∀ o, (w.alloc o).cell? ⟨(ad.add (j * 8)).block, (ad.add (j * 8)).off + 4, none⟩ = some (.int .i64 y4) := fun o => (Below.cell (B := w.heap.size) (w := w) (p := ⟨(ad.add (j * 8)).block, (ad.add (j * 8)).off + 4, none⟩) (by apply below_alloc; exact Below.refl _ _) hlb).trans hy4
  have hz5_ : ∀ o, (w.alloc o).cell? ⟨(ad.add (j * 8)).block, (ad.add (j * 8)).off + 5, none⟩ = some (.int .i64 y5) := fun o => (Below.cell (B := w.heap.size) (w := w) (p := ⟨(ad.add (j * 8)).block, (ad.add (j * 8)).off + 5, none⟩) (by apply below_alloc; exact Below.refl _ _) hlb).trans hy5
  have hz6_ : ∀ o, (w.alloc o).cell? ⟨(ad.add (j * 8)).block, (ad.add (j * 8)).off + 6, none⟩ = some (.int .i64 y6) := fun o => (Below.cell (B := w.heap.size) (w := w) (p := ⟨(ad.add (j * 8)).block, (ad.add (j * 8)).off + 6, none⟩) (by apply below_alloc; exact Below.refl _ _) hlb).trans hy6
  have hz7_ : ∀ o, (w.alloc o).cell? ⟨(ad.add (j * 8)).block, (ad.add (j * 8)).off + 7, none⟩ = some (.string y7) := fun o => (Below.cell (B := w.heap.size) (w := w) (p := ⟨(ad.add (j * 8)).block, (ad.add (j * 8)).off + 7, none⟩) (by apply below_alloc; exact Below.refl _ _) hlb).trans hy7
  have q1 : ((0 : Int) ≤ (j : Int)) = True := eq_true (by omega)
  have q2 : ((j : Int) < (n : Int)) = True := eq_true (by omega)
  have p1 : ((0 : Int) ≤ (i : Int)) = True := eq_true (by omega)
  have p2 : ((i : Int) < (n : Int)) = True := eq_true (by omega)
  simp only at hs HW hz1 hxj
  subst hxj
  obtain ⟨rfl, rfl, rfl, rfl, hz0⟩ := hz1
  have hz2 : x7.toList.isEmpty = true := by rw [hz0]; rfl
  clear hz0
  have hs1 : ((j : Int) == (i : Int)) = false := beq_eq_false_iff_ne.mpr hs
  clear hi hn hw hz hj
  simp only at hk
  go_enter Tryd.func33, Tryd.ntmps33
  go_wp2_with fail
  refine (HW.out _).mono ?_; rintro e w1 ⟨rfl, ⟨n1, rfl⟩⟩
  go_wp2
  go_ret
  exact ⟨by first | rfl | (simp; done) | (simp [*]; done), by repeat (first | exact Below.refl _ _ | apply below_alloc | apply pw_below_drewN | apply below_drew1)⟩
set_option maxHeartbeats 4000000 in
set_option maxRecDepth 100000 in
theorem isGood_d (w : World) (ad : Addr) (i j c0 n : Nat) (hi : i < n) (x y : It) 
    (cx : Cells w (ad.add (i * 8)) x) (cy : Cells w (ad.add (j * 8)) y) (hj : j < n) (hn : n ≤ 1000) (hs : x.f6 ≠ (i : Int)) (hw : inB 0 ((i : Int) - 1) x.f6 = true) (hz : zerosB x = true) (hxj : x.f6 = j) (hk : y.f1 = x.f1) (hd : y.f1 = 2) :
    Calls Tryd.prog 33 #[.slice (some ad) n c0, .int .i64 (i : Int)] w fun e w' => e = .returned (.bool false) ∧ Below w.heap.size w w' := by
  have hu1 := Tryd.underlying50
  have hu2 := Tryd.underlying25
  have HW := Aside0.mk (fun W => impl_within.calls x.f6 0 ((i : Int) - 1) _ W (within_f x.f6 0 ((i : Int) - 1)))
  rw [hw] at HW
  have hwr : wrap64 ((i : Int) - 1) = (i : Int) - 1 := by unfold wrap64; omega
  have hz1 : x.f2 = 0 ∧ x.f3 = 0 ∧ x.f4 = 0 ∧ x.f5 = 0 ∧ x.f7.toList = [] := by
    unfold zerosB at hz; rw [← nilB_eq] at hz; simpa using hz

  obtain ⟨x0, x1, x2, x3, x4, x5, x6, x7⟩ := x
  obtain ⟨hx0, hx1, hx2, hx3, hx4, hx5, hx6, hx7⟩ := cx
  simp only at hx0 hx1 hx2 hx3 hx4 hx5 hx6 hx7
  obtain ⟨y0, y1, y2, y3, y4, y5, y6, y7⟩ := y
  obtain ⟨hy0, hy1, hy2, hy3, hy4, hy5, hy6, hy7⟩ := cy
  simp only at hy0 hy1 hy2 hy3 hy4 hy5 hy6 hy7
  have hlb : (ad.add (j * 8)).block < w.heap.size := World.block_lt_of_cell? _ _ hy0
  have hz0_ : ∀ o, (w.alloc o).cell? (ad.add (j * 8)) = some (.string y0) := fun o => (Below.cell (B := w.heap.size) (w := w) (p := (ad.add (j * 8))) (by apply below_alloc; exact Below.refl _ _) hlb).trans hy0
  have hz1_ : ∀ o, (w.alloc o).cell? ⟨(ad.add (j * 8)).block, (ad.add (j * 8)).off + 1, none⟩ = some (.int .i64 y1) := fun o => (Below.cell (B := w.heap.size) (w := w) (p := ⟨(ad.add (j * 8)).block, (ad.add (j * 8)).off + 1, none⟩) (by apply below_alloc; exact Below.refl _ _) hlb).trans hy1
  have hz2_ : ∀ o, (w.alloc o).cell? ⟨(ad.add (j * 8)).block, (ad.add (j * 8)).off + 2, none⟩ = some (.int .i64 y2) := fun o => (Below.cell (B := w.heap.size) (w := w) (p := ⟨(ad.add (j * 8)).block, (ad.add (j * 8)).off + 2, none⟩) (by apply below_alloc; exact Below.refl _ _) hlb).trans hy2
  have hz3_ : ∀ o, (w.alloc o).cell? ⟨(ad.add (j * 8)).block, (ad.add (j * 8)).off + 3, none⟩ = some (.int .i64 y3) := fun o => (Below.cell (B := w.heap.size) (w := w) (p := ⟨(ad.add (j * 8)).block, (ad.add (j * 8)).off + 3, none⟩) (by apply below_alloc; exact Below.refl _ _) hlb).trans hy3
  have hz4_ : ∀ o, (w.alloc o).cell? ⟨(ad.add (j * 8)).block, (ad.add (j * 8)).off + 4, none⟩ = some (.int .i64 y4) := fun o => (Below.cell (B := w.heap.size) (w := w) (p := ⟨(ad.add (j * 8)).block, (ad.add (j * 8)).off + 4, none⟩) (by apply below_alloc; exact Below.refl _ _) hlb).trans hy4
  have hz5_ : ∀ o, (w.alloc o).cell? ⟨(ad.add (j * 8)).block, (ad.add (j * 8)).off + 5, none⟩ = some (.int .i64 y5) := fun o => (Below.cell (B := w.heap.size) (w := w) (p := ⟨(ad.add (j * 8)).block, (ad.add (j * 8)).off + 5, none⟩) (by apply below_alloc; exact Below.refl _ _) hlb).trans hy5
  have hz6_ : ∀ o, (w.alloc o).cell? ⟨(ad.add (j * 8)).block, (ad.add (j * 8)).off + 6, none⟩ = some (.int .i64 y6) := fun o => (Below.cell (B := w.heap.size) (w := w) (p := ⟨(ad.add (j * 8)).block, (ad.add (j * 8)).off + 6, none⟩) (by apply below_alloc; exact Below.refl _ _) hlb).trans hy6
  have hz7_ : ∀ o, (w.alloc o).cell? ⟨(ad.add (j * 8)).block, (ad.add (j * 8)).off + 7, none⟩ = some (.string y7) := fun o => (Below.cell (B := w.heap.size) (w := w) (p := ⟨(ad.add (j * 8)).block, (ad.add (j * 8)).off + 7, none⟩) (by apply below_alloc; exact Below.refl _ _) hlb).trans hy7
  have q1 : ((0 : Int) ≤ (j : Int)) = True := eq_true (by omega)
  have q2 : ((j : Int) < (n : Int)) = True := eq_true (by omega)
  have p1 : ((0 : Int) ≤ (i : Int)) = True := eq_true (by omega)
  have p2 : ((i : Int) < (n : Int)) = True := eq_true (by omega)
  simp only at hs HW hz1 hxj
  subst hxj
  obtain ⟨rfl, rfl, rfl, rfl, hz0⟩ := hz1
  have hz2 : x7.toList.isEmpty = true := by rw [hz0]; rfl
  clear hz0
  have hs1 : ((j : Int) == (i : Int)) = false := beq_eq_false_iff_ne.mpr hs
  clear hi hn hw hz hj
  simp only at hk hd
  subst hk
  subst hd
  go_enter Tryd.func33, Tryd.ntmps33
  go_wp2_with fail
  refine (HW.out _).mono ?_; rintro e w1 ⟨rfl, ⟨n1, rfl⟩⟩
  go_wp2
  go_ret
  exact ⟨by first | rfl | (simp; done) | (simp [*]; done), by repeat (first | exact Below.refl _ _ | apply below_alloc | apply pw_below_drewN | apply below_drew1)⟩
set_option maxHeartbeats 4000000 in
set_option maxRecDepth 100000 in
theorem isGood_s (w : World) (ad : Addr) (i j c0 n : Nat) (hi : i < n) (x y : It) 
    (cx : Cells w (ad.add (i * 8)) x) (cy : Cells w (ad.add (j * 8)) y) (hj : j < n) (hn : n ≤ 1000) (hs : x.f6 ≠ (i : Int)) (hw : inB 0 ((i : Int) - 1) x.f6 = true) (hz : zerosB x = true) (hxj : x.f6 = j) (hk : y.f1 = x.f1) (hd : ¬ y.f1 = 2) :
    Calls Tryd.prog 33 #[.slice (some ad) n c0, .int .i64 (i : Int)] w fun e w' => e = .returned (.bool (y.f6 == x.f6)) ∧ Below w.heap.size w w' := by
  have hu1 := Tryd.underlying50
  have hu2 := Tryd.underlying25
  have HW := Aside0.mk (fun W => impl_within.calls x.f6 0 ((i : Int) - 1) _ W (within_f x.f6 0 ((i : Int) - 1)))
  rw [hw] at HW
  have hwr : wrap64 ((i : Int) - 1) = (i : Int) - 1 := by unfold wrap64; omega
  have hz1 : x.f2 = 0 ∧ x.f3 = 0 ∧ x.f4 = 0 ∧ x.f5 = 0 ∧ x.f7.toList = [] := by
    unfold zerosB at hz; rw [← nilB_eq] at hz; simpa using hz

  obtain ⟨x0, x1, x2, x3, x4, x5, x6, x7⟩ := x
  obtain ⟨hx0, hx1, hx2, hx3, hx4, hx5, hx6, hx7⟩ := cx
  simp only at hx0 hx1 hx2 hx3 hx4 hx5 hx6 hx7
  obtain ⟨y0, y1, y2, y3, y4, y5, y6, y7⟩ := y
  obtain ⟨hy0, hy1, hy2, hy3, hy4, hy5, hy6, hy7⟩ := cy
  simp only at hy0 hy1 hy2 hy3 hy4 hy5 hy6 hy7
  have hlb : (ad.add (j * 8)).block < w.heap.size := World.block_lt_of_cell? _ _ hy0
  have hz0_ : ∀ o, (w.alloc o).cell? (ad.add (j * 8)) = some (.string y0) := fun o => (Below.cell (B := w.heap.size) (w := w) (p := (ad.add (j * 8))) (by apply below_alloc; exact Below.refl _ _) hlb).trans hy0
  have hz1_ : ∀ o, (w.alloc o).cell? ⟨(ad.add (j * 8)).block, (ad.add (j * 8)).off + 1, none⟩ = some (.int .i64 y1) := fun o => (Below.cell (B := w.heap.size) (w := w) (p := ⟨(ad.add (j * 8)).block, (ad.add (j * 8)).off + 1, none⟩) (by apply below_alloc; exact Below.refl _ _) hlb).trans hy1
  have hz2_ : ∀ o, (w.alloc o).cell? ⟨(ad.add (j * 8)).block, (ad.add (j * 8)).off + 2, none⟩ = some (.int .i64 y2) := fun o => (Below.cell (B := w.heap.size) (w := w) (p := ⟨(ad.add (j * 8)).block, (ad.add (j * 8)).off + 2, none⟩) (by apply below_alloc; exact Below.refl _ _) hlb).trans hy2
  have hz3_ : ∀ o, (w.alloc o).cell? ⟨(ad.add (j * 8)).block, (ad.add (j * 8)).off + 3, none⟩ = some (.int .i64 y3) := fun o => (Below.cell (B := w.heap.size) (w := w) (p := ⟨(ad.add (j * 8)).block, (ad.add (j * 8)).off + 3, none⟩) (by apply below_alloc; exact Below.refl _ _) hlb).trans hy3
  have hz4_ : ∀ o, (w.alloc o).cell? ⟨(ad.add (j * 8)).block, (ad.add (j * 8)).off + 4, none⟩ = some (.int .i64 y4) := fun o => (Below.cell (B := w.heap.size) (w := w) (p := ⟨(ad.add (j * 8)).block, (ad.add (j * 8)).off + 4, none⟩) (by apply below_alloc; exact Below.refl _ _) hlb).trans hy4
  have hz5_ : ∀ o, (w.alloc o).cell? ⟨(ad.add (j * 8)).block, (ad.add (j * 8)).off + 5, none⟩ = some (.int .i64 y5) := fun o => (Below.cell (B := w.heap.size) (w := w) (p := ⟨(ad.add (j * 8)).block, (ad.add (j * 8)).off + 5, none⟩) (by apply below_alloc; exact Below.refl _ _) hlb).trans hy5
  have hz6_ : ∀ o, (w.alloc o).cell? ⟨(ad.add (j * 8)).block, (ad.add (j * 8)).off + 6, none⟩ = some (.int .i64 y6) := fun o => (Below.cell (B := w.heap.size) (w := w) (p := ⟨(ad.add (j * 8)).block, (ad.add (j * 8)).off + 6, none⟩) (by apply below_alloc; exact Below.refl _ _) hlb).trans hy6
  have hz7_ : ∀ o, (w.alloc o).cell? ⟨(ad.add (j * 8)).block, (ad.add (j * 8)).off + 7, none⟩ = some (.string y7) := fun o => (Below.cell (B := w.heap.size) (w := w) (p := ⟨(ad.add (j * 8)).block, (ad.add (j * 8)).off + 7, none⟩) (by apply below_alloc; exact Below.refl _ _) hlb).trans hy7
  have q1 : ((0 : Int) ≤ (j : Int)) = True := eq_true (by omega)
  have q2 : ((j : Int) < (n : Int)) = True := eq_true (by omega)
  have p1 : ((0 : Int) ≤ (i : Int)) = True := eq_true (by omega)
  have p2 : ((i : Int) < (n : Int)) = True := eq_true (by omega)
  simp only at hs HW hz1 hxj
  subst hxj
  obtain ⟨rfl, rfl, rfl, rfl, hz0⟩ := hz1
  have hz2 : x7.toList.isEmpty = true := by rw [hz0]; rfl
  clear hz0
  have hs1 : ((j : Int) == (i : Int)) = false := beq_eq_false_iff_ne.mpr hs
  clear hi hn hw hz hj
  simp only at hk hd
  subst hk
  go_enter Tryd.func33, Tryd.ntmps33
  go_wp2_with fail
  refine (HW.out _).mono ?_; rintro e w1 ⟨rfl, ⟨n1, rfl⟩⟩
  go_wp2
  go_ret
  exact ⟨by first | rfl | (simp; done) | (simp [*]; done), by repeat (first | exact Below.refl _ _ | apply below_alloc | apply pw_below_drewN | apply below_drew1)⟩
theorem cells_at {w : World} {A : Option Addr} {n : Nat} {l : List It} (h : Kd.C k50 w A n l) (i : Nat) (h1 : i < n) : ∃ ad, A = some ad ∧ Cells w (ad.add (i * 8)) (itAt l i) := by
  obtain ⟨ad, e, a0, a1, a2, a3, a4, a5, a6, a7⟩ := at_T50 h (i : Int) (by omega) (by omega)
  exact ⟨ad, e, ⟨a0, a1, a2, a3, a4, a5, a6, a7⟩⟩
theorem impl_isGoodItem.calls (A0 : Option Addr) (c0 : Nat) (l0 : List It) (a1 : Int) (r : Bool) (w : World) (hr0 : Kd.C k50 w A0 l0.length l0) (hc0 : l0.length ≤ c0) (h : impl_isGoodItem.f l0 a1 = some r) :
    Calls Tryd.prog 33 #[.slice A0 l0.length c0, .int .i64 a1] w fun e w' => e = .returned (.bool r) ∧ Below w.heap.size w w' := by
  unfold impl_isGoodItem.f at h
  split at h
  case isFalse => exact absurd h (by simp)
  rename_i hg
  obtain ⟨g1, g2, g3⟩ := hg
  injection h with h
  subst h
  obtain ⟨i, rfl⟩ : ∃ i : Nat, a1 = i := ⟨a1.toNat, by omega⟩
  rw [Int.toNat_natCast]
  have hi : i < l0.length := by omega
  obtain ⟨ad, rfl, cx⟩ := cells_at hr0 i hi
  unfold goodItemB
  by_cases h6 : (itAt l0 i).f6 = (i : Int)
  · rw [if_pos h6]
    exact isGood_own w ad i 0 c0 _ hi _ (itAt l0 i) _ cx h6 rfl
  · rw [if_neg h6]
    by_cases hw : inB 0 ((i : Int) - 1) (itAt l0 i).f6 = true
    · rw [hw, Bool.true_and]
      by_cases hz : zerosB (itAt l0 i) = true
      · rw [hz, Bool.true_and]
        obtain ⟨j, hj⟩ : ∃ j : Nat, (itAt l0 i).f6 = j := ⟨(itAt l0 i).f6.toNat, by unfold inB at hw; simp at hw; omega⟩
        have hj1 : j < l0.length := by unfold inB at hw; simp at hw; omega
        obtain ⟨ad', e', cy⟩ := cells_at hr0 j hj1
        obtain rfl : ad = ad' := by injection e'
        have hjj : (itAt l0 i).f6.toNat = j := by omega
        rw [hjj]
        by_cases hk : (itAt l0 j).f1 = (itAt l0 i).f1
        · have hk' : ((itAt l0 j).f1 == (itAt l0 i).f1) = true := by simpa using hk
          rw [hk', Bool.true_and]
          by_cases hd : (itAt l0 j).f1 = 2
          · have hd' : ((itAt l0 j).f1 != 2) = false := by simpa using hd
            rw [hd', Bool.false_and]
            exact isGood_d w ad i j c0 _ hi _ _ cx cy hj1 g3 h6 hw hz hj hk hd
          · have hd' : ((itAt l0 j).f1 != 2) = true := by simpa using hd
            rw [hd', Bool.true_and]
            exact isGood_s w ad i j c0 _ hi _ _ cx cy hj1 g3 h6 hw hz hj hk hd
        · have hk' : ((itAt l0 j).f1 == (itAt l0 i).f1) = false := by simpa using hk
          rw [hk', Bool.false_and]
          exact isGood_k w ad i j c0 _ hi _ _ cx cy hj1 g3 h6 hw hz hj hk'
      · have hz' : zerosB (itAt l0 i) = false := by simpa using hz
        rw [hz', Bool.false_and]
        exact isGood_nz w ad i 0 c0 _ hi _ (itAt l0 i) cx g3 h6 hw hz'
    · have hw' : inB 0 ((i : Int) - 1) (itAt l0 i).f6 = false := by simpa using hw
      rw [hw', Bool.false_and]
      exact isGood_out w ad i 0 c0 _ hi _ (itAt l0 i) cx g3 h6 hw'

end Go.Proofs.YtibfocaldcjiiaaDoor.Q
