/- Texts of this claim, merged by a program (wip/tools/merge.py): Q196, Q197. -/
import Derived.Test.YtibfocaldcjiiaaGreatDoorJ2
import Derived.Test.YtibfocaldcjiiaaGreatDoorJ5
import Derived.Test.YtibfocaldcjiiaaGreatDoorJ17
import Derived.Test.YtibfocaldcjiiaaGreatDoorJ18
-- Printed by a program of this session (wip/tools/myprint.py) that runs the kit's print, hand-proved functions among the others.
namespace Go.Proofs.YtibfocaldcjiiaaGreatDoor.Q
open Go.RowKit Go.Proofs.YtibfocaldcjiiaaGreatDoorW.PrintWords Go.Proofs.YtibfocaldcjiiaaGreatDoorW.PrintLast Go.Proofs.YtibfocaldcjiiaaGreatDoorW.PrintMore
attribute [local go_sem] max2_int min2_int max_two min_two max_three min_three max_four min_four   -- for this text's walks alone
set_option linter.unusedVariables false
set_option linter.unusedSimpArgs false

/-! ### impl_ChangeMode: function 212 -/
mutual
def impl_ChangeMode.j0 : Nat → Int → ByteArray → Int → Bool → Option (Int × Bool)
 | 0, _, _, _, _ => none
 | k + 1, x0, x1, x6, x20 => if x20 = true then (some (0, false)) else (if 0 ≤ x6 then (if x6 ≤ (x1.size : Int) then ((impl_lettersOf.f k (x1.extract 0 (x6 : Int).toNat) (⟨#[117, 103, 111, 97]⟩ : ByteArray) (([448, 56, 7, 511] : List Int))).bind fun bt910 => (if 0 ≤ (wrap64 (x6 + 1)) then (if (wrap64 (x6 + 1)) ≤ (x1.size : Int) then ((impl_lettersOf.f k (x1.extract ((wrap64 (x6 + 1)) : Int).toNat x1.size) (⟨#[114, 119, 120]⟩ : ByteArray) (([4, 2, 1] : List Int))).bind fun bt915 => (if bt910.2 = true then (impl_ChangeMode.j1 k x0 x1 x6 bt910.1 bt915.1 (!bt915.2)) else (impl_ChangeMode.j1 k x0 x1 x6 bt910.1 bt915.1 true))) else (none)) else (none))) else (none)) else (none))
def impl_ChangeMode.j1 : Nat → Int → ByteArray → Int → Int → Int → Bool → Option (Int × Bool)
 | 0, _, _, _, _, _, _ => none
 | k + 1, x0, x1, x6, x7, x9, x43 => if x43 = true then (some (0, false)) else (if 0 ≤ x6 then (if x6 < (x1.size : Int) then (if (bt x1 x6) = 43 then (some (Go.bits .or .i64 x0 (Go.bits .and .i64 x7 (Go.bits .or .i64 (Go.bits .or .i64 (wrap64 (x9 * 64)) (wrap64 (x9 * 8))) x9)), true)) else (if (bt x1 x6) = 45 then (some (Go.bits .andNot .i64 x0 (Go.bits .and .i64 x7 (Go.bits .or .i64 (Go.bits .or .i64 (wrap64 (x9 * 64)) (wrap64 (x9 * 8))) x9)), true)) else (some (Go.bits .or .i64 (Go.bits .andNot .i64 x0 x7) (Go.bits .and .i64 x7 (Go.bits .or .i64 (Go.bits .or .i64 (wrap64 (x9 * 64)) (wrap64 (x9 * 8))) x9)), true)))) else (none)) else (none))
end
def impl_ChangeMode.f (k : Nat) (a0 : Int) (a1 : ByteArray) : Option (Int × Bool) := (strings_IndexAny.f a1 (⟨#[43, 45, 61]⟩ : ByteArray)).bind fun t905 => ((impl_isMode.f a0).bind fun t906 => (if t906 = true then (impl_ChangeMode.j0 k a0 a1 t905 (decide (t905 < 1))) else (impl_ChangeMode.j0 k a0 a1 t905 true)))
theorem impl_ChangeMode.mono_l : ∀ k, (∀ y0 y1 y2 y3, LeO (impl_ChangeMode.j0 k y0 y1 y2 y3) (impl_ChangeMode.j0 (k + 1) y0 y1 y2 y3)) ∧ (∀ y0 y1 y2 y3 y4 y5, LeO (impl_ChangeMode.j1 k y0 y1 y2 y3 y4 y5) (impl_ChangeMode.j1 (k + 1) y0 y1 y2 y3 y4 y5))
 | 0 => ⟨fun _ _ _ _ r h => by simp [impl_ChangeMode.j0] at h, fun _ _ _ _ _ _ r h => by simp [impl_ChangeMode.j1] at h⟩
 | k + 1 => by
  obtain ⟨ih0, ih1⟩ := impl_ChangeMode.mono_l k
  refine ⟨?_, ?_⟩
  ·intro y0 y1 y2 y3
   unfold impl_ChangeMode.j0
   repeat' first
   | (with_reducible exact ih0 _ _ _ _)
   | (with_reducible exact ih1 _ _ _ _ _ _)
   | (with_reducible exact impl_lettersOf.mono _ _ _ _)
   | (with_reducible exact LeO.refl _)
   | (with_reducible exact LeO.none _)
   | (with_reducible refine LeO.ite ?_ ?_)
   | (with_reducible refine LeO.bind ?_ (fun _ => ?_))
   | exact ih0 _ _ _ _
   | exact ih1 _ _ _ _ _ _
   | exact impl_lettersOf.mono _ _ _ _
   | exact LeO.none _
   | refine LeO.ite ?_ ?_
   | refine LeO.bind ?_ (fun _ => ?_)
  ·intro y0 y1 y2 y3 y4 y5
   unfold impl_ChangeMode.j1
   repeat' first
   | (with_reducible exact ih0 _ _ _ _)
   | (with_reducible exact ih1 _ _ _ _ _ _)
   | (with_reducible exact impl_lettersOf.mono _ _ _ _)
   | (with_reducible exact LeO.refl _)
   | (with_reducible exact LeO.none _)
   | (with_reducible refine LeO.ite ?_ ?_)
   | (with_reducible refine LeO.bind ?_ (fun _ => ?_))
   | exact ih0 _ _ _ _
   | exact ih1 _ _ _ _ _ _
   | exact impl_lettersOf.mono _ _ _ _
   | exact LeO.none _
   | refine LeO.ite ?_ ?_
   | refine LeO.bind ?_ (fun _ => ?_)
theorem impl_ChangeMode.mono : ∀ a0 a1 k, LeO (impl_ChangeMode.f k a0 a1) (impl_ChangeMode.f (k + 1) a0 a1) := by
 intro a0 a1 k
 obtain ⟨ih0, ih1⟩ := impl_ChangeMode.mono_l k
 unfold impl_ChangeMode.f
 repeat' first
   | (with_reducible exact ih0 _ _ _ _)
   | (with_reducible exact ih1 _ _ _ _ _ _)
   | (with_reducible exact impl_lettersOf.mono _ _ _ _)
   | (with_reducible exact LeO.refl _)
   | (with_reducible exact LeO.none _)
   | (with_reducible refine LeO.ite ?_ ?_)
   | (with_reducible refine LeO.bind ?_ (fun _ => ?_))
   | exact ih0 _ _ _ _
   | exact ih1 _ _ _ _ _ _
   | exact impl_lettersOf.mono _ _ _ _
   | exact LeO.none _
   | refine LeO.ite ?_ ?_
   | refine LeO.bind ?_ (fun _ => ?_)
set_option maxHeartbeats 8000000 in
set_option maxRecDepth 100000 in
theorem impl_ChangeMode.calls (k : Nat) (a0 : Int) (a1 : ByteArray) (r1 : Int) (r2 : Bool) (w : World) (h : impl_ChangeMode.f k a0 a1 = some (r1, r2)) :
  Calls Tryz.prog 212 #[.int .i64 a0, .string a1] w fun e w' => e = .returned (.tuple #[.int .i64 r1, .bool r2]) ∧ Below w.heap.size w w' := by
 have HB := Aside0.mk (Below.refl w.heap.size w)
 have H : ((strings_IndexAny.f a1 (⟨#[43, 45, 61]⟩ : ByteArray)).bind fun t905 => ((impl_isMode.f a0).bind fun t906 => (if t906 = true then (impl_ChangeMode.j0 k a0 a1 t905 (decide (t905 < 1))) else (impl_ChangeMode.j0 k a0 a1 t905 true)))) = some (r1, r2) := h
 clear h
 replace H := Option.bind_eq_some_iff.mp H
 obtain ⟨t905, A30, H⟩ := H
 try dsimp only at H
 have A3 := Aside0.mk A30
 clear A30
 have HC4 := Aside0.mk H
 clear H
 go_enter Tryz.func212, Tryz.ntmps212
 go_upto_region 2 with (first | ((with_reducible refine gate_callee (f := 130) rfl ?_); refine goesL_ (some 13) rfl rfl Tryz.func130 (by kernel_rfl) rfl #[.string a1, .string (⟨#[43, 45, 61]⟩ : ByteArray)] rfl (by (try simp only [List.map_toArray, List.map_cons, List.map_nil]); first | done | rfl | (simp only [List.length_drop, List.length_take]; rfl)) ?_; (with_reducible refine (strings_IndexAny.calls a1 (⟨#[43, 45, 61]⟩ : ByteArray) t905 _ A3.out).mono ?_); rintro e w5 ⟨rfl, hb⟩; refine ⟨_, rfl, ?_⟩; have n0_ := Aside0.mk (below_step (Gtr.bw HB.out) hb); clear HB; have HB := n0_; clear n0_; (try clear hb); (try clear hb2); (try clear hk); (try clear hi)))
 (try simp only [Act.put, List.setIfInBounds_toArray, List.set_cons_zero, List.set_cons_succ])
 go_cut [20] (fun v20 wc => ∃ (kq : Nat) (x20_3 : Bool), v20 = .bool x20_3 ∧ Aside0 (impl_ChangeMode.j0 kq a0 a1 t905 x20_3 = some (r1, r2)) ∧ Aside0 (kq ≤ k) ∧ Aside0 (Below w.heap.size w wc))
 case first =>
  have H := HC4.out
  clear HC4
  replace H := Option.bind_eq_some_iff.mp H
  obtain ⟨t906, A60, H⟩ := H
  try dsimp only at H
  have A6 := Aside0.mk A60
  clear A60
  by_cases c7 : t906 = true
  ·subst c7
   have H1 := H
   rw [if_pos rfl] at H1
   clear H
   have H := H1
   clear H1
   have H' := Aside0.mk H
   clear H
   go_wp2_with (first | ((with_reducible refine gate_callee (f := 257) rfl ?_); refine goesL_ (some 15) rfl rfl Tryz.func257 (by kernel_rfl) rfl #[.int .i64 a0] rfl (by (try simp only [List.map_toArray, List.map_cons, List.map_nil]); first | done | rfl | (simp only [List.length_drop, List.length_take]; rfl)) ?_; (with_reducible refine (impl_isMode.calls a0 true _ A6.out).mono ?_); rintro e w' ⟨rfl, ⟨nd, rfl⟩⟩; refine ⟨_, rfl, ?_⟩))
   go_meet
   case rel => exact ⟨_, (decide (t905 < 1)), (by first | rfl | (simp; done) | (simp [*]; done)), H', ⟨by first | omega | exact Nat.le_refl _⟩, ⟨(Gtr.bw HB.out)⟩⟩
  ·replace c7 := Bool.eq_false_iff.mpr c7
   subst c7
   have H1 : (impl_ChangeMode.j0 k a0 a1 t905 true) = some (r1, r2) := by rw [if_neg (show ¬ (false = true) by decide)] at H; exact H
   clear H
   have H := H1
   clear H1
   have H' := Aside0.mk H
   clear H
   go_wp2_with (first | ((with_reducible refine gate_callee (f := 257) rfl ?_); refine goesL_ (some 15) rfl rfl Tryz.func257 (by kernel_rfl) rfl #[.int .i64 a0] rfl (by (try simp only [List.map_toArray, List.map_cons, List.map_nil]); first | done | rfl | (simp only [List.length_drop, List.length_take]; rfl)) ?_; (with_reducible refine (impl_isMode.calls a0 false _ A6.out).mono ?_); rintro e w' ⟨rfl, ⟨nd, rfl⟩⟩; refine ⟨_, rfl, ?_⟩))
   go_meet
   case rel => exact ⟨_, (true), (by first | rfl | (simp; done) | (simp [*]; done)), H', ⟨by first | omega | exact Nat.le_refl _⟩, ⟨(Gtr.bw HB.out)⟩⟩
 case rest =>
  clear HC4
  (try clear c1);(try clear c2);(try clear p2);(try clear c7)
  obtain ⟨kq, x20_3, rfl, HA, HJ3, HB⟩ := hcut
  cases kq with
  | zero => exact absurd HA.out (by simp [impl_ChangeMode.j0])
  | succ kj3 =>
   have H := HA.out
   clear HA
   simp only [impl_ChangeMode.j0] at H
   by_cases c8 : x20_3 = true
   ·subst c8
    have H1 := H
    rw [if_pos rfl] at H1
    clear H
    have H := H1
    clear H1
    simp only [Option.some.injEq, Prod.mk.injEq] at H
    obtain ⟨rfl, rfl⟩ := H
    go_wp2
    go_ret2
    exact ⟨by first | rfl | (simp [errW_none, errW_some] <;> rfl) | (simp [*, errW_none, errW_some] <;> rfl), (Gtr.bw HB.out)⟩
   ·replace c8 := Bool.eq_false_iff.mpr c8
    subst c8
    have H1 : (if 0 ≤ t905 then (if t905 ≤ (a1.size : Int) then ((impl_lettersOf.f kj3 (a1.extract 0 (t905 : Int).toNat) (⟨#[117, 103, 111, 97]⟩ : ByteArray) (([448, 56, 7, 511] : List Int))).bind fun bt910 => (if 0 ≤ (wrap64 (t905 + 1)) then (if (wrap64 (t905 + 1)) ≤ (a1.size : Int) then ((impl_lettersOf.f kj3 (a1.extract ((wrap64 (t905 + 1)) : Int).toNat a1.size) (⟨#[114, 119, 120]⟩ : ByteArray) (([4, 2, 1] : List Int))).bind fun bt915 => (if bt910.2 = true then (impl_ChangeMode.j1 kj3 a0 a1 t905 bt910.1 bt915.1 (!bt915.2)) else (impl_ChangeMode.j1 kj3 a0 a1 t905 bt910.1 bt915.1 true))) else (none)) else (none))) else (none)) else (none)) = some (r1, r2) := by rw [if_neg (show ¬ (false = true) by decide)] at H; exact H
    clear H
    have H := H1
    clear H1
    by_cases c9 : 0 ≤ t905
    ·rw [if_pos c9] at H
     have c9b0 := eq_true c9
     have c9b1 : decide (0 ≤ t905) = true := decide_eq_true c9
     clear c9
     by_cases c10 : t905 ≤ (a1.size : Int)
     ·rw [if_pos c10] at H
      have c10b0 := eq_true c10
      have c10b1 : decide (t905 ≤ (a1.size : Int)) = true := decide_eq_true c10
      clear c10
      obtain ⟨y907, hy907⟩ : ∃ y_ : List Int, y_ = (([448, 56, 7, 511] : List Int)) := ⟨_, rfl⟩
      replace H : ((impl_lettersOf.f kj3 (a1.extract 0 (t905 : Int).toNat) (⟨#[117, 103, 111, 97]⟩ : ByteArray) y907).bind fun bt910 => (if 0 ≤ (wrap64 (t905 + 1)) then (if (wrap64 (t905 + 1)) ≤ (a1.size : Int) then ((impl_lettersOf.f kj3 (a1.extract ((wrap64 (t905 + 1)) : Int).toNat a1.size) (⟨#[114, 119, 120]⟩ : ByteArray) (([4, 2, 1] : List Int))).bind fun bt915 => (if bt910.2 = true then (impl_ChangeMode.j1 kj3 a0 a1 t905 bt910.1 bt915.1 (!bt915.2)) else (impl_ChangeMode.j1 kj3 a0 a1 t905 bt910.1 bt915.1 true))) else (none)) else (none))) = some (r1, r2) := by first | (rw [hy907]; with_reducible exact H) | (have H2_ := (Option.bind_some _ _).symm.trans H; rw [hy907]; with_reducible exact H2_) | (have H2_ := (Option.bind_some _ _).symm.trans H; with_reducible exact H2_) | with_reducible exact H | (rw [hy907]; exact H) | exact H
      have Ny907 := Aside0.mk hy907
      clear hy907
      replace H := Option.bind_eq_some_iff.mp H
      obtain ⟨⟨t910, t911⟩, A110, H⟩ := H
      try dsimp only at H
      have A11 := Aside0.mk A110
      clear A110
      obtain ⟨ji12, hji12⟩ : ∃ j_ : Int, (wrap64 (t905 + 1)) = j_ := ⟨_, rfl⟩
      replace H : (if 0 ≤ (ji12) then (if (ji12) ≤ (a1.size : Int) then ((impl_lettersOf.f kj3 (a1.extract ((ji12) : Int).toNat a1.size) (⟨#[114, 119, 120]⟩ : ByteArray) (([4, 2, 1] : List Int))).bind fun bt915 => (if t911 = true then (impl_ChangeMode.j1 kj3 a0 a1 t905 t910 bt915.1 (!bt915.2)) else (impl_ChangeMode.j1 kj3 a0 a1 t905 t910 bt915.1 true))) else (none)) else (none)) = some (r1, r2) := by first | (rw [hji12] at H; exact H) | (simp only [hji12] at H ⊢; exact H)
      (try rw [hji12] at A11)
      have hji12w : (IntKind.i64.wrap (t905 + 1)) = ji12 := (i64_w _).trans hji12
      by_cases c13 : 0 ≤ (ji12)
      ·rw [if_pos c13] at H
       have c13b0 := eq_true c13
       have c13b1 : decide (0 ≤ (ji12)) = true := decide_eq_true c13
       clear c13
       by_cases c14 : (ji12) ≤ (a1.size : Int)
       ·rw [if_pos c14] at H
        have c14b0 := eq_true c14
        have c14b1 : decide ((ji12) ≤ (a1.size : Int)) = true := decide_eq_true c14
        clear c14
        obtain ⟨y912, hy912⟩ : ∃ y_ : List Int, y_ = (([4, 2, 1] : List Int)) := ⟨_, rfl⟩
        replace H : ((impl_lettersOf.f kj3 (a1.extract ((ji12) : Int).toNat a1.size) (⟨#[114, 119, 120]⟩ : ByteArray) y912).bind fun bt915 => (if t911 = true then (impl_ChangeMode.j1 kj3 a0 a1 t905 t910 bt915.1 (!bt915.2)) else (impl_ChangeMode.j1 kj3 a0 a1 t905 t910 bt915.1 true))) = some (r1, r2) := by first | (rw [hy912]; with_reducible exact H) | (have H2_ := (Option.bind_some _ _).symm.trans H; rw [hy912]; with_reducible exact H2_) | (have H2_ := (Option.bind_some _ _).symm.trans H; with_reducible exact H2_) | with_reducible exact H | (rw [hy912]; exact H) | exact H
        have Ny912 := Aside0.mk hy912
        clear hy912
        replace H := Option.bind_eq_some_iff.mp H
        obtain ⟨⟨t915, t916⟩, A150, H⟩ := H
        try dsimp only at H
        have A15 := Aside0.mk A150
        clear A150
        have HC16 := Aside0.mk H
        clear H
        go_upto_region 6 with (first | ((with_reducible refine gate_dst (N := 25) rfl ?_); refine Kd.R_lit (Kd.int .i64) _ 3 ?hg (N := 25) ?hd (xs := ([448, 56, 7, 511] : List Int)) (inner := [.int .i64 448, .int .i64 56, .int .i64 7, .int .i64 511]) (ok := fun _ => True) (okp := fun _ => True) ?hr ?hp (fun _ hk => hk) trivial (Below.refl _ _) (Nat.le_refl _) (by simp) ?_; (case hd => rfl); (case hg => rfl); (case hr => first | (go_simp; done) | (go_simp; rfl)); (case hp => exact (Reps.one (show Kd.M (Kd.int .i64) _ _ _ 448 [.int .i64 448] from rfl) (Reps.one (show Kd.M (Kd.int .i64) _ _ _ 56 [.int .i64 56] from rfl) (Reps.one (show Kd.M (Kd.int .i64) _ _ _ 7 [.int .i64 7] from rfl) (Reps.one (show Kd.M (Kd.int .i64) _ _ _ 511 [.int .i64 511] from rfl) (Reps.none _ _)))))); intro v908 w17 ho18 hb hg_ hnew_; clear hg_ hnew_; (first | rw [← Ny907.out] at ho18 | (simp only [Int.reduceToNat] at ho18; rw [← Ny907.out] at ho18)); have n0_ := Aside0.mk (Kd.R_lower ho18 (below_size (Gtr.bw HB.out))); have n1_ := Aside0.mk (below_step (Gtr.bw HB.out) hb); clear HB; have HO909 := n0_; have HB := n1_; clear n0_ n1_; clear hb ho18; obtain ⟨Ao19, co19, eo19⟩ := Kd.R_slice HO909.out; subst eo19) | ((with_reducible refine gate_callee (f := 258) rfl ?_); refine goesL_ (some 26) rfl rfl Tryz.func258 (by kernel_rfl) rfl #[.string (a1.extract 0 (t905 : Int).toNat), .string (⟨#[117, 103, 111, 97]⟩ : ByteArray), .slice Ao19 y907.length co19] rfl (by (try simp only [List.map_toArray, List.map_cons, List.map_nil]); first | done | rfl | (simp only [List.length_drop, List.length_take]; rfl)) ?_; (with_reducible refine (impl_lettersOf.calls kj3 (a1.extract 0 (t905 : Int).toNat) (⟨#[117, 103, 111, 97]⟩ : ByteArray) _ _ y907 t910 t911 _ ?side1 ?side2 A11.out).mono ?_); (case side1 => repeat (first | exact (Kd.R_reads' HO909.out).2.2 | (with_reducible refine Kd.C_alloc ?_ _) | (with_reducible refine Kd.C_drewN ?_ _) | (with_reducible refine Kd.C_drew ?_))); (case side2 => exact (Kd.R_reads' HO909.out).2.1); rintro e w' ⟨rfl, ⟨nd, rfl⟩⟩; refine ⟨_, rfl, ?_⟩) | ((with_reducible refine gate_dst (N := 34) rfl ?_); refine Kd.R_lit (Kd.int .i64) _ 3 ?hg (N := 34) ?hd (xs := ([4, 2, 1] : List Int)) (inner := [.int .i64 4, .int .i64 2, .int .i64 1]) (ok := fun _ => True) (okp := fun _ => True) ?hr ?hp (fun _ hk => hk) trivial (Below.refl _ _) (Nat.le_refl _) (by simp) ?_; (case hd => rfl); (case hg => rfl); (case hr => first | (go_simp; done) | (go_simp; rfl)); (case hp => exact (Reps.one (show Kd.M (Kd.int .i64) _ _ _ 4 [.int .i64 4] from rfl) (Reps.one (show Kd.M (Kd.int .i64) _ _ _ 2 [.int .i64 2] from rfl) (Reps.one (show Kd.M (Kd.int .i64) _ _ _ 1 [.int .i64 1] from rfl) (Reps.none _ _))))); intro v913 w20 ho21 hb hg_ hnew_; clear hg_ hnew_; (first | rw [← Ny912.out] at ho21 | (simp only [Int.reduceToNat] at ho21; rw [← Ny912.out] at ho21)); have n0_ := Aside0.mk (Kd.R_elder' (by (with_reducible repeat (first | apply Kd.R_alloc | apply Kd.R_drewN | apply Kd.R_drew)); exact HO909.out) (Kd.R_base ho21) hb); have n1_ := Aside0.mk (Kd.R_lower (Kd.R_new' ho21 (Kd.R_lt (by (with_reducible repeat (first | apply Kd.R_alloc | apply Kd.R_drewN | apply Kd.R_drew)); exact HO909.out))) (below_size (Gtr.bw HB.out))); have n2_ := Aside0.mk (below_step (Gtr.bw HB.out) hb); clear HO909; clear HB; have HO909 := n0_; have HO914 := n1_; have HB := n2_; clear n0_ n1_ n2_; clear hb ho21; obtain ⟨Ao22, co22, eo22⟩ := Kd.R_slice HO914.out; subst eo22) | ((with_reducible refine gate_callee (f := 258) rfl ?_); refine goesL_ (some 35) rfl rfl Tryz.func258 (by kernel_rfl) rfl #[.string (a1.extract ((ji12) : Int).toNat a1.size), .string (⟨#[114, 119, 120]⟩ : ByteArray), .slice Ao22 y912.length co22] rfl (by (try simp only [List.map_toArray, List.map_cons, List.map_nil]); first | done | (simp only [hji12]; rfl) | rfl | (simp only [List.length_drop, List.length_take]; rfl)) ?_; (with_reducible refine (impl_lettersOf.calls kj3 (a1.extract ((ji12) : Int).toNat a1.size) (⟨#[114, 119, 120]⟩ : ByteArray) _ _ y912 t915 t916 _ ?side1 ?side2 A15.out).mono ?_); (case side1 => repeat (first | exact (Kd.R_reads' HO914.out).2.2 | (with_reducible refine Kd.C_alloc ?_ _) | (with_reducible refine Kd.C_drewN ?_ _) | (with_reducible refine Kd.C_drew ?_))); (case side2 => exact (Kd.R_reads' HO914.out).2.1); rintro e w' ⟨rfl, ⟨nd, rfl⟩⟩; refine ⟨_, rfl, ?_⟩))
        (try simp only [Act.put, List.setIfInBounds_toArray, List.set_cons_zero, List.set_cons_succ])
        go_cut [43] (fun v43 wc => ∃ (kq : Nat) (x43_15 : Bool), v43 = .bool x43_15 ∧ Aside0 (impl_ChangeMode.j1 kq a0 a1 t905 t910 t915 x43_15 = some (r1, r2)) ∧ Aside0 (kq ≤ kj3) ∧ Aside0 (Below w.heap.size w wc))
        case first =>
         have H := HC16.out
         clear HC16
         by_cases c23 : t911 = true
         ·subst c23
          have H1 := H
          rw [if_pos rfl] at H1
          clear H
          have H := H1
          clear H1
          have H' := Aside0.mk H
          clear H
          go_wp2
          go_meet
          case rel => exact ⟨_, (!t916), (by first | rfl | (simp; done) | (simp [*]; done)), H', ⟨by have := HJ3.out; first | omega | exact Nat.le_refl _⟩, ⟨(Gtr.bw HB.out)⟩⟩
         ·replace c23 := Bool.eq_false_iff.mpr c23
          subst c23
          have H1 : (impl_ChangeMode.j1 kj3 a0 a1 t905 t910 t915 true) = some (r1, r2) := by rw [if_neg (show ¬ (false = true) by decide)] at H; exact H
          clear H
          have H := H1
          clear H1
          have H' := Aside0.mk H
          clear H
          go_wp2
          go_meet
          case rel => exact ⟨_, (true), (by first | rfl | (simp; done) | (simp [*]; done)), H', ⟨by have := HJ3.out; first | omega | exact Nat.le_refl _⟩, ⟨(Gtr.bw HB.out)⟩⟩
        case rest =>
         clear HC16
         (try clear c1);(try clear c2);(try clear p2);(try clear p6);(try clear c7);(try clear c8);(try clear c9);(try clear c9b0);(try clear c9b1);(try clear c10);(try clear c10b0);(try clear c10b1);(try clear c13);(try clear c13b0);(try clear c13b1);(try clear c14);(try clear c14b0);(try clear c14b1);(try clear c21);(try clear c23);(try clear p2)
         obtain ⟨kq, x43_15, rfl, HA, HJ15, HB⟩ := hcut
         cases kq with
         | zero => exact absurd HA.out (by simp [impl_ChangeMode.j1])
         | succ kj15 =>
          have H := HA.out
          clear HA
          simp only [impl_ChangeMode.j1] at H
          by_cases c24 : x43_15 = true
          ·subst c24
           have H1 := H
           rw [if_pos rfl] at H1
           clear H
           have H := H1
           clear H1
           simp only [Option.some.injEq, Prod.mk.injEq] at H
           obtain ⟨rfl, rfl⟩ := H
           go_wp2
           go_ret2
           exact ⟨by first | rfl | (simp [errW_none, errW_some] <;> rfl) | (simp only [← hji12]; first | rfl | (simp [errW_none, errW_some] <;> rfl)) | (simp [*, errW_none, errW_some] <;> rfl), (Gtr.bw HB.out)⟩
          ·replace c24 := Bool.eq_false_iff.mpr c24
           subst c24
           have H1 : (if 0 ≤ t905 then (if t905 < (a1.size : Int) then (if (bt a1 t905) = 43 then (some (Go.bits .or .i64 a0 (Go.bits .and .i64 t910 (Go.bits .or .i64 (Go.bits .or .i64 (wrap64 (t915 * 64)) (wrap64 (t915 * 8))) t915)), true)) else (if (bt a1 t905) = 45 then (some (Go.bits .andNot .i64 a0 (Go.bits .and .i64 t910 (Go.bits .or .i64 (Go.bits .or .i64 (wrap64 (t915 * 64)) (wrap64 (t915 * 8))) t915)), true)) else (some (Go.bits .or .i64 (Go.bits .andNot .i64 a0 t910) (Go.bits .and .i64 t910 (Go.bits .or .i64 (Go.bits .or .i64 (wrap64 (t915 * 64)) (wrap64 (t915 * 8))) t915)), true)))) else (none)) else (none)) = some (r1, r2) := by rw [if_neg (show ¬ (false = true) by decide)] at H; exact H
           clear H
           have H := H1
           clear H1
           by_cases c25 : 0 ≤ t905
           ·rw [if_pos c25] at H
            have c25b0 : decide (0 ≤ t905) = true := decide_eq_true c25
            clear c25
            by_cases c26 : t905 < (a1.size : Int)
            ·rw [if_pos c26] at H
             have c26b0 : decide (t905 < (a1.size : Int)) = true := decide_eq_true c26
             clear c26
             by_cases c28 : (bt a1 t905) = 43
             ·rw [if_pos c28] at H
              have c28b0 : ((bt a1 t905) == 43) = true := beq_iff_eq.mpr c28
              have c28b1 : ((bt a1 t905) != 43) = false := bne_eq_false_iff_eq.mpr c28
              clear c28
              simp only [Option.some.injEq, Prod.mk.injEq] at H
              obtain ⟨rfl, rfl⟩ := H
              have p27 : 0 ≤ (t905 : Int) := of_decide_eq_true (by first | (with_reducible assumption) | assumption)
              have q27 : t905 < (a1.size : Int) := of_decide_eq_true (by first | (with_reducible assumption) | assumption)
              have hx27 := bt_at a1 t905
              replace p27 := eq_true p27
              replace q27 := eq_true q27
              go_wp2
              go_ret2
              exact ⟨by first | rfl | (simp [errW_none, errW_some] <;> rfl) | (simp only [← hji12]; first | rfl | (simp [errW_none, errW_some] <;> rfl)) | (simp [*, errW_none, errW_some] <;> rfl), (Gtr.bw HB.out)⟩
             ·rw [if_neg c28] at H
              have c28b0 : ((bt a1 t905) == 43) = false := beq_eq_false_iff_ne.mpr c28
              have c28b1 : ((bt a1 t905) != 43) = true := bne_iff_ne.mpr c28
              by_cases c29 : (bt a1 t905) = 45
              ·rw [if_pos c29] at H
               have c29b0 : ((bt a1 t905) == 45) = true := beq_iff_eq.mpr c29
               have c29b1 : ((bt a1 t905) != 45) = false := bne_eq_false_iff_eq.mpr c29
               clear c29
               simp only [Option.some.injEq, Prod.mk.injEq] at H
               obtain ⟨rfl, rfl⟩ := H
               have p27 : 0 ≤ (t905 : Int) := of_decide_eq_true (by first | (with_reducible assumption) | assumption)
               have q27 : t905 < (a1.size : Int) := of_decide_eq_true (by first | (with_reducible assumption) | assumption)
               have hx27 := bt_at a1 t905
               replace p27 := eq_true p27
               replace q27 := eq_true q27
               go_wp2
               go_ret2
               exact ⟨by first | rfl | (simp [errW_none, errW_some] <;> rfl) | (simp only [← hji12]; first | rfl | (simp [errW_none, errW_some] <;> rfl)) | (simp [*, errW_none, errW_some] <;> rfl), (Gtr.bw HB.out)⟩
              ·rw [if_neg c29] at H
               have c29b0 : ((bt a1 t905) == 45) = false := beq_eq_false_iff_ne.mpr c29
               have c29b1 : ((bt a1 t905) != 45) = true := bne_iff_ne.mpr c29
               simp only [Option.some.injEq, Prod.mk.injEq] at H
               obtain ⟨rfl, rfl⟩ := H
               have p27 : 0 ≤ (t905 : Int) := of_decide_eq_true (by first | (with_reducible assumption) | assumption)
               have q27 : t905 < (a1.size : Int) := of_decide_eq_true (by first | (with_reducible assumption) | assumption)
               have hx27 := bt_at a1 t905
               replace p27 := eq_true p27
               replace q27 := eq_true q27
               go_wp2
               go_ret2
               exact ⟨by first | rfl | (simp [errW_none, errW_some] <;> rfl) | (simp only [← hji12]; first | rfl | (simp [errW_none, errW_some] <;> rfl)) | (simp [*, errW_none, errW_some] <;> rfl), (Gtr.bw HB.out)⟩
            ·rw [if_neg c26] at H
             exact absurd H (by simp)
           ·rw [if_neg c25] at H
            exact absurd H (by simp)
       ·rw [if_neg c14] at H
        exact absurd H (by simp)
      ·rw [if_neg c13] at H
       exact absurd H (by simp)
     ·rw [if_neg c10] at H
      exact absurd H (by simp)
    ·rw [if_neg c9] at H
     exact absurd H (by simp)
end Go.Proofs.YtibfocaldcjiiaaGreatDoor.Q

-- Printed by a program of this session (wip/tools/myprint.py) that runs the kit's print, hand-proved functions among the others.
namespace Go.Proofs.YtibfocaldcjiiaaGreatDoor.Q
open Go.RowKit Go.Proofs.YtibfocaldcjiiaaGreatDoorW.PrintWords Go.Proofs.YtibfocaldcjiiaaGreatDoorW.PrintLast Go.Proofs.YtibfocaldcjiiaaGreatDoorW.PrintMore
attribute [local go_sem] max2_int min2_int max_two min_two max_three min_three max_four min_four   -- for this text's walks alone
set_option linter.unusedVariables false
set_option linter.unusedSimpArgs false

/-! ### impl_isHow: function 149 -/
def impl_isHow.f (k : Nat) (a0 : ByteArray) : Option (Bool) := (impl_ChangeMode.f k 0 a0).bind fun bt917 => (some bt917.2)
theorem impl_isHow.mono : ∀ a0 k, LeO (impl_isHow.f k a0) (impl_isHow.f (k + 1) a0) := by
 intro a0 k
 unfold impl_isHow.f
 repeat' first
   | (with_reducible exact impl_ChangeMode.mono _ _ _)
   | (with_reducible exact LeO.refl _)
   | (with_reducible exact LeO.none _)
   | (with_reducible refine LeO.ite ?_ ?_)
   | (with_reducible refine LeO.bind ?_ (fun _ => ?_))
   | exact impl_ChangeMode.mono _ _ _
   | exact LeO.none _
   | refine LeO.ite ?_ ?_
   | refine LeO.bind ?_ (fun _ => ?_)
set_option maxHeartbeats 8000000 in
set_option maxRecDepth 100000 in
theorem impl_isHow.calls (k : Nat) (a0 : ByteArray) (r : Bool) (w : World) (h : impl_isHow.f k a0 = some r) :
  Calls Tryz.prog 149 #[.string a0] w fun e w' => e = .returned (.bool r) ∧ Below w.heap.size w w' := by
 have HB := Aside0.mk (Below.refl w.heap.size w)
 have H : ((impl_ChangeMode.f k 0 a0).bind fun bt917 => (some bt917.2)) = some r := h
 clear h
 replace H := Option.bind_eq_some_iff.mp H
 obtain ⟨⟨t917, t918⟩, A20, H⟩ := H
 try dsimp only at H
 have A2 := Aside0.mk A20
 clear A20
 obtain rfl := Option.some.inj H
 go_enter Tryz.func149, Tryz.ntmps149
 go_wp2_with (first | ((with_reducible refine gate_callee (f := 212) rfl ?_); refine goesL_ (some 7) rfl rfl Tryz.func212 (by kernel_rfl) rfl #[.int .i64 0, .string a0] rfl (by (try simp only [List.map_toArray, List.map_cons, List.map_nil]); first | done | rfl | (simp only [List.length_drop, List.length_take]; rfl)) ?_; (with_reducible refine (impl_ChangeMode.calls k 0 a0 t917 t918 _ A2.out).mono ?_); rintro e w3 ⟨rfl, hb⟩; refine ⟨_, rfl, ?_⟩; have n0_ := Aside0.mk (below_step (Gtr.bw HB.out) hb); clear HB; have HB := n0_; clear n0_; (try clear hb); (try clear hb2); (try clear hk); (try clear hi)))
 go_ret
 exact ⟨by first | rfl | (simp [errW_none, errW_some] <;> rfl) | (simp [*, errW_none, errW_some] <;> rfl), (Gtr.bw HB.out)⟩
end Go.Proofs.YtibfocaldcjiiaaGreatDoor.Q
