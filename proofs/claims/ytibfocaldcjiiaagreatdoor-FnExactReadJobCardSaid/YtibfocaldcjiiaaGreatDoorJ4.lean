/- Texts of this claim, merged by a program (wip/tools/merge.py): Q188, Q191, Q189, Q190, Q2, Q46. -/
import Derived.Test.YtibfocaldcjiiaaGreatDoorJ2
import Derived.Test.YtibfocaldcjiiaaGreatDoorJ3
-- Printed by a program of this session (wip/tools/myprint.py) that runs the kit's print, hand-proved functions among the others.
namespace Go.Proofs.YtibfocaldcjiiaaGreatDoor.Q
open Go.RowKit Go.Proofs.YtibfocaldcjiiaaGreatDoorW.PrintWords Go.Proofs.YtibfocaldcjiiaaGreatDoorW.PrintLast Go.Proofs.YtibfocaldcjiiaaGreatDoorW.PrintMore
attribute [local go_sem] max2_int min2_int max_two min_two max_three min_three max_four min_four   -- for this text's walks alone
set_option linter.unusedVariables false
set_option linter.unusedSimpArgs false

/-! ### spec_GoodJob: function 43 -/
mutual
def spec_GoodJob.j0 : Nat → Bool → Int → ByteArray → ByteArray → Int → Int → List ByteArray → Option (Bool)
 | 0, _, _, _, _, _, _, _ => none
 | k + 1, x31, x832000, x832001, x832002, x832003, x832004, x832005 => if x31 = true then (some false) else (spec_GoodJob.l0 k x832005 (x832005.length : Int) 0 x832000 x832001 x832002 x832003 x832004 x832005)
def spec_GoodJob.l0 : Nat → List ByteArray → Int → Int → Int → ByteArray → ByteArray → Int → Int → List ByteArray → Option (Bool)
 | 0, _, _, _, _, _, _, _, _, _ => none
 | k + 1, x33, x34, x35, x832000, x832001, x832002, x832003, x832004, x832005 => if x35 < x34 then (if 0 ≤ x35 then (if x35 < (x33.length : Int) then ((spec_l2Whole.f k (rdOf ByteArray.empty x33 x35)).bind fun t839 => (if t839 = true then (spec_GoodJob.l0 k x33 x34 (wrap64 (x35 + 1)) x832000 x832001 x832002 x832003 x832004 x832005) else (some false))) else (none)) else (none)) else (if x832000 = 1 then (some ((x832005.length : Int) == 2)) else (if x832000 = 6 then (some ((x832005.length : Int) == 1)) else ((spec_l1In.f (x832005.length : Int) 1 10).bind fun t840 => (some t840))))
end
def spec_GoodJob.f (k : Nat) (a0_0 : Int) (a0_1 : ByteArray) (a0_2 : ByteArray) (a0_3 : Int) (a0_4 : Int) (l0_5 : List ByteArray) : Option (Bool) := (spec_l1In.f a0_0 1 6).bind fun t832 => (if t832 = true then (if a0_1.toList = ([] : List UInt8) then ((spec_l15Word.f k a0_0 a0_1 a0_2 a0_3 a0_4 l0_5).bind fun t833 => (if t833 = true then ((spec_l15Owned.f a0_0 a0_1 a0_2 a0_3 a0_4 l0_5).bind fun t834 => (spec_GoodJob.j0 k (!t834) a0_0 a0_1 a0_2 a0_3 a0_4 l0_5)) else (spec_GoodJob.j0 k true a0_0 a0_1 a0_2 a0_3 a0_4 l0_5))) else ((spec_l15Flag.f a0_0).bind fun t835 => (if a0_1.toList = t835.toList then ((spec_l15Word.f k a0_0 a0_1 a0_2 a0_3 a0_4 l0_5).bind fun t836 => (if t836 = true then ((spec_l15Owned.f a0_0 a0_1 a0_2 a0_3 a0_4 l0_5).bind fun t837 => (spec_GoodJob.j0 k (!t837) a0_0 a0_1 a0_2 a0_3 a0_4 l0_5)) else (spec_GoodJob.j0 k true a0_0 a0_1 a0_2 a0_3 a0_4 l0_5))) else (spec_GoodJob.j0 k true a0_0 a0_1 a0_2 a0_3 a0_4 l0_5)))) else (spec_GoodJob.j0 k true a0_0 a0_1 a0_2 a0_3 a0_4 l0_5))
theorem spec_GoodJob.mono_l : ∀ k, (∀ y0 y1 y2 y3 y4 y5 y6, LeO (spec_GoodJob.j0 k y0 y1 y2 y3 y4 y5 y6) (spec_GoodJob.j0 (k + 1) y0 y1 y2 y3 y4 y5 y6)) ∧ (∀ y0 y1 y2 y3 y4 y5 y6 y7 y8, LeO (spec_GoodJob.l0 k y0 y1 y2 y3 y4 y5 y6 y7 y8) (spec_GoodJob.l0 (k + 1) y0 y1 y2 y3 y4 y5 y6 y7 y8))
 | 0 => ⟨fun _ _ _ _ _ _ _ r h => by simp [spec_GoodJob.j0] at h, fun _ _ _ _ _ _ _ _ _ r h => by simp [spec_GoodJob.l0] at h⟩
 | k + 1 => by
  obtain ⟨ih0, ih1⟩ := spec_GoodJob.mono_l k
  refine ⟨?_, ?_⟩
  ·intro y0 y1 y2 y3 y4 y5 y6
   unfold spec_GoodJob.j0
   repeat' first
   | (with_reducible exact ih0 _ _ _ _ _ _ _)
   | (with_reducible exact ih1 _ _ _ _ _ _ _ _ _)
   | (with_reducible exact spec_l15Word.mono _ _ _ _ _ _ _)
   | (with_reducible exact spec_l2Whole.mono _ _)
   | (with_reducible exact LeO.refl _)
   | (with_reducible exact LeO.none _)
   | (with_reducible refine LeO.ite ?_ ?_)
   | (with_reducible refine LeO.bind ?_ (fun _ => ?_))
   | exact ih0 _ _ _ _ _ _ _
   | exact ih1 _ _ _ _ _ _ _ _ _
   | exact spec_l15Word.mono _ _ _ _ _ _ _
   | exact spec_l2Whole.mono _ _
   | exact LeO.none _
   | refine LeO.ite ?_ ?_
   | refine LeO.bind ?_ (fun _ => ?_)
  ·intro y0 y1 y2 y3 y4 y5 y6 y7 y8
   unfold spec_GoodJob.l0
   repeat' first
   | (with_reducible exact ih0 _ _ _ _ _ _ _)
   | (with_reducible exact ih1 _ _ _ _ _ _ _ _ _)
   | (with_reducible exact spec_l15Word.mono _ _ _ _ _ _ _)
   | (with_reducible exact spec_l2Whole.mono _ _)
   | (with_reducible exact LeO.refl _)
   | (with_reducible exact LeO.none _)
   | (with_reducible refine LeO.ite ?_ ?_)
   | (with_reducible refine LeO.bind ?_ (fun _ => ?_))
   | exact ih0 _ _ _ _ _ _ _
   | exact ih1 _ _ _ _ _ _ _ _ _
   | exact spec_l15Word.mono _ _ _ _ _ _ _
   | exact spec_l2Whole.mono _ _
   | exact LeO.none _
   | refine LeO.ite ?_ ?_
   | refine LeO.bind ?_ (fun _ => ?_)
theorem spec_GoodJob.mono : ∀ a0 a1 a2 a3 a4 a5 k, LeO (spec_GoodJob.f k a0 a1 a2 a3 a4 a5) (spec_GoodJob.f (k + 1) a0 a1 a2 a3 a4 a5) := by
 intro a0 a1 a2 a3 a4 a5 k
 obtain ⟨ih0, ih1⟩ := spec_GoodJob.mono_l k
 unfold spec_GoodJob.f
 repeat' first
   | (with_reducible exact ih0 _ _ _ _ _ _ _)
   | (with_reducible exact ih1 _ _ _ _ _ _ _ _ _)
   | (with_reducible exact spec_l15Word.mono _ _ _ _ _ _ _)
   | (with_reducible exact spec_l2Whole.mono _ _)
   | (with_reducible exact LeO.refl _)
   | (with_reducible exact LeO.none _)
   | (with_reducible refine LeO.ite ?_ ?_)
   | (with_reducible refine LeO.bind ?_ (fun _ => ?_))
   | exact ih0 _ _ _ _ _ _ _
   | exact ih1 _ _ _ _ _ _ _ _ _
   | exact spec_l15Word.mono _ _ _ _ _ _ _
   | exact spec_l2Whole.mono _ _
   | exact LeO.none _
   | refine LeO.ite ?_ ?_
   | refine LeO.bind ?_ (fun _ => ?_)
def spec_GoodJob.T1 : Bool × List (List Nat × List Nat) := (true, [([], []), ([0], [0]), ([1], [1]), ([2], [2]), ([3, 2], [3]), ([4], [4]), ([5, 4], [4, 5]), ([6, 4], [4, 6]), ([7, 4, 4], [4, 7]), ([8], [8]), ([9, 8], [8, 9]), ([8], [8]), ([11, 8], [8, 11]), ([12, 8, 8], [8, 12]), ([10, 13, 8], [8, 10, 13]), ([8, 14, 4], [4, 8, 14]), ([4, 15], [4, 15]), ([16, 13], [16]), ([17], [17]), ([18, 17, 17], [17, 18]), ([19, 17], [17, 19]), ([17, 20], [17, 20]), ([21, 19], [21]), ([22], [22]), ([23, 22, 22], [22, 23]), ([24, 22], [22, 24]), ([22, 25], [22, 25])])
def spec_GoodJob.B1 : List Nat := [0, 1, 3, 7, 15, 31, 63, 127, 255, 511, 1023, 511, 2559, 6655, 16383, 32767, 65535, 131071, 262143, 524287, 1048575, 2097151, 4194303, 8388607, 16777215, 33554431, 67108863]
theorem spec_GoodJob.tab1 : rtab .any (opsOf Tryz.f43 1) = spec_GoodJob.T1 := by kernel_rfl
theorem spec_GoodJob.bits1 : waitsOk spec_GoodJob.T1.2 spec_GoodJob.B1 = true := by kernel_rfl
set_option maxHeartbeats 8000000 in
set_option maxRecDepth 100000 in
theorem spec_GoodJob.calls (k : Nat) (a0_0 : Int) (a0_1 : ByteArray) (a0_2 : ByteArray) (a0_3 : Int) (a0_4 : Int) (A0_5 : Option Addr) (c0_5 : Nat) (l0_5 : List ByteArray) (r : Bool) (w : World) (hr0_5 : Kd.C Kd.string w A0_5 l0_5.length l0_5) (hc0_5 : l0_5.length ≤ c0_5) (h : spec_GoodJob.f k a0_0 a0_1 a0_2 a0_3 a0_4 l0_5 = some r) :
  Calls Tryz.prog 43 #[.agg #[.int .i64 a0_0, .string a0_1, .string a0_2, .int .i64 a0_3, .int .i64 a0_4, .slice A0_5 l0_5.length c0_5]] w fun e w' => e = .returned (.bool r) ∧ Below w.heap.size w w' := by
 have hu49 := Tryz.underlying49
 have HR0_5 := Aside0.mk hr0_5
 have HC0_5 := Aside0.mk hc0_5
 clear hr0_5 hc0_5
 have HB := Aside0.mk (Below.refl w.heap.size w)
 have H : ((spec_l1In.f a0_0 1 6).bind fun t832 => (if t832 = true then (if a0_1.toList = ([] : List UInt8) then ((spec_l15Word.f k a0_0 a0_1 a0_2 a0_3 a0_4 l0_5).bind fun t833 => (if t833 = true then ((spec_l15Owned.f a0_0 a0_1 a0_2 a0_3 a0_4 l0_5).bind fun t834 => (spec_GoodJob.j0 k (!t834) a0_0 a0_1 a0_2 a0_3 a0_4 l0_5)) else (spec_GoodJob.j0 k true a0_0 a0_1 a0_2 a0_3 a0_4 l0_5))) else ((spec_l15Flag.f a0_0).bind fun t835 => (if a0_1.toList = t835.toList then ((spec_l15Word.f k a0_0 a0_1 a0_2 a0_3 a0_4 l0_5).bind fun t836 => (if t836 = true then ((spec_l15Owned.f a0_0 a0_1 a0_2 a0_3 a0_4 l0_5).bind fun t837 => (spec_GoodJob.j0 k (!t837) a0_0 a0_1 a0_2 a0_3 a0_4 l0_5)) else (spec_GoodJob.j0 k true a0_0 a0_1 a0_2 a0_3 a0_4 l0_5))) else (spec_GoodJob.j0 k true a0_0 a0_1 a0_2 a0_3 a0_4 l0_5)))) else (spec_GoodJob.j0 k true a0_0 a0_1 a0_2 a0_3 a0_4 l0_5))) = some r := h
 clear h
 have HC2 := Aside0.mk H
 clear H
 go_enter Tryz.func43, Tryz.ntmps43
 go_upto_region 1 with (first | ((with_reducible refine gate_dst (N := 1) rfl ?_); refine box_event ?hg (N := 1) ?hd (cs := #[.int .i64 a0_0, .string a0_1, .string a0_2, .int .i64 a0_3, .int .i64 a0_4, .slice A0_5 l0_5.length c0_5]) (t := 49) ?hr ?_; (case hd => rfl); (case hg => rfl); (case hr => first | (go_simp; done) | (go_simp; rfl)); intro gb831 hg w3 hbox hb; have n0_ := Aside0.mk (below_step (Gtr.bw HB.out) hb); have n1_ := Aside0.mk (hbox); have n2_ := Aside0.mk ((by rw [hg]; exact (below_size (Gtr.bw HB.out)) : w.heap.size ≤ gb831)); have n3_ := Aside0.mk ((by rw [hg]; exact (below_size (Gtr.bw HB.out)) : w.heap.size ≤ gb831)); clear HB; have HB := n0_; have BK831 := n1_; have GW831 := n2_; have GE831 := n3_; clear n0_ n1_ n2_ n3_; clear hb hbox hg))
 (try simp only [Act.put, List.setIfInBounds_toArray, List.set_cons_zero, List.set_cons_succ])
 go_cut [31] (fun v31 wc => ∃ (kq : Nat) (x31_1 : Bool), v31 = .bool x31_1 ∧ Aside0 (spec_GoodJob.j0 kq x31_1 a0_0 a0_1 a0_2 a0_3 a0_4 l0_5 = some r) ∧ Aside0 (kq ≤ k) ∧ Aside0 (wc.heap[gb831]? = some (.cells #[.int .i64 a0_0, .string a0_1, .string a0_2, .int .i64 a0_3, .int .i64 a0_4, (.slice A0_5 l0_5.length c0_5)] 49 (0, 0))) ∧ Aside0 (Below w.heap.size w wc))
 case first =>
  have H := HC2.out
  clear HC2
  replace H := Option.bind_eq_some_iff.mp H
  obtain ⟨t832, A40, H⟩ := H
  try dsimp only at H
  have A4 := Aside0.mk A40
  clear A40
  by_cases c5 : t832 = true
  ·subst c5
   have H1 := H
   rw [if_pos rfl] at H1
   clear H
   have H := H1
   clear H1
   by_cases c6 : a0_1.toList = ([] : List UInt8)
   ·rw [if_pos c6] at H
    have c6b0 : (a0_1.toList == ([] : List UInt8)) = true := beq_iff_eq.mpr c6
    have c6b1 : (a0_1.toList != ([] : List UInt8)) = false := bne_eq_false_iff_eq.mpr c6
    clear c6
    (first | rw [c6b0] | (simp only [i64_w, i32_w]; rw [c6b0]) | skip)
    replace H := Option.bind_eq_some_iff.mp H
    obtain ⟨t833, A70, H⟩ := H
    try dsimp only at H
    have A7 := Aside0.mk A70
    clear A70
    by_cases c8 : t833 = true
    ·subst c8
     have H1 := H
     rw [if_pos rfl] at H1
     clear H
     have H := H1
     clear H1
     replace H := Option.bind_eq_some_iff.mp H
     obtain ⟨t834, A90, H⟩ := H
     try dsimp only at H
     have A9 := Aside0.mk A90
     clear A90
     have H' := Aside0.mk H
     clear H
     try go_wp2
     have n0_ := Aside0.mk (blk_drew BK831.out)
     have n1_ := Aside0.mk (below_drew1 HB.out)
     clear BK831
     clear HB
     have BK831 := n0_
     have HB := n1_
     clear n0_ n1_
     refine start_ (n := 27) (S := fun w' => w'.cell? ⟨gb831, 0, none⟩ = some (.int .i64 a0_0) ∧ w'.cell? ⟨gb831, 1, none⟩ = some (.string a0_1) ∧ w'.cell? ⟨gb831, 2, none⟩ = some (.string a0_2) ∧ w'.cell? ⟨gb831, 3, none⟩ = some (.int .i64 a0_3) ∧ w'.cell? ⟨gb831, 4, none⟩ = some (.int .i64 a0_4) ∧ w'.cell? ⟨gb831, 5, none⟩ = some (.slice A0_5 l0_5.length c0_5)) (ds := []) (Gtr.bb 27 0) (by kernel_rfl) rfl rfl ⟨(blk_cell BK831.out 0).trans rfl, (blk_cell BK831.out 1).trans rfl, (blk_cell BK831.out 2).trans rfl, (blk_cell BK831.out 3).trans rfl, (blk_cell BK831.out 4).trans rfl, (blk_cell BK831.out 5).trans rfl⟩ (fun hHeld => ?_); refine with_tabW spec_GoodJob.tab1 spec_GoodJob.bits1 (fun HT_ HW_ => ?_)
     generalize w3.drew = w10 at BK831 HB hHeld ⊢
     refine pure_ (i := 0) (N := some 5) (v := ?_) (a' := ?_) (Gtr.bb 27 1) rfl rfl (any_of HT_.out (by kernel_rfl)) (fun _ _ _ h => h) (Or.inl ⟨by rfl, ?_⟩) ?_ ?_
     rotate_left
     ·intro w'
      go_simp
      with_reducible rfl
     rotate_left
     ·simp only [Gtr.ps]
      rfl
     refine take_ (i := 1) (N := some 6) (v := ?_) (a' := ?_) (Gtr.bb 27 3) rfl rfl (take_ofW HT_.out HW_.out (by kernel_rfl)) (fun _ _ _ h => h) (Or.inl ⟨by rfl, ?_⟩) hHeld ?_ ?_
     rotate_left
     ·rintro w' ⟨s0, s1, s2, s3, s4, s5⟩
      go_simp
      with_reducible rfl
     rotate_left
     ·simp only [Gtr.ps]
      rfl
     refine one_ (i := 2) (N := some 7) (Gtr.bb 27 7) rfl rfl (one_of HT_.out (by kernel_rfl)) (by decide) (fun K hK => ?_)
     refine goes_ Tryz.func108 (by kernel_rfl) rfl #[.int .i64 a0_0, .int .i64 1, .int .i64 6] (by rfl) rfl rfl (by (try simp only [List.map_toArray, List.map_cons, List.map_nil]); first | done | rfl | (simp only [List.length_drop, List.length_take]; rfl)) ?_
     with_reducible refine (spec_l1In.calls a0_0 1 6 true _ A4.out).mono ?_
     rintro e w' ⟨rfl, ⟨nd, rfl⟩⟩
     refine ⟨_, rfl, ?_⟩
     refine hK.out _ _ ⟨(blk_cell BK831.out 0).trans rfl, (blk_cell BK831.out 1).trans rfl, (blk_cell BK831.out 2).trans rfl, (blk_cell BK831.out 3).trans rfl, (blk_cell BK831.out 4).trans rfl, (blk_cell BK831.out 5).trans rfl⟩ (fun hHeld => ?_)
     clear hK K
     refine norm_ (a' := ?_) ?_ ?_
     rotate_left
     ·show Act.put _ (some 7) _ = _
      simp only [Gtr.ps]
      rfl
     refine pure_ (i := 3) (N := some 8) (v := ?_) (a' := ?_) (Gtr.bb 27 15) rfl rfl (any_of HT_.out (by kernel_rfl)) (fun _ _ _ h => h) (Or.inl ⟨by rfl, ?_⟩) ?_ ?_
     rotate_left
     ·intro w'
      go_simp
      with_reducible rfl
     rotate_left
     ·simp only [Gtr.ps]
      rfl
     refine pure_ (i := 4) (N := some 9) (v := ?_) (a' := ?_) (Gtr.bb 27 31) rfl rfl (any_of HT_.out (by kernel_rfl)) (fun _ _ _ h => h) (Or.inl ⟨by rfl, ?_⟩) ?_ ?_
     rotate_left
     ·intro w'
      go_simp
      with_reducible rfl
     rotate_left
     ·simp only [Gtr.ps]
      rfl
     refine pure_ (i := 5) (N := some 10) (v := ?_) (a' := ?_) (Gtr.bb 27 63) rfl rfl (any_of HT_.out (by kernel_rfl)) (fun _ _ _ h => h) (Or.inl ⟨by rfl, ?_⟩) ?_ ?_
     rotate_left
     ·intro w'
      go_simp
      with_reducible rfl
     rotate_left
     ·simp only [Gtr.ps]
      rfl
     refine take_ (i := 6) (N := some 11) (v := ?_) (a' := ?_) (Gtr.bb 27 127) rfl rfl (take_ofW HT_.out HW_.out (by kernel_rfl)) (fun _ _ _ h => h) (Or.inl ⟨by rfl, ?_⟩) hHeld ?_ ?_
     rotate_left
     ·rintro w' ⟨s0, s1, s2, s3, s4, s5⟩
      go_simp
      with_reducible rfl
     rotate_left
     ·simp only [Gtr.ps]
      rfl
     refine pure_ (i := 7) (N := some 12) (v := ?_) (a' := ?_) (Gtr.bb 27 255) rfl rfl (any_of HT_.out (by kernel_rfl)) (fun _ _ _ h => h) (Or.inl ⟨by rfl, ?_⟩) ?_ ?_
     rotate_left
     ·intro w'
      go_simp
      with_reducible rfl
     rotate_left
     ·simp only [Gtr.ps]
      rfl
     refine pure_ (i := 8) (N := some 13) (v := ?_) (a' := ?_) (Gtr.bb 27 511) rfl rfl (any_of HT_.out (by kernel_rfl)) (fun _ _ _ h => h) (Or.inl ⟨by rfl, ?_⟩) ?_ ?_
     rotate_left
     ·intro w'
      go_simp
      with_reducible rfl
     rotate_left
     ·simp only [Gtr.ps]
      rfl
     refine pure_ (i := 9) (N := some 14) (v := undef) (a' := ?_) (Gtr.bb 27 1023) rfl rfl (any_of HT_.out (by kernel_rfl)) (fun _ _ _ h => h) (Or.inr ⟨by rfl, rfl⟩) ?_ ?_
     rotate_left
     ·simp only [Gtr.ps]
      rfl
     refine pure_ (i := 10) (N := some 15) (v := undef) (a' := ?_) (Gtr.bb 27 2047) rfl rfl (any_of HT_.out (by kernel_rfl)) (fun _ _ _ h => h) (Or.inr ⟨by rfl, rfl⟩) ?_ ?_
     rotate_left
     ·simp only [Gtr.ps]
      rfl
     refine pure_ (i := 11) (N := some 16) (v := undef) (a' := ?_) (Gtr.bb 27 4095) rfl rfl (any_of HT_.out (by kernel_rfl)) (fun _ _ _ h => h) (Or.inr ⟨by rfl, rfl⟩) ?_ ?_
     rotate_left
     ·simp only [Gtr.ps]
      rfl
     refine pure_ (i := 12) (N := some 17) (v := undef) (a' := ?_) (Gtr.bb 27 8191) rfl rfl (any_of HT_.out (by kernel_rfl)) (fun _ _ _ h => h) (Or.inr ⟨by rfl, rfl⟩) ?_ ?_
     rotate_left
     ·simp only [Gtr.ps]
      rfl
     refine pure_ (i := 13) (N := some 18) (v := undef) (a' := ?_) (Gtr.bb 27 16383) rfl rfl (any_of HT_.out (by kernel_rfl)) (fun _ _ _ h => h) (Or.inr ⟨by rfl, rfl⟩) ?_ ?_
     rotate_left
     ·simp only [Gtr.ps]
      rfl
     refine pure_ (i := 14) (N := some 19) (v := undef) (a' := ?_) (Gtr.bb 27 32767) rfl rfl (any_of HT_.out (by kernel_rfl)) (fun _ _ _ h => h) (Or.inr ⟨by rfl, rfl⟩) ?_ ?_
     rotate_left
     ·simp only [Gtr.ps]
      rfl
     refine pure_ (i := 15) (N := some 20) (v := ?_) (a' := ?_) (Gtr.bb 27 65535) rfl rfl (any_of HT_.out (by kernel_rfl)) (fun _ _ _ h => h) (Or.inl ⟨by rfl, ?_⟩) ?_ ?_
     rotate_left
     ·intro w'
      go_simp
      with_reducible rfl
     rotate_left
     ·simp only [Gtr.ps]
      rfl
     refine pure_ (i := 16) (N := some 21) (v := ?_) (a' := ?_) (Gtr.bb 27 131071) rfl rfl (any_of HT_.out (by kernel_rfl)) (fun _ _ _ h => h) (Or.inl ⟨by rfl, ?_⟩) ?_ ?_
     rotate_left
     ·intro w'
      go_simp
      with_reducible rfl
     rotate_left
     ·simp only [Gtr.ps]
      rfl
     refine pure_ (i := 17) (N := some 22) (v := ?_) (a' := ?_) (Gtr.bb 27 262143) rfl rfl (any_of HT_.out (by kernel_rfl)) (fun _ _ _ h => h) (Or.inl ⟨by rfl, ?_⟩) ?_ ?_
     rotate_left
     ·intro w'
      go_simp
      with_reducible rfl
     rotate_left
     ·simp only [Gtr.ps]
      rfl
     refine take_ (i := 18) (N := some 23) (v := ?_) (a' := ?_) (Gtr.bb 27 524287) rfl rfl (take_ofW HT_.out HW_.out (by kernel_rfl)) (fun _ _ _ h => h) (Or.inl ⟨by rfl, ?_⟩) hHeld ?_ ?_
     rotate_left
     ·rintro w' ⟨s0, s1, s2, s3, s4, s5⟩
      go_simp
      with_reducible rfl
     rotate_left
     ·simp only [Gtr.ps]
      rfl
     refine one_ (i := 19) (N := some 24) (Gtr.bb 27 1048575) rfl rfl (one_of HT_.out (by kernel_rfl)) (by decide) (fun K hK => ?_)
     refine goes_ Tryz.func95 (by kernel_rfl) rfl #[.agg #[.int .i64 a0_0, .string a0_1, .string a0_2, .int .i64 a0_3, .int .i64 a0_4, .slice A0_5 l0_5.length c0_5]] (by rfl) rfl rfl (by (try simp only [List.map_toArray, List.map_cons, List.map_nil]); first | done | rfl | (simp only [List.length_drop, List.length_take]; rfl)) ?_
     with_reducible refine (spec_l15Word.calls k a0_0 a0_1 a0_2 a0_3 a0_4 _ _ l0_5 true _ ?side1 ?side2 A7.out).mono ?_
     (case side1 => repeat (first | exact (Kd.C_below HR0_5.out (Gtr.bw HB.out)) | (with_reducible refine Kd.C_alloc ?_ _) | (with_reducible refine Kd.C_drewN ?_ _) | (with_reducible refine Kd.C_drew ?_)))
     (case side2 => exact HC0_5.out)
     rintro e w11 ⟨rfl, hb⟩
     refine ⟨_, rfl, ?_⟩
     have n0_ := Aside0.mk (blk_below (g := gb831) (o := .cells #[.int .i64 a0_0, .string a0_1, .string a0_2, .int .i64 a0_3, .int .i64 a0_4, .slice A0_5 l0_5.length c0_5] 49 (0, 0)) (by (with_reducible repeat (first | refine blk_drewN ?_ _ | refine blk_drew ?_ | refine blk_alloc ?_ _)); exact BK831.out) hb)
     have n1_ := Aside0.mk (below_step (Gtr.bw HB.out) hb)
     clear BK831
     clear HB
     have BK831 := n0_
     have HB := n1_
     clear n0_ n1_
     (try clear hb);(try clear hb2);(try clear hk);(try clear hi)
     refine hK.out _ _ ⟨(blk_cell BK831.out 0).trans rfl, (blk_cell BK831.out 1).trans rfl, (blk_cell BK831.out 2).trans rfl, (blk_cell BK831.out 3).trans rfl, (blk_cell BK831.out 4).trans rfl, (blk_cell BK831.out 5).trans rfl⟩ (fun hHeld => ?_)
     clear hK K
     refine norm_ (a' := ?_) ?_ ?_
     rotate_left
     ·show Act.put _ (some 24) _ = _
      simp only [Gtr.ps]
      rfl
     refine pure_ (i := 20) (N := some 25) (v := ?_) (a' := ?_) (Gtr.bb 27 2097151) rfl rfl (any_of HT_.out (by kernel_rfl)) (fun _ _ _ h => h) (Or.inl ⟨by rfl, ?_⟩) ?_ ?_
     rotate_left
     ·intro w'
      go_simp
      with_reducible rfl
     rotate_left
     ·simp only [Gtr.ps]
      rfl
     refine pure_ (i := 21) (N := some 26) (v := ?_) (a' := ?_) (Gtr.bb 27 4194303) rfl rfl (any_of HT_.out (by kernel_rfl)) (fun _ _ _ h => h) (Or.inl ⟨by rfl, ?_⟩) ?_ ?_
     rotate_left
     ·intro w'
      go_simp
      with_reducible rfl
     rotate_left
     ·simp only [Gtr.ps]
      rfl
     refine pure_ (i := 22) (N := some 27) (v := ?_) (a' := ?_) (Gtr.bb 27 8388607) rfl rfl (any_of HT_.out (by kernel_rfl)) (fun _ _ _ h => h) (Or.inl ⟨by rfl, ?_⟩) ?_ ?_
     rotate_left
     ·intro w'
      go_simp
      with_reducible rfl
     rotate_left
     ·simp only [Gtr.ps]
      rfl
     refine take_ (i := 23) (N := some 28) (v := ?_) (a' := ?_) (Gtr.bb 27 16777215) rfl rfl (take_ofW HT_.out HW_.out (by kernel_rfl)) (fun _ _ _ h => h) (Or.inl ⟨by rfl, ?_⟩) hHeld ?_ ?_
     rotate_left
     ·rintro w' ⟨s0, s1, s2, s3, s4, s5⟩
      go_simp
      with_reducible rfl
     rotate_left
     ·simp only [Gtr.ps]
      rfl
     refine one_ (i := 24) (N := some 29) (Gtr.bb 27 33554431) rfl rfl (one_of HT_.out (by kernel_rfl)) (by decide) (fun K hK => ?_)
     refine goes_ Tryz.func109 (by kernel_rfl) rfl #[.agg #[.int .i64 a0_0, .string a0_1, .string a0_2, .int .i64 a0_3, .int .i64 a0_4, .slice A0_5 l0_5.length c0_5]] (by rfl) rfl rfl (by (try simp only [List.map_toArray, List.map_cons, List.map_nil]); first | done | rfl | (simp only [List.length_drop, List.length_take]; rfl)) ?_
     with_reducible refine (spec_l15Owned.calls a0_0 a0_1 a0_2 a0_3 a0_4 _ _ l0_5 t834 _ ?side1 ?side2 A9.out).mono ?_
     (case side1 => repeat (first | exact (Kd.C_below HR0_5.out HB.out) | (with_reducible refine Kd.C_alloc ?_ _) | (with_reducible refine Kd.C_drewN ?_ _) | (with_reducible refine Kd.C_drew ?_)))
     (case side2 => exact HC0_5.out)
     rintro e w12 ⟨rfl, hb⟩
     refine ⟨_, rfl, ?_⟩
     have n0_ := Aside0.mk (blk_below (g := gb831) (o := .cells #[.int .i64 a0_0, .string a0_1, .string a0_2, .int .i64 a0_3, .int .i64 a0_4, .slice A0_5 l0_5.length c0_5] 49 (0, 0)) (by (with_reducible repeat (first | refine blk_drewN ?_ _ | refine blk_drew ?_ | refine blk_alloc ?_ _)); exact BK831.out) hb)
     have n1_ := Aside0.mk (below_step (Gtr.bw HB.out) hb)
     clear BK831
     clear HB
     have BK831 := n0_
     have HB := n1_
     clear n0_ n1_
     (try clear hb);(try clear hb2);(try clear hk);(try clear hi)
     refine hK.out _ _ ⟨(blk_cell BK831.out 0).trans rfl, (blk_cell BK831.out 1).trans rfl, (blk_cell BK831.out 2).trans rfl, (blk_cell BK831.out 3).trans rfl, (blk_cell BK831.out 4).trans rfl, (blk_cell BK831.out 5).trans rfl⟩ (fun hHeld => ?_)
     clear hK K
     refine norm_ (a' := ?_) ?_ ?_
     rotate_left
     ·show Act.put _ (some 29) _ = _
      simp only [Gtr.ps]
      rfl
     refine pure_ (i := 25) (N := some 30) (v := ?_) (a' := ?_) (Gtr.bb 27 67108863) rfl rfl (any_of HT_.out (by kernel_rfl)) (fun _ _ _ h => h) (Or.inl ⟨by rfl, ?_⟩) ?_ ?_
     rotate_left
     ·intro w'
      go_simp
      with_reducible rfl
     rotate_left
     ·simp only [Gtr.ps]
      rfl
     refine pure_ (i := 26) (N := some 31) (v := ?_) (a' := ?_) (Gtr.bb 27 134217727) rfl rfl (any_of HT_.out (by kernel_rfl)) (fun _ _ _ h => h) (Or.inl ⟨by rfl, ?_⟩) ?_ ?_
     rotate_left
     ·intro w'
      go_simp
      with_reducible rfl
     rotate_left
     ·simp only [Gtr.ps]
      rfl
     refine done_ (done_of HT_.out (by kernel_rfl)) ?_
     try go_wp2
     go_meet
     case rel => exact ⟨_, (!t834), (by first | rfl | (simp; done) | (simp [*]; done)), H', ⟨by first | omega | exact Nat.le_refl _⟩, ⟨by (with_reducible repeat (first | refine blk_drewN ?_ _ | refine blk_drew ?_ | refine blk_alloc ?_ _)); exact BK831.out⟩, ⟨(Gtr.bw HB.out)⟩⟩
    ·replace c8 := Bool.eq_false_iff.mpr c8
     subst c8
     have H1 : (spec_GoodJob.j0 k true a0_0 a0_1 a0_2 a0_3 a0_4 l0_5) = some r := by rw [if_neg (show ¬ (false = true) by decide)] at H; exact H
     clear H
     have H := H1
     clear H1
     have H' := Aside0.mk H
     clear H
     try go_wp2
     have n0_ := Aside0.mk (blk_drew BK831.out)
     have n1_ := Aside0.mk (below_drew1 HB.out)
     clear BK831
     clear HB
     have BK831 := n0_
     have HB := n1_
     clear n0_ n1_
     refine start_ (n := 27) (S := fun w' => w'.cell? ⟨gb831, 0, none⟩ = some (.int .i64 a0_0) ∧ w'.cell? ⟨gb831, 1, none⟩ = some (.string a0_1) ∧ w'.cell? ⟨gb831, 2, none⟩ = some (.string a0_2) ∧ w'.cell? ⟨gb831, 3, none⟩ = some (.int .i64 a0_3) ∧ w'.cell? ⟨gb831, 4, none⟩ = some (.int .i64 a0_4) ∧ w'.cell? ⟨gb831, 5, none⟩ = some (.slice A0_5 l0_5.length c0_5)) (ds := []) (Gtr.bb 27 0) (by kernel_rfl) rfl rfl ⟨(blk_cell BK831.out 0).trans rfl, (blk_cell BK831.out 1).trans rfl, (blk_cell BK831.out 2).trans rfl, (blk_cell BK831.out 3).trans rfl, (blk_cell BK831.out 4).trans rfl, (blk_cell BK831.out 5).trans rfl⟩ (fun hHeld => ?_); refine with_tabW spec_GoodJob.tab1 spec_GoodJob.bits1 (fun HT_ HW_ => ?_)
     generalize w3.drew = w13 at BK831 HB hHeld ⊢
     refine pure_ (i := 0) (N := some 5) (v := ?_) (a' := ?_) (Gtr.bb 27 1) rfl rfl (any_of HT_.out (by kernel_rfl)) (fun _ _ _ h => h) (Or.inl ⟨by rfl, ?_⟩) ?_ ?_
     rotate_left
     ·intro w'
      go_simp
      with_reducible rfl
     rotate_left
     ·simp only [Gtr.ps]
      rfl
     refine take_ (i := 1) (N := some 6) (v := ?_) (a' := ?_) (Gtr.bb 27 3) rfl rfl (take_ofW HT_.out HW_.out (by kernel_rfl)) (fun _ _ _ h => h) (Or.inl ⟨by rfl, ?_⟩) hHeld ?_ ?_
     rotate_left
     ·rintro w' ⟨s0, s1, s2, s3, s4, s5⟩
      go_simp
      with_reducible rfl
     rotate_left
     ·simp only [Gtr.ps]
      rfl
     refine one_ (i := 2) (N := some 7) (Gtr.bb 27 7) rfl rfl (one_of HT_.out (by kernel_rfl)) (by decide) (fun K hK => ?_)
     refine goes_ Tryz.func108 (by kernel_rfl) rfl #[.int .i64 a0_0, .int .i64 1, .int .i64 6] (by rfl) rfl rfl (by (try simp only [List.map_toArray, List.map_cons, List.map_nil]); first | done | rfl | (simp only [List.length_drop, List.length_take]; rfl)) ?_
     with_reducible refine (spec_l1In.calls a0_0 1 6 true _ A4.out).mono ?_
     rintro e w' ⟨rfl, ⟨nd, rfl⟩⟩
     refine ⟨_, rfl, ?_⟩
     refine hK.out _ _ ⟨(blk_cell BK831.out 0).trans rfl, (blk_cell BK831.out 1).trans rfl, (blk_cell BK831.out 2).trans rfl, (blk_cell BK831.out 3).trans rfl, (blk_cell BK831.out 4).trans rfl, (blk_cell BK831.out 5).trans rfl⟩ (fun hHeld => ?_)
     clear hK K
     refine norm_ (a' := ?_) ?_ ?_
     rotate_left
     ·show Act.put _ (some 7) _ = _
      simp only [Gtr.ps]
      rfl
     refine pure_ (i := 3) (N := some 8) (v := ?_) (a' := ?_) (Gtr.bb 27 15) rfl rfl (any_of HT_.out (by kernel_rfl)) (fun _ _ _ h => h) (Or.inl ⟨by rfl, ?_⟩) ?_ ?_
     rotate_left
     ·intro w'
      go_simp
      with_reducible rfl
     rotate_left
     ·simp only [Gtr.ps]
      rfl
     refine pure_ (i := 4) (N := some 9) (v := ?_) (a' := ?_) (Gtr.bb 27 31) rfl rfl (any_of HT_.out (by kernel_rfl)) (fun _ _ _ h => h) (Or.inl ⟨by rfl, ?_⟩) ?_ ?_
     rotate_left
     ·intro w'
      go_simp
      with_reducible rfl
     rotate_left
     ·simp only [Gtr.ps]
      rfl
     refine pure_ (i := 5) (N := some 10) (v := ?_) (a' := ?_) (Gtr.bb 27 63) rfl rfl (any_of HT_.out (by kernel_rfl)) (fun _ _ _ h => h) (Or.inl ⟨by rfl, ?_⟩) ?_ ?_
     rotate_left
     ·intro w'
      go_simp
      with_reducible rfl
     rotate_left
     ·simp only [Gtr.ps]
      rfl
     refine take_ (i := 6) (N := some 11) (v := ?_) (a' := ?_) (Gtr.bb 27 127) rfl rfl (take_ofW HT_.out HW_.out (by kernel_rfl)) (fun _ _ _ h => h) (Or.inl ⟨by rfl, ?_⟩) hHeld ?_ ?_
     rotate_left
     ·rintro w' ⟨s0, s1, s2, s3, s4, s5⟩
      go_simp
      with_reducible rfl
     rotate_left
     ·simp only [Gtr.ps]
      rfl
     refine pure_ (i := 7) (N := some 12) (v := ?_) (a' := ?_) (Gtr.bb 27 255) rfl rfl (any_of HT_.out (by kernel_rfl)) (fun _ _ _ h => h) (Or.inl ⟨by rfl, ?_⟩) ?_ ?_
     rotate_left
     ·intro w'
      go_simp
      with_reducible rfl
     rotate_left
     ·simp only [Gtr.ps]
      rfl
     refine pure_ (i := 8) (N := some 13) (v := ?_) (a' := ?_) (Gtr.bb 27 511) rfl rfl (any_of HT_.out (by kernel_rfl)) (fun _ _ _ h => h) (Or.inl ⟨by rfl, ?_⟩) ?_ ?_
     rotate_left
     ·intro w'
      go_simp
      with_reducible rfl
     rotate_left
     ·simp only [Gtr.ps]
      rfl
     refine pure_ (i := 9) (N := some 14) (v := undef) (a' := ?_) (Gtr.bb 27 1023) rfl rfl (any_of HT_.out (by kernel_rfl)) (fun _ _ _ h => h) (Or.inr ⟨by rfl, rfl⟩) ?_ ?_
     rotate_left
     ·simp only [Gtr.ps]
      rfl
     refine pure_ (i := 10) (N := some 15) (v := undef) (a' := ?_) (Gtr.bb 27 2047) rfl rfl (any_of HT_.out (by kernel_rfl)) (fun _ _ _ h => h) (Or.inr ⟨by rfl, rfl⟩) ?_ ?_
     rotate_left
     ·simp only [Gtr.ps]
      rfl
     refine pure_ (i := 11) (N := some 16) (v := undef) (a' := ?_) (Gtr.bb 27 4095) rfl rfl (any_of HT_.out (by kernel_rfl)) (fun _ _ _ h => h) (Or.inr ⟨by rfl, rfl⟩) ?_ ?_
     rotate_left
     ·simp only [Gtr.ps]
      rfl
     refine pure_ (i := 12) (N := some 17) (v := undef) (a' := ?_) (Gtr.bb 27 8191) rfl rfl (any_of HT_.out (by kernel_rfl)) (fun _ _ _ h => h) (Or.inr ⟨by rfl, rfl⟩) ?_ ?_
     rotate_left
     ·simp only [Gtr.ps]
      rfl
     refine pure_ (i := 13) (N := some 18) (v := undef) (a' := ?_) (Gtr.bb 27 16383) rfl rfl (any_of HT_.out (by kernel_rfl)) (fun _ _ _ h => h) (Or.inr ⟨by rfl, rfl⟩) ?_ ?_
     rotate_left
     ·simp only [Gtr.ps]
      rfl
     refine pure_ (i := 14) (N := some 19) (v := undef) (a' := ?_) (Gtr.bb 27 32767) rfl rfl (any_of HT_.out (by kernel_rfl)) (fun _ _ _ h => h) (Or.inr ⟨by rfl, rfl⟩) ?_ ?_
     rotate_left
     ·simp only [Gtr.ps]
      rfl
     refine pure_ (i := 15) (N := some 20) (v := ?_) (a' := ?_) (Gtr.bb 27 65535) rfl rfl (any_of HT_.out (by kernel_rfl)) (fun _ _ _ h => h) (Or.inl ⟨by rfl, ?_⟩) ?_ ?_
     rotate_left
     ·intro w'
      go_simp
      with_reducible rfl
     rotate_left
     ·simp only [Gtr.ps]
      rfl
     refine pure_ (i := 16) (N := some 21) (v := ?_) (a' := ?_) (Gtr.bb 27 131071) rfl rfl (any_of HT_.out (by kernel_rfl)) (fun _ _ _ h => h) (Or.inl ⟨by rfl, ?_⟩) ?_ ?_
     rotate_left
     ·intro w'
      go_simp
      with_reducible rfl
     rotate_left
     ·simp only [Gtr.ps]
      rfl
     refine pure_ (i := 17) (N := some 22) (v := ?_) (a' := ?_) (Gtr.bb 27 262143) rfl rfl (any_of HT_.out (by kernel_rfl)) (fun _ _ _ h => h) (Or.inl ⟨by rfl, ?_⟩) ?_ ?_
     rotate_left
     ·intro w'
      go_simp
      with_reducible rfl
     rotate_left
     ·simp only [Gtr.ps]
      rfl
     refine take_ (i := 18) (N := some 23) (v := ?_) (a' := ?_) (Gtr.bb 27 524287) rfl rfl (take_ofW HT_.out HW_.out (by kernel_rfl)) (fun _ _ _ h => h) (Or.inl ⟨by rfl, ?_⟩) hHeld ?_ ?_
     rotate_left
     ·rintro w' ⟨s0, s1, s2, s3, s4, s5⟩
      go_simp
      with_reducible rfl
     rotate_left
     ·simp only [Gtr.ps]
      rfl
     refine one_ (i := 19) (N := some 24) (Gtr.bb 27 1048575) rfl rfl (one_of HT_.out (by kernel_rfl)) (by decide) (fun K hK => ?_)
     refine goes_ Tryz.func95 (by kernel_rfl) rfl #[.agg #[.int .i64 a0_0, .string a0_1, .string a0_2, .int .i64 a0_3, .int .i64 a0_4, .slice A0_5 l0_5.length c0_5]] (by rfl) rfl rfl (by (try simp only [List.map_toArray, List.map_cons, List.map_nil]); first | done | rfl | (simp only [List.length_drop, List.length_take]; rfl)) ?_
     with_reducible refine (spec_l15Word.calls k a0_0 a0_1 a0_2 a0_3 a0_4 _ _ l0_5 false _ ?side1 ?side2 A7.out).mono ?_
     (case side1 => repeat (first | exact (Kd.C_below HR0_5.out (Gtr.bw HB.out)) | (with_reducible refine Kd.C_alloc ?_ _) | (with_reducible refine Kd.C_drewN ?_ _) | (with_reducible refine Kd.C_drew ?_)))
     (case side2 => exact HC0_5.out)
     rintro e w14 ⟨rfl, hb⟩
     refine ⟨_, rfl, ?_⟩
     have n0_ := Aside0.mk (blk_below (g := gb831) (o := .cells #[.int .i64 a0_0, .string a0_1, .string a0_2, .int .i64 a0_3, .int .i64 a0_4, .slice A0_5 l0_5.length c0_5] 49 (0, 0)) (by (with_reducible repeat (first | refine blk_drewN ?_ _ | refine blk_drew ?_ | refine blk_alloc ?_ _)); exact BK831.out) hb)
     have n1_ := Aside0.mk (below_step (Gtr.bw HB.out) hb)
     clear BK831
     clear HB
     have BK831 := n0_
     have HB := n1_
     clear n0_ n1_
     (try clear hb);(try clear hb2);(try clear hk);(try clear hi)
     refine hK.out _ _ ⟨(blk_cell BK831.out 0).trans rfl, (blk_cell BK831.out 1).trans rfl, (blk_cell BK831.out 2).trans rfl, (blk_cell BK831.out 3).trans rfl, (blk_cell BK831.out 4).trans rfl, (blk_cell BK831.out 5).trans rfl⟩ (fun hHeld => ?_)
     clear hK K
     refine norm_ (a' := ?_) ?_ ?_
     rotate_left
     ·show Act.put _ (some 24) _ = _
      simp only [Gtr.ps]
      rfl
     refine pure_ (i := 20) (N := some 25) (v := ?_) (a' := ?_) (Gtr.bb 27 2097151) rfl rfl (any_of HT_.out (by kernel_rfl)) (fun _ _ _ h => h) (Or.inl ⟨by rfl, ?_⟩) ?_ ?_
     rotate_left
     ·intro w'
      go_simp
      with_reducible rfl
     rotate_left
     ·simp only [Gtr.ps]
      rfl
     refine pure_ (i := 21) (N := some 26) (v := ?_) (a' := ?_) (Gtr.bb 27 4194303) rfl rfl (any_of HT_.out (by kernel_rfl)) (fun _ _ _ h => h) (Or.inl ⟨by rfl, ?_⟩) ?_ ?_
     rotate_left
     ·intro w'
      go_simp
      with_reducible rfl
     rotate_left
     ·simp only [Gtr.ps]
      rfl
     refine pure_ (i := 22) (N := some 27) (v := ?_) (a' := ?_) (Gtr.bb 27 8388607) rfl rfl (any_of HT_.out (by kernel_rfl)) (fun _ _ _ h => h) (Or.inl ⟨by rfl, ?_⟩) ?_ ?_
     rotate_left
     ·intro w'
      go_simp
      with_reducible rfl
     rotate_left
     ·simp only [Gtr.ps]
      rfl
     refine pure_ (i := 23) (N := some 28) (v := undef) (a' := ?_) (Gtr.bb 27 16777215) rfl rfl (any_of HT_.out (by kernel_rfl)) (fun _ _ _ h => h) (Or.inr ⟨by rfl, rfl⟩) ?_ ?_
     rotate_left
     ·simp only [Gtr.ps]
      rfl
     refine pure_ (i := 24) (N := some 29) (v := undef) (a' := ?_) (Gtr.bb 27 33554431) rfl rfl (any_of HT_.out (by kernel_rfl)) (fun _ _ _ h => h) (Or.inr ⟨by rfl, rfl⟩) ?_ ?_
     rotate_left
     ·simp only [Gtr.ps]
      rfl
     refine pure_ (i := 25) (N := some 30) (v := undef) (a' := ?_) (Gtr.bb 27 67108863) rfl rfl (any_of HT_.out (by kernel_rfl)) (fun _ _ _ h => h) (Or.inr ⟨by rfl, rfl⟩) ?_ ?_
     rotate_left
     ·simp only [Gtr.ps]
      rfl
     refine pure_ (i := 26) (N := some 31) (v := ?_) (a' := ?_) (Gtr.bb 27 134217727) rfl rfl (any_of HT_.out (by kernel_rfl)) (fun _ _ _ h => h) (Or.inl ⟨by rfl, ?_⟩) ?_ ?_
     rotate_left
     ·intro w'
      go_simp
      with_reducible rfl
     rotate_left
     ·simp only [Gtr.ps]
      rfl
     refine done_ (done_of HT_.out (by kernel_rfl)) ?_
     try go_wp2
     go_meet
     case rel => exact ⟨_, (true), (by first | rfl | (simp; done) | (simp [*]; done)), H', ⟨by first | omega | exact Nat.le_refl _⟩, ⟨by (with_reducible repeat (first | refine blk_drewN ?_ _ | refine blk_drew ?_ | refine blk_alloc ?_ _)); exact BK831.out⟩, ⟨(Gtr.bw HB.out)⟩⟩
   ·rw [if_neg c6] at H
    have c6b0 : (a0_1.toList == ([] : List UInt8)) = false := beq_eq_false_iff_ne.mpr c6
    have c6b1 : (a0_1.toList != ([] : List UInt8)) = true := bne_iff_ne.mpr c6
    (first | rw [c6b0] | (simp only [i64_w, i32_w]; rw [c6b0]) | skip)
    replace H := Option.bind_eq_some_iff.mp H
    obtain ⟨t835, A150, H⟩ := H
    try dsimp only at H
    have A15 := Aside0.mk A150
    clear A150
    by_cases c16 : a0_1.toList = t835.toList
    ·rw [if_pos c16] at H
     have c16b0 : (a0_1.toList == t835.toList) = true := beq_iff_eq.mpr c16
     have c16b1 : (a0_1.toList != t835.toList) = false := bne_eq_false_iff_eq.mpr c16
     clear c16
     replace H := Option.bind_eq_some_iff.mp H
     obtain ⟨t836, A170, H⟩ := H
     try dsimp only at H
     have A17 := Aside0.mk A170
     clear A170
     by_cases c18 : t836 = true
     ·subst c18
      have H1 := H
      rw [if_pos rfl] at H1
      clear H
      have H := H1
      clear H1
      replace H := Option.bind_eq_some_iff.mp H
      obtain ⟨t837, A190, H⟩ := H
      try dsimp only at H
      have A19 := Aside0.mk A190
      clear A190
      have H' := Aside0.mk H
      clear H
      try go_wp2
      have n0_ := Aside0.mk (blk_drew BK831.out)
      have n1_ := Aside0.mk (below_drew1 HB.out)
      clear BK831
      clear HB
      have BK831 := n0_
      have HB := n1_
      clear n0_ n1_
      refine start_ (n := 27) (S := fun w' => w'.cell? ⟨gb831, 0, none⟩ = some (.int .i64 a0_0) ∧ w'.cell? ⟨gb831, 1, none⟩ = some (.string a0_1) ∧ w'.cell? ⟨gb831, 2, none⟩ = some (.string a0_2) ∧ w'.cell? ⟨gb831, 3, none⟩ = some (.int .i64 a0_3) ∧ w'.cell? ⟨gb831, 4, none⟩ = some (.int .i64 a0_4) ∧ w'.cell? ⟨gb831, 5, none⟩ = some (.slice A0_5 l0_5.length c0_5)) (ds := []) (Gtr.bb 27 0) (by kernel_rfl) rfl rfl ⟨(blk_cell BK831.out 0).trans rfl, (blk_cell BK831.out 1).trans rfl, (blk_cell BK831.out 2).trans rfl, (blk_cell BK831.out 3).trans rfl, (blk_cell BK831.out 4).trans rfl, (blk_cell BK831.out 5).trans rfl⟩ (fun hHeld => ?_); refine with_tabW spec_GoodJob.tab1 spec_GoodJob.bits1 (fun HT_ HW_ => ?_)
      generalize w3.drew = w20 at BK831 HB hHeld ⊢
      refine pure_ (i := 0) (N := some 5) (v := ?_) (a' := ?_) (Gtr.bb 27 1) rfl rfl (any_of HT_.out (by kernel_rfl)) (fun _ _ _ h => h) (Or.inl ⟨by rfl, ?_⟩) ?_ ?_
      rotate_left
      ·intro w'
       go_simp
       with_reducible rfl
      rotate_left
      ·simp only [Gtr.ps]
       rfl
      refine take_ (i := 1) (N := some 6) (v := ?_) (a' := ?_) (Gtr.bb 27 3) rfl rfl (take_ofW HT_.out HW_.out (by kernel_rfl)) (fun _ _ _ h => h) (Or.inl ⟨by rfl, ?_⟩) hHeld ?_ ?_
      rotate_left
      ·rintro w' ⟨s0, s1, s2, s3, s4, s5⟩
       go_simp
       with_reducible rfl
      rotate_left
      ·simp only [Gtr.ps]
       rfl
      refine one_ (i := 2) (N := some 7) (Gtr.bb 27 7) rfl rfl (one_of HT_.out (by kernel_rfl)) (by decide) (fun K hK => ?_)
      refine goes_ Tryz.func108 (by kernel_rfl) rfl #[.int .i64 a0_0, .int .i64 1, .int .i64 6] (by rfl) rfl rfl (by (try simp only [List.map_toArray, List.map_cons, List.map_nil]); first | done | rfl | (simp only [List.length_drop, List.length_take]; rfl)) ?_
      with_reducible refine (spec_l1In.calls a0_0 1 6 true _ A4.out).mono ?_
      rintro e w' ⟨rfl, ⟨nd, rfl⟩⟩
      refine ⟨_, rfl, ?_⟩
      refine hK.out _ _ ⟨(blk_cell BK831.out 0).trans rfl, (blk_cell BK831.out 1).trans rfl, (blk_cell BK831.out 2).trans rfl, (blk_cell BK831.out 3).trans rfl, (blk_cell BK831.out 4).trans rfl, (blk_cell BK831.out 5).trans rfl⟩ (fun hHeld => ?_)
      clear hK K
      refine norm_ (a' := ?_) ?_ ?_
      rotate_left
      ·show Act.put _ (some 7) _ = _
       simp only [Gtr.ps]
       rfl
      refine pure_ (i := 3) (N := some 8) (v := ?_) (a' := ?_) (Gtr.bb 27 15) rfl rfl (any_of HT_.out (by kernel_rfl)) (fun _ _ _ h => h) (Or.inl ⟨by rfl, ?_⟩) ?_ ?_
      rotate_left
      ·intro w'
       go_simp
       with_reducible rfl
      rotate_left
      ·simp only [Gtr.ps]
       rfl
      refine pure_ (i := 4) (N := some 9) (v := ?_) (a' := ?_) (Gtr.bb 27 31) rfl rfl (any_of HT_.out (by kernel_rfl)) (fun _ _ _ h => h) (Or.inl ⟨by rfl, ?_⟩) ?_ ?_
      rotate_left
      ·intro w'
       go_simp
       with_reducible rfl
      rotate_left
      ·simp only [Gtr.ps]
       rfl
      refine pure_ (i := 5) (N := some 10) (v := ?_) (a' := ?_) (Gtr.bb 27 63) rfl rfl (any_of HT_.out (by kernel_rfl)) (fun _ _ _ h => h) (Or.inl ⟨by rfl, ?_⟩) ?_ ?_
      rotate_left
      ·intro w'
       go_simp
       with_reducible rfl
      rotate_left
      ·simp only [Gtr.ps]
       rfl
      refine take_ (i := 6) (N := some 11) (v := ?_) (a' := ?_) (Gtr.bb 27 127) rfl rfl (take_ofW HT_.out HW_.out (by kernel_rfl)) (fun _ _ _ h => h) (Or.inl ⟨by rfl, ?_⟩) hHeld ?_ ?_
      rotate_left
      ·rintro w' ⟨s0, s1, s2, s3, s4, s5⟩
       go_simp
       with_reducible rfl
      rotate_left
      ·simp only [Gtr.ps]
       rfl
      refine pure_ (i := 7) (N := some 12) (v := ?_) (a' := ?_) (Gtr.bb 27 255) rfl rfl (any_of HT_.out (by kernel_rfl)) (fun _ _ _ h => h) (Or.inl ⟨by rfl, ?_⟩) ?_ ?_
      rotate_left
      ·intro w'
       go_simp
       with_reducible rfl
      rotate_left
      ·simp only [Gtr.ps]
       rfl
      refine pure_ (i := 8) (N := some 13) (v := ?_) (a' := ?_) (Gtr.bb 27 511) rfl rfl (any_of HT_.out (by kernel_rfl)) (fun _ _ _ h => h) (Or.inl ⟨by rfl, ?_⟩) ?_ ?_
      rotate_left
      ·intro w'
       go_simp
       with_reducible rfl
      rotate_left
      ·simp only [Gtr.ps]
       rfl
      refine pure_ (i := 9) (N := some 14) (v := ?_) (a' := ?_) (Gtr.bb 27 1023) rfl rfl (any_of HT_.out (by kernel_rfl)) (fun _ _ _ h => h) (Or.inl ⟨by rfl, ?_⟩) ?_ ?_
      rotate_left
      ·intro w'
       go_simp
       with_reducible rfl
      rotate_left
      ·simp only [Gtr.ps]
       rfl
      refine pure_ (i := 11) (N := some 16) (v := ?_) (a' := ?_) (Gtr.bb 27 3071) rfl rfl (any_of HT_.out (by kernel_rfl)) (fun _ _ _ h => h) (Or.inl ⟨by rfl, ?_⟩) ?_ ?_
      rotate_left
      ·intro w'
       go_simp
       with_reducible rfl
      rotate_left
      ·simp only [Gtr.ps]
       rfl
      refine take_ (i := 10) (N := some 15) (v := ?_) (a' := ?_) (Gtr.bb 27 4095) rfl rfl (take_ofW HT_.out HW_.out (by kernel_rfl)) (fun _ _ _ h => h) (Or.inl ⟨by rfl, ?_⟩) hHeld ?_ ?_
      rotate_left
      ·rintro w' ⟨s0, s1, s2, s3, s4, s5⟩
       go_simp
       with_reducible rfl
      rotate_left
      ·simp only [Gtr.ps]
       rfl
      refine take_ (i := 12) (N := some 17) (v := ?_) (a' := ?_) (Gtr.bb 27 8191) rfl rfl (take_ofW HT_.out HW_.out (by kernel_rfl)) (fun _ _ _ h => h) (Or.inl ⟨by rfl, ?_⟩) hHeld ?_ ?_
      rotate_left
      ·rintro w' ⟨s0, s1, s2, s3, s4, s5⟩
       go_simp
       with_reducible rfl
      rotate_left
      ·simp only [Gtr.ps]
       rfl
      refine one_ (i := 13) (N := some 18) (Gtr.bb 27 16383) rfl rfl (one_of HT_.out (by kernel_rfl)) (by decide) (fun K hK => ?_)
      refine goes_ Tryz.func94 (by kernel_rfl) rfl #[.int .i64 a0_0] (by rfl) rfl rfl (by (try simp only [List.map_toArray, List.map_cons, List.map_nil]); first | done | rfl | (simp only [List.length_drop, List.length_take]; rfl)) ?_
      with_reducible refine (spec_l15Flag.calls a0_0 t835 _ A15.out).mono ?_
      rintro e w21 ⟨rfl, hb⟩
      refine ⟨_, rfl, ?_⟩
      have n0_ := Aside0.mk (blk_below (g := gb831) (o := .cells #[.int .i64 a0_0, .string a0_1, .string a0_2, .int .i64 a0_3, .int .i64 a0_4, .slice A0_5 l0_5.length c0_5] 49 (0, 0)) (by (with_reducible repeat (first | refine blk_drewN ?_ _ | refine blk_drew ?_ | refine blk_alloc ?_ _)); exact BK831.out) hb)
      have n1_ := Aside0.mk (below_step (Gtr.bw HB.out) hb)
      clear BK831
      clear HB
      have BK831 := n0_
      have HB := n1_
      clear n0_ n1_
      (try clear hb);(try clear hb2);(try clear hk);(try clear hi)
      refine hK.out _ _ ⟨(blk_cell BK831.out 0).trans rfl, (blk_cell BK831.out 1).trans rfl, (blk_cell BK831.out 2).trans rfl, (blk_cell BK831.out 3).trans rfl, (blk_cell BK831.out 4).trans rfl, (blk_cell BK831.out 5).trans rfl⟩ (fun hHeld => ?_)
      clear hK K
      refine norm_ (a' := ?_) ?_ ?_
      rotate_left
      ·show Act.put _ (some 18) _ = _
       simp only [Gtr.ps]
       rfl
      refine pure_ (i := 14) (N := some 19) (v := ?_) (a' := ?_) (Gtr.bb 27 32767) rfl rfl (any_of HT_.out (by kernel_rfl)) (fun _ _ _ h => h) (Or.inl ⟨by rfl, ?_⟩) ?_ ?_
      rotate_left
      ·intro w'
       go_simp
       with_reducible rfl
      rotate_left
      ·simp only [Gtr.ps]
       rfl
      refine pure_ (i := 15) (N := some 20) (v := ?_) (a' := ?_) (Gtr.bb 27 65535) rfl rfl (any_of HT_.out (by kernel_rfl)) (fun _ _ _ h => h) (Or.inl ⟨by rfl, ?_⟩) ?_ ?_
      rotate_left
      ·intro w'
       go_simp
       with_reducible rfl
      rotate_left
      ·simp only [Gtr.ps]
       rfl
      refine pure_ (i := 16) (N := some 21) (v := ?_) (a' := ?_) (Gtr.bb 27 131071) rfl rfl (any_of HT_.out (by kernel_rfl)) (fun _ _ _ h => h) (Or.inl ⟨by rfl, ?_⟩) ?_ ?_
      rotate_left
      ·intro w'
       go_simp
       with_reducible rfl
      rotate_left
      ·simp only [Gtr.ps]
       rfl
      refine pure_ (i := 17) (N := some 22) (v := ?_) (a' := ?_) (Gtr.bb 27 262143) rfl rfl (any_of HT_.out (by kernel_rfl)) (fun _ _ _ h => h) (Or.inl ⟨by rfl, ?_⟩) ?_ ?_
      rotate_left
      ·intro w'
       go_simp
       with_reducible rfl
      rotate_left
      ·simp only [Gtr.ps]
       rfl
      refine take_ (i := 18) (N := some 23) (v := ?_) (a' := ?_) (Gtr.bb 27 524287) rfl rfl (take_ofW HT_.out HW_.out (by kernel_rfl)) (fun _ _ _ h => h) (Or.inl ⟨by rfl, ?_⟩) hHeld ?_ ?_
      rotate_left
      ·rintro w' ⟨s0, s1, s2, s3, s4, s5⟩
       go_simp
       with_reducible rfl
      rotate_left
      ·simp only [Gtr.ps]
       rfl
      refine one_ (i := 19) (N := some 24) (Gtr.bb 27 1048575) rfl rfl (one_of HT_.out (by kernel_rfl)) (by decide) (fun K hK => ?_)
      refine goes_ Tryz.func95 (by kernel_rfl) rfl #[.agg #[.int .i64 a0_0, .string a0_1, .string a0_2, .int .i64 a0_3, .int .i64 a0_4, .slice A0_5 l0_5.length c0_5]] (by rfl) rfl rfl (by (try simp only [List.map_toArray, List.map_cons, List.map_nil]); first | done | rfl | (simp only [List.length_drop, List.length_take]; rfl)) ?_
      with_reducible refine (spec_l15Word.calls k a0_0 a0_1 a0_2 a0_3 a0_4 _ _ l0_5 true _ ?side1 ?side2 A17.out).mono ?_
      (case side1 => repeat (first | exact (Kd.C_below HR0_5.out HB.out) | (with_reducible refine Kd.C_alloc ?_ _) | (with_reducible refine Kd.C_drewN ?_ _) | (with_reducible refine Kd.C_drew ?_)))
      (case side2 => exact HC0_5.out)
      rintro e w22 ⟨rfl, hb⟩
      refine ⟨_, rfl, ?_⟩
      have n0_ := Aside0.mk (blk_below (g := gb831) (o := .cells #[.int .i64 a0_0, .string a0_1, .string a0_2, .int .i64 a0_3, .int .i64 a0_4, .slice A0_5 l0_5.length c0_5] 49 (0, 0)) (by (with_reducible repeat (first | refine blk_drewN ?_ _ | refine blk_drew ?_ | refine blk_alloc ?_ _)); exact BK831.out) hb)
      have n1_ := Aside0.mk (below_step (Gtr.bw HB.out) hb)
      clear BK831
      clear HB
      have BK831 := n0_
      have HB := n1_
      clear n0_ n1_
      (try clear hb);(try clear hb2);(try clear hk);(try clear hi)
      refine hK.out _ _ ⟨(blk_cell BK831.out 0).trans rfl, (blk_cell BK831.out 1).trans rfl, (blk_cell BK831.out 2).trans rfl, (blk_cell BK831.out 3).trans rfl, (blk_cell BK831.out 4).trans rfl, (blk_cell BK831.out 5).trans rfl⟩ (fun hHeld => ?_)
      clear hK K
      refine norm_ (a' := ?_) ?_ ?_
      rotate_left
      ·show Act.put _ (some 24) _ = _
       simp only [Gtr.ps]
       rfl
      refine pure_ (i := 20) (N := some 25) (v := ?_) (a' := ?_) (Gtr.bb 27 2097151) rfl rfl (any_of HT_.out (by kernel_rfl)) (fun _ _ _ h => h) (Or.inl ⟨by rfl, ?_⟩) ?_ ?_
      rotate_left
      ·intro w'
       go_simp
       with_reducible rfl
      rotate_left
      ·simp only [Gtr.ps]
       rfl
      refine pure_ (i := 21) (N := some 26) (v := ?_) (a' := ?_) (Gtr.bb 27 4194303) rfl rfl (any_of HT_.out (by kernel_rfl)) (fun _ _ _ h => h) (Or.inl ⟨by rfl, ?_⟩) ?_ ?_
      rotate_left
      ·intro w'
       go_simp
       with_reducible rfl
      rotate_left
      ·simp only [Gtr.ps]
       rfl
      refine pure_ (i := 22) (N := some 27) (v := ?_) (a' := ?_) (Gtr.bb 27 8388607) rfl rfl (any_of HT_.out (by kernel_rfl)) (fun _ _ _ h => h) (Or.inl ⟨by rfl, ?_⟩) ?_ ?_
      rotate_left
      ·intro w'
       go_simp
       with_reducible rfl
      rotate_left
      ·simp only [Gtr.ps]
       rfl
      refine take_ (i := 23) (N := some 28) (v := ?_) (a' := ?_) (Gtr.bb 27 16777215) rfl rfl (take_ofW HT_.out HW_.out (by kernel_rfl)) (fun _ _ _ h => h) (Or.inl ⟨by rfl, ?_⟩) hHeld ?_ ?_
      rotate_left
      ·rintro w' ⟨s0, s1, s2, s3, s4, s5⟩
       go_simp
       with_reducible rfl
      rotate_left
      ·simp only [Gtr.ps]
       rfl
      refine one_ (i := 24) (N := some 29) (Gtr.bb 27 33554431) rfl rfl (one_of HT_.out (by kernel_rfl)) (by decide) (fun K hK => ?_)
      refine goes_ Tryz.func109 (by kernel_rfl) rfl #[.agg #[.int .i64 a0_0, .string a0_1, .string a0_2, .int .i64 a0_3, .int .i64 a0_4, .slice A0_5 l0_5.length c0_5]] (by rfl) rfl rfl (by (try simp only [List.map_toArray, List.map_cons, List.map_nil]); first | done | rfl | (simp only [List.length_drop, List.length_take]; rfl)) ?_
      with_reducible refine (spec_l15Owned.calls a0_0 a0_1 a0_2 a0_3 a0_4 _ _ l0_5 t837 _ ?side1 ?side2 A19.out).mono ?_
      (case side1 => repeat (first | exact (Kd.C_below HR0_5.out HB.out) | (with_reducible refine Kd.C_alloc ?_ _) | (with_reducible refine Kd.C_drewN ?_ _) | (with_reducible refine Kd.C_drew ?_)))
      (case side2 => exact HC0_5.out)
      rintro e w23 ⟨rfl, hb⟩
      refine ⟨_, rfl, ?_⟩
      have n0_ := Aside0.mk (blk_below (g := gb831) (o := .cells #[.int .i64 a0_0, .string a0_1, .string a0_2, .int .i64 a0_3, .int .i64 a0_4, .slice A0_5 l0_5.length c0_5] 49 (0, 0)) (by (with_reducible repeat (first | refine blk_drewN ?_ _ | refine blk_drew ?_ | refine blk_alloc ?_ _)); exact BK831.out) hb)
      have n1_ := Aside0.mk (below_step (Gtr.bw HB.out) hb)
      clear BK831
      clear HB
      have BK831 := n0_
      have HB := n1_
      clear n0_ n1_
      (try clear hb);(try clear hb2);(try clear hk);(try clear hi)
      refine hK.out _ _ ⟨(blk_cell BK831.out 0).trans rfl, (blk_cell BK831.out 1).trans rfl, (blk_cell BK831.out 2).trans rfl, (blk_cell BK831.out 3).trans rfl, (blk_cell BK831.out 4).trans rfl, (blk_cell BK831.out 5).trans rfl⟩ (fun hHeld => ?_)
      clear hK K
      refine norm_ (a' := ?_) ?_ ?_
      rotate_left
      ·show Act.put _ (some 29) _ = _
       simp only [Gtr.ps]
       rfl
      refine pure_ (i := 25) (N := some 30) (v := ?_) (a' := ?_) (Gtr.bb 27 67108863) rfl rfl (any_of HT_.out (by kernel_rfl)) (fun _ _ _ h => h) (Or.inl ⟨by rfl, ?_⟩) ?_ ?_
      rotate_left
      ·intro w'
       go_simp
       with_reducible rfl
      rotate_left
      ·simp only [Gtr.ps]
       rfl
      refine pure_ (i := 26) (N := some 31) (v := ?_) (a' := ?_) (Gtr.bb 27 134217727) rfl rfl (any_of HT_.out (by kernel_rfl)) (fun _ _ _ h => h) (Or.inl ⟨by rfl, ?_⟩) ?_ ?_
      rotate_left
      ·intro w'
       go_simp
       with_reducible rfl
      rotate_left
      ·simp only [Gtr.ps]
       rfl
      refine done_ (done_of HT_.out (by kernel_rfl)) ?_
      try go_wp2
      go_meet
      case rel => exact ⟨_, (!t837), (by first | rfl | (simp; done) | (simp [*]; done)), H', ⟨by first | omega | exact Nat.le_refl _⟩, ⟨by (with_reducible repeat (first | refine blk_drewN ?_ _ | refine blk_drew ?_ | refine blk_alloc ?_ _)); exact BK831.out⟩, ⟨(Gtr.bw HB.out)⟩⟩
     ·replace c18 := Bool.eq_false_iff.mpr c18
      subst c18
      have H1 : (spec_GoodJob.j0 k true a0_0 a0_1 a0_2 a0_3 a0_4 l0_5) = some r := by rw [if_neg (show ¬ (false = true) by decide)] at H; exact H
      clear H
      have H := H1
      clear H1
      have H' := Aside0.mk H
      clear H
      try go_wp2
      have n0_ := Aside0.mk (blk_drew BK831.out)
      have n1_ := Aside0.mk (below_drew1 HB.out)
      clear BK831
      clear HB
      have BK831 := n0_
      have HB := n1_
      clear n0_ n1_
      refine start_ (n := 27) (S := fun w' => w'.cell? ⟨gb831, 0, none⟩ = some (.int .i64 a0_0) ∧ w'.cell? ⟨gb831, 1, none⟩ = some (.string a0_1) ∧ w'.cell? ⟨gb831, 2, none⟩ = some (.string a0_2) ∧ w'.cell? ⟨gb831, 3, none⟩ = some (.int .i64 a0_3) ∧ w'.cell? ⟨gb831, 4, none⟩ = some (.int .i64 a0_4) ∧ w'.cell? ⟨gb831, 5, none⟩ = some (.slice A0_5 l0_5.length c0_5)) (ds := []) (Gtr.bb 27 0) (by kernel_rfl) rfl rfl ⟨(blk_cell BK831.out 0).trans rfl, (blk_cell BK831.out 1).trans rfl, (blk_cell BK831.out 2).trans rfl, (blk_cell BK831.out 3).trans rfl, (blk_cell BK831.out 4).trans rfl, (blk_cell BK831.out 5).trans rfl⟩ (fun hHeld => ?_); refine with_tabW spec_GoodJob.tab1 spec_GoodJob.bits1 (fun HT_ HW_ => ?_)
      generalize w3.drew = w24 at BK831 HB hHeld ⊢
      refine pure_ (i := 0) (N := some 5) (v := ?_) (a' := ?_) (Gtr.bb 27 1) rfl rfl (any_of HT_.out (by kernel_rfl)) (fun _ _ _ h => h) (Or.inl ⟨by rfl, ?_⟩) ?_ ?_
      rotate_left
      ·intro w'
       go_simp
       with_reducible rfl
      rotate_left
      ·simp only [Gtr.ps]
       rfl
      refine take_ (i := 1) (N := some 6) (v := ?_) (a' := ?_) (Gtr.bb 27 3) rfl rfl (take_ofW HT_.out HW_.out (by kernel_rfl)) (fun _ _ _ h => h) (Or.inl ⟨by rfl, ?_⟩) hHeld ?_ ?_
      rotate_left
      ·rintro w' ⟨s0, s1, s2, s3, s4, s5⟩
       go_simp
       with_reducible rfl
      rotate_left
      ·simp only [Gtr.ps]
       rfl
      refine one_ (i := 2) (N := some 7) (Gtr.bb 27 7) rfl rfl (one_of HT_.out (by kernel_rfl)) (by decide) (fun K hK => ?_)
      refine goes_ Tryz.func108 (by kernel_rfl) rfl #[.int .i64 a0_0, .int .i64 1, .int .i64 6] (by rfl) rfl rfl (by (try simp only [List.map_toArray, List.map_cons, List.map_nil]); first | done | rfl | (simp only [List.length_drop, List.length_take]; rfl)) ?_
      with_reducible refine (spec_l1In.calls a0_0 1 6 true _ A4.out).mono ?_
      rintro e w' ⟨rfl, ⟨nd, rfl⟩⟩
      refine ⟨_, rfl, ?_⟩
      refine hK.out _ _ ⟨(blk_cell BK831.out 0).trans rfl, (blk_cell BK831.out 1).trans rfl, (blk_cell BK831.out 2).trans rfl, (blk_cell BK831.out 3).trans rfl, (blk_cell BK831.out 4).trans rfl, (blk_cell BK831.out 5).trans rfl⟩ (fun hHeld => ?_)
      clear hK K
      refine norm_ (a' := ?_) ?_ ?_
      rotate_left
      ·show Act.put _ (some 7) _ = _
       simp only [Gtr.ps]
       rfl
      refine pure_ (i := 3) (N := some 8) (v := ?_) (a' := ?_) (Gtr.bb 27 15) rfl rfl (any_of HT_.out (by kernel_rfl)) (fun _ _ _ h => h) (Or.inl ⟨by rfl, ?_⟩) ?_ ?_
      rotate_left
      ·intro w'
       go_simp
       with_reducible rfl
      rotate_left
      ·simp only [Gtr.ps]
       rfl
      refine pure_ (i := 4) (N := some 9) (v := ?_) (a' := ?_) (Gtr.bb 27 31) rfl rfl (any_of HT_.out (by kernel_rfl)) (fun _ _ _ h => h) (Or.inl ⟨by rfl, ?_⟩) ?_ ?_
      rotate_left
      ·intro w'
       go_simp
       with_reducible rfl
      rotate_left
      ·simp only [Gtr.ps]
       rfl
      refine pure_ (i := 5) (N := some 10) (v := ?_) (a' := ?_) (Gtr.bb 27 63) rfl rfl (any_of HT_.out (by kernel_rfl)) (fun _ _ _ h => h) (Or.inl ⟨by rfl, ?_⟩) ?_ ?_
      rotate_left
      ·intro w'
       go_simp
       with_reducible rfl
      rotate_left
      ·simp only [Gtr.ps]
       rfl
      refine take_ (i := 6) (N := some 11) (v := ?_) (a' := ?_) (Gtr.bb 27 127) rfl rfl (take_ofW HT_.out HW_.out (by kernel_rfl)) (fun _ _ _ h => h) (Or.inl ⟨by rfl, ?_⟩) hHeld ?_ ?_
      rotate_left
      ·rintro w' ⟨s0, s1, s2, s3, s4, s5⟩
       go_simp
       with_reducible rfl
      rotate_left
      ·simp only [Gtr.ps]
       rfl
      refine pure_ (i := 7) (N := some 12) (v := ?_) (a' := ?_) (Gtr.bb 27 255) rfl rfl (any_of HT_.out (by kernel_rfl)) (fun _ _ _ h => h) (Or.inl ⟨by rfl, ?_⟩) ?_ ?_
      rotate_left
      ·intro w'
       go_simp
       with_reducible rfl
      rotate_left
      ·simp only [Gtr.ps]
       rfl
      refine pure_ (i := 8) (N := some 13) (v := ?_) (a' := ?_) (Gtr.bb 27 511) rfl rfl (any_of HT_.out (by kernel_rfl)) (fun _ _ _ h => h) (Or.inl ⟨by rfl, ?_⟩) ?_ ?_
      rotate_left
      ·intro w'
       go_simp
       with_reducible rfl
      rotate_left
      ·simp only [Gtr.ps]
       rfl
      refine pure_ (i := 9) (N := some 14) (v := ?_) (a' := ?_) (Gtr.bb 27 1023) rfl rfl (any_of HT_.out (by kernel_rfl)) (fun _ _ _ h => h) (Or.inl ⟨by rfl, ?_⟩) ?_ ?_
      rotate_left
      ·intro w'
       go_simp
       with_reducible rfl
      rotate_left
      ·simp only [Gtr.ps]
       rfl
      refine pure_ (i := 11) (N := some 16) (v := ?_) (a' := ?_) (Gtr.bb 27 3071) rfl rfl (any_of HT_.out (by kernel_rfl)) (fun _ _ _ h => h) (Or.inl ⟨by rfl, ?_⟩) ?_ ?_
      rotate_left
      ·intro w'
       go_simp
       with_reducible rfl
      rotate_left
      ·simp only [Gtr.ps]
       rfl
      refine take_ (i := 10) (N := some 15) (v := ?_) (a' := ?_) (Gtr.bb 27 4095) rfl rfl (take_ofW HT_.out HW_.out (by kernel_rfl)) (fun _ _ _ h => h) (Or.inl ⟨by rfl, ?_⟩) hHeld ?_ ?_
      rotate_left
      ·rintro w' ⟨s0, s1, s2, s3, s4, s5⟩
       go_simp
       with_reducible rfl
      rotate_left
      ·simp only [Gtr.ps]
       rfl
      refine take_ (i := 12) (N := some 17) (v := ?_) (a' := ?_) (Gtr.bb 27 8191) rfl rfl (take_ofW HT_.out HW_.out (by kernel_rfl)) (fun _ _ _ h => h) (Or.inl ⟨by rfl, ?_⟩) hHeld ?_ ?_
      rotate_left
      ·rintro w' ⟨s0, s1, s2, s3, s4, s5⟩
       go_simp
       with_reducible rfl
      rotate_left
      ·simp only [Gtr.ps]
       rfl
      refine one_ (i := 13) (N := some 18) (Gtr.bb 27 16383) rfl rfl (one_of HT_.out (by kernel_rfl)) (by decide) (fun K hK => ?_)
      refine goes_ Tryz.func94 (by kernel_rfl) rfl #[.int .i64 a0_0] (by rfl) rfl rfl (by (try simp only [List.map_toArray, List.map_cons, List.map_nil]); first | done | rfl | (simp only [List.length_drop, List.length_take]; rfl)) ?_
      with_reducible refine (spec_l15Flag.calls a0_0 t835 _ A15.out).mono ?_
      rintro e w25 ⟨rfl, hb⟩
      refine ⟨_, rfl, ?_⟩
      have n0_ := Aside0.mk (blk_below (g := gb831) (o := .cells #[.int .i64 a0_0, .string a0_1, .string a0_2, .int .i64 a0_3, .int .i64 a0_4, .slice A0_5 l0_5.length c0_5] 49 (0, 0)) (by (with_reducible repeat (first | refine blk_drewN ?_ _ | refine blk_drew ?_ | refine blk_alloc ?_ _)); exact BK831.out) hb)
      have n1_ := Aside0.mk (below_step (Gtr.bw HB.out) hb)
      clear BK831
      clear HB
      have BK831 := n0_
      have HB := n1_
      clear n0_ n1_
      (try clear hb);(try clear hb2);(try clear hk);(try clear hi)
      refine hK.out _ _ ⟨(blk_cell BK831.out 0).trans rfl, (blk_cell BK831.out 1).trans rfl, (blk_cell BK831.out 2).trans rfl, (blk_cell BK831.out 3).trans rfl, (blk_cell BK831.out 4).trans rfl, (blk_cell BK831.out 5).trans rfl⟩ (fun hHeld => ?_)
      clear hK K
      refine norm_ (a' := ?_) ?_ ?_
      rotate_left
      ·show Act.put _ (some 18) _ = _
       simp only [Gtr.ps]
       rfl
      refine pure_ (i := 14) (N := some 19) (v := ?_) (a' := ?_) (Gtr.bb 27 32767) rfl rfl (any_of HT_.out (by kernel_rfl)) (fun _ _ _ h => h) (Or.inl ⟨by rfl, ?_⟩) ?_ ?_
      rotate_left
      ·intro w'
       go_simp
       with_reducible rfl
      rotate_left
      ·simp only [Gtr.ps]
       rfl
      refine pure_ (i := 15) (N := some 20) (v := ?_) (a' := ?_) (Gtr.bb 27 65535) rfl rfl (any_of HT_.out (by kernel_rfl)) (fun _ _ _ h => h) (Or.inl ⟨by rfl, ?_⟩) ?_ ?_
      rotate_left
      ·intro w'
       go_simp
       with_reducible rfl
      rotate_left
      ·simp only [Gtr.ps]
       rfl
      refine pure_ (i := 16) (N := some 21) (v := ?_) (a' := ?_) (Gtr.bb 27 131071) rfl rfl (any_of HT_.out (by kernel_rfl)) (fun _ _ _ h => h) (Or.inl ⟨by rfl, ?_⟩) ?_ ?_
      rotate_left
      ·intro w'
       go_simp
       with_reducible rfl
      rotate_left
      ·simp only [Gtr.ps]
       rfl
      refine pure_ (i := 17) (N := some 22) (v := ?_) (a' := ?_) (Gtr.bb 27 262143) rfl rfl (any_of HT_.out (by kernel_rfl)) (fun _ _ _ h => h) (Or.inl ⟨by rfl, ?_⟩) ?_ ?_
      rotate_left
      ·intro w'
       go_simp
       with_reducible rfl
      rotate_left
      ·simp only [Gtr.ps]
       rfl
      refine take_ (i := 18) (N := some 23) (v := ?_) (a' := ?_) (Gtr.bb 27 524287) rfl rfl (take_ofW HT_.out HW_.out (by kernel_rfl)) (fun _ _ _ h => h) (Or.inl ⟨by rfl, ?_⟩) hHeld ?_ ?_
      rotate_left
      ·rintro w' ⟨s0, s1, s2, s3, s4, s5⟩
       go_simp
       with_reducible rfl
      rotate_left
      ·simp only [Gtr.ps]
       rfl
      refine one_ (i := 19) (N := some 24) (Gtr.bb 27 1048575) rfl rfl (one_of HT_.out (by kernel_rfl)) (by decide) (fun K hK => ?_)
      refine goes_ Tryz.func95 (by kernel_rfl) rfl #[.agg #[.int .i64 a0_0, .string a0_1, .string a0_2, .int .i64 a0_3, .int .i64 a0_4, .slice A0_5 l0_5.length c0_5]] (by rfl) rfl rfl (by (try simp only [List.map_toArray, List.map_cons, List.map_nil]); first | done | rfl | (simp only [List.length_drop, List.length_take]; rfl)) ?_
      with_reducible refine (spec_l15Word.calls k a0_0 a0_1 a0_2 a0_3 a0_4 _ _ l0_5 false _ ?side1 ?side2 A17.out).mono ?_
      (case side1 => repeat (first | exact (Kd.C_below HR0_5.out HB.out) | (with_reducible refine Kd.C_alloc ?_ _) | (with_reducible refine Kd.C_drewN ?_ _) | (with_reducible refine Kd.C_drew ?_)))
      (case side2 => exact HC0_5.out)
      rintro e w26 ⟨rfl, hb⟩
      refine ⟨_, rfl, ?_⟩
      have n0_ := Aside0.mk (blk_below (g := gb831) (o := .cells #[.int .i64 a0_0, .string a0_1, .string a0_2, .int .i64 a0_3, .int .i64 a0_4, .slice A0_5 l0_5.length c0_5] 49 (0, 0)) (by (with_reducible repeat (first | refine blk_drewN ?_ _ | refine blk_drew ?_ | refine blk_alloc ?_ _)); exact BK831.out) hb)
      have n1_ := Aside0.mk (below_step (Gtr.bw HB.out) hb)
      clear BK831
      clear HB
      have BK831 := n0_
      have HB := n1_
      clear n0_ n1_
      (try clear hb);(try clear hb2);(try clear hk);(try clear hi)
      refine hK.out _ _ ⟨(blk_cell BK831.out 0).trans rfl, (blk_cell BK831.out 1).trans rfl, (blk_cell BK831.out 2).trans rfl, (blk_cell BK831.out 3).trans rfl, (blk_cell BK831.out 4).trans rfl, (blk_cell BK831.out 5).trans rfl⟩ (fun hHeld => ?_)
      clear hK K
      refine norm_ (a' := ?_) ?_ ?_
      rotate_left
      ·show Act.put _ (some 24) _ = _
       simp only [Gtr.ps]
       rfl
      refine pure_ (i := 20) (N := some 25) (v := ?_) (a' := ?_) (Gtr.bb 27 2097151) rfl rfl (any_of HT_.out (by kernel_rfl)) (fun _ _ _ h => h) (Or.inl ⟨by rfl, ?_⟩) ?_ ?_
      rotate_left
      ·intro w'
       go_simp
       with_reducible rfl
      rotate_left
      ·simp only [Gtr.ps]
       rfl
      refine pure_ (i := 21) (N := some 26) (v := ?_) (a' := ?_) (Gtr.bb 27 4194303) rfl rfl (any_of HT_.out (by kernel_rfl)) (fun _ _ _ h => h) (Or.inl ⟨by rfl, ?_⟩) ?_ ?_
      rotate_left
      ·intro w'
       go_simp
       with_reducible rfl
      rotate_left
      ·simp only [Gtr.ps]
       rfl
      refine pure_ (i := 22) (N := some 27) (v := ?_) (a' := ?_) (Gtr.bb 27 8388607) rfl rfl (any_of HT_.out (by kernel_rfl)) (fun _ _ _ h => h) (Or.inl ⟨by rfl, ?_⟩) ?_ ?_
      rotate_left
      ·intro w'
       go_simp
       with_reducible rfl
      rotate_left
      ·simp only [Gtr.ps]
       rfl
      refine pure_ (i := 23) (N := some 28) (v := undef) (a' := ?_) (Gtr.bb 27 16777215) rfl rfl (any_of HT_.out (by kernel_rfl)) (fun _ _ _ h => h) (Or.inr ⟨by rfl, rfl⟩) ?_ ?_
      rotate_left
      ·simp only [Gtr.ps]
       rfl
      refine pure_ (i := 24) (N := some 29) (v := undef) (a' := ?_) (Gtr.bb 27 33554431) rfl rfl (any_of HT_.out (by kernel_rfl)) (fun _ _ _ h => h) (Or.inr ⟨by rfl, rfl⟩) ?_ ?_
      rotate_left
      ·simp only [Gtr.ps]
       rfl
      refine pure_ (i := 25) (N := some 30) (v := undef) (a' := ?_) (Gtr.bb 27 67108863) rfl rfl (any_of HT_.out (by kernel_rfl)) (fun _ _ _ h => h) (Or.inr ⟨by rfl, rfl⟩) ?_ ?_
      rotate_left
      ·simp only [Gtr.ps]
       rfl
      refine pure_ (i := 26) (N := some 31) (v := ?_) (a' := ?_) (Gtr.bb 27 134217727) rfl rfl (any_of HT_.out (by kernel_rfl)) (fun _ _ _ h => h) (Or.inl ⟨by rfl, ?_⟩) ?_ ?_
      rotate_left
      ·intro w'
       go_simp
       with_reducible rfl
      rotate_left
      ·simp only [Gtr.ps]
       rfl
      refine done_ (done_of HT_.out (by kernel_rfl)) ?_
      try go_wp2
      go_meet
      case rel => exact ⟨_, (true), (by first | rfl | (simp; done) | (simp [*]; done)), H', ⟨by first | omega | exact Nat.le_refl _⟩, ⟨by (with_reducible repeat (first | refine blk_drewN ?_ _ | refine blk_drew ?_ | refine blk_alloc ?_ _)); exact BK831.out⟩, ⟨(Gtr.bw HB.out)⟩⟩
    ·rw [if_neg c16] at H
     have c16b0 : (a0_1.toList == t835.toList) = false := beq_eq_false_iff_ne.mpr c16
     have c16b1 : (a0_1.toList != t835.toList) = true := bne_iff_ne.mpr c16
     have H' := Aside0.mk H
     clear H
     try go_wp2
     have n0_ := Aside0.mk (blk_drew BK831.out)
     have n1_ := Aside0.mk (below_drew1 HB.out)
     clear BK831
     clear HB
     have BK831 := n0_
     have HB := n1_
     clear n0_ n1_
     refine start_ (n := 27) (S := fun w' => w'.cell? ⟨gb831, 0, none⟩ = some (.int .i64 a0_0) ∧ w'.cell? ⟨gb831, 1, none⟩ = some (.string a0_1) ∧ w'.cell? ⟨gb831, 2, none⟩ = some (.string a0_2) ∧ w'.cell? ⟨gb831, 3, none⟩ = some (.int .i64 a0_3) ∧ w'.cell? ⟨gb831, 4, none⟩ = some (.int .i64 a0_4) ∧ w'.cell? ⟨gb831, 5, none⟩ = some (.slice A0_5 l0_5.length c0_5)) (ds := []) (Gtr.bb 27 0) (by kernel_rfl) rfl rfl ⟨(blk_cell BK831.out 0).trans rfl, (blk_cell BK831.out 1).trans rfl, (blk_cell BK831.out 2).trans rfl, (blk_cell BK831.out 3).trans rfl, (blk_cell BK831.out 4).trans rfl, (blk_cell BK831.out 5).trans rfl⟩ (fun hHeld => ?_); refine with_tabW spec_GoodJob.tab1 spec_GoodJob.bits1 (fun HT_ HW_ => ?_)
     generalize w3.drew = w27 at BK831 HB hHeld ⊢
     refine pure_ (i := 0) (N := some 5) (v := ?_) (a' := ?_) (Gtr.bb 27 1) rfl rfl (any_of HT_.out (by kernel_rfl)) (fun _ _ _ h => h) (Or.inl ⟨by rfl, ?_⟩) ?_ ?_
     rotate_left
     ·intro w'
      go_simp
      with_reducible rfl
     rotate_left
     ·simp only [Gtr.ps]
      rfl
     refine take_ (i := 1) (N := some 6) (v := ?_) (a' := ?_) (Gtr.bb 27 3) rfl rfl (take_ofW HT_.out HW_.out (by kernel_rfl)) (fun _ _ _ h => h) (Or.inl ⟨by rfl, ?_⟩) hHeld ?_ ?_
     rotate_left
     ·rintro w' ⟨s0, s1, s2, s3, s4, s5⟩
      go_simp
      with_reducible rfl
     rotate_left
     ·simp only [Gtr.ps]
      rfl
     refine one_ (i := 2) (N := some 7) (Gtr.bb 27 7) rfl rfl (one_of HT_.out (by kernel_rfl)) (by decide) (fun K hK => ?_)
     refine goes_ Tryz.func108 (by kernel_rfl) rfl #[.int .i64 a0_0, .int .i64 1, .int .i64 6] (by rfl) rfl rfl (by (try simp only [List.map_toArray, List.map_cons, List.map_nil]); first | done | rfl | (simp only [List.length_drop, List.length_take]; rfl)) ?_
     with_reducible refine (spec_l1In.calls a0_0 1 6 true _ A4.out).mono ?_
     rintro e w' ⟨rfl, ⟨nd, rfl⟩⟩
     refine ⟨_, rfl, ?_⟩
     refine hK.out _ _ ⟨(blk_cell BK831.out 0).trans rfl, (blk_cell BK831.out 1).trans rfl, (blk_cell BK831.out 2).trans rfl, (blk_cell BK831.out 3).trans rfl, (blk_cell BK831.out 4).trans rfl, (blk_cell BK831.out 5).trans rfl⟩ (fun hHeld => ?_)
     clear hK K
     refine norm_ (a' := ?_) ?_ ?_
     rotate_left
     ·show Act.put _ (some 7) _ = _
      simp only [Gtr.ps]
      rfl
     refine pure_ (i := 3) (N := some 8) (v := ?_) (a' := ?_) (Gtr.bb 27 15) rfl rfl (any_of HT_.out (by kernel_rfl)) (fun _ _ _ h => h) (Or.inl ⟨by rfl, ?_⟩) ?_ ?_
     rotate_left
     ·intro w'
      go_simp
      with_reducible rfl
     rotate_left
     ·simp only [Gtr.ps]
      rfl
     refine pure_ (i := 4) (N := some 9) (v := ?_) (a' := ?_) (Gtr.bb 27 31) rfl rfl (any_of HT_.out (by kernel_rfl)) (fun _ _ _ h => h) (Or.inl ⟨by rfl, ?_⟩) ?_ ?_
     rotate_left
     ·intro w'
      go_simp
      with_reducible rfl
     rotate_left
     ·simp only [Gtr.ps]
      rfl
     refine pure_ (i := 5) (N := some 10) (v := ?_) (a' := ?_) (Gtr.bb 27 63) rfl rfl (any_of HT_.out (by kernel_rfl)) (fun _ _ _ h => h) (Or.inl ⟨by rfl, ?_⟩) ?_ ?_
     rotate_left
     ·intro w'
      go_simp
      with_reducible rfl
     rotate_left
     ·simp only [Gtr.ps]
      rfl
     refine take_ (i := 6) (N := some 11) (v := ?_) (a' := ?_) (Gtr.bb 27 127) rfl rfl (take_ofW HT_.out HW_.out (by kernel_rfl)) (fun _ _ _ h => h) (Or.inl ⟨by rfl, ?_⟩) hHeld ?_ ?_
     rotate_left
     ·rintro w' ⟨s0, s1, s2, s3, s4, s5⟩
      go_simp
      with_reducible rfl
     rotate_left
     ·simp only [Gtr.ps]
      rfl
     refine pure_ (i := 7) (N := some 12) (v := ?_) (a' := ?_) (Gtr.bb 27 255) rfl rfl (any_of HT_.out (by kernel_rfl)) (fun _ _ _ h => h) (Or.inl ⟨by rfl, ?_⟩) ?_ ?_
     rotate_left
     ·intro w'
      go_simp
      with_reducible rfl
     rotate_left
     ·simp only [Gtr.ps]
      rfl
     refine pure_ (i := 8) (N := some 13) (v := ?_) (a' := ?_) (Gtr.bb 27 511) rfl rfl (any_of HT_.out (by kernel_rfl)) (fun _ _ _ h => h) (Or.inl ⟨by rfl, ?_⟩) ?_ ?_
     rotate_left
     ·intro w'
      go_simp
      with_reducible rfl
     rotate_left
     ·simp only [Gtr.ps]
      rfl
     refine pure_ (i := 9) (N := some 14) (v := ?_) (a' := ?_) (Gtr.bb 27 1023) rfl rfl (any_of HT_.out (by kernel_rfl)) (fun _ _ _ h => h) (Or.inl ⟨by rfl, ?_⟩) ?_ ?_
     rotate_left
     ·intro w'
      go_simp
      with_reducible rfl
     rotate_left
     ·simp only [Gtr.ps]
      rfl
     refine pure_ (i := 11) (N := some 16) (v := ?_) (a' := ?_) (Gtr.bb 27 3071) rfl rfl (any_of HT_.out (by kernel_rfl)) (fun _ _ _ h => h) (Or.inl ⟨by rfl, ?_⟩) ?_ ?_
     rotate_left
     ·intro w'
      go_simp
      with_reducible rfl
     rotate_left
     ·simp only [Gtr.ps]
      rfl
     refine take_ (i := 10) (N := some 15) (v := ?_) (a' := ?_) (Gtr.bb 27 4095) rfl rfl (take_ofW HT_.out HW_.out (by kernel_rfl)) (fun _ _ _ h => h) (Or.inl ⟨by rfl, ?_⟩) hHeld ?_ ?_
     rotate_left
     ·rintro w' ⟨s0, s1, s2, s3, s4, s5⟩
      go_simp
      with_reducible rfl
     rotate_left
     ·simp only [Gtr.ps]
      rfl
     refine take_ (i := 12) (N := some 17) (v := ?_) (a' := ?_) (Gtr.bb 27 8191) rfl rfl (take_ofW HT_.out HW_.out (by kernel_rfl)) (fun _ _ _ h => h) (Or.inl ⟨by rfl, ?_⟩) hHeld ?_ ?_
     rotate_left
     ·rintro w' ⟨s0, s1, s2, s3, s4, s5⟩
      go_simp
      with_reducible rfl
     rotate_left
     ·simp only [Gtr.ps]
      rfl
     refine one_ (i := 13) (N := some 18) (Gtr.bb 27 16383) rfl rfl (one_of HT_.out (by kernel_rfl)) (by decide) (fun K hK => ?_)
     refine goes_ Tryz.func94 (by kernel_rfl) rfl #[.int .i64 a0_0] (by rfl) rfl rfl (by (try simp only [List.map_toArray, List.map_cons, List.map_nil]); first | done | rfl | (simp only [List.length_drop, List.length_take]; rfl)) ?_
     with_reducible refine (spec_l15Flag.calls a0_0 t835 _ A15.out).mono ?_
     rintro e w28 ⟨rfl, hb⟩
     refine ⟨_, rfl, ?_⟩
     have n0_ := Aside0.mk (blk_below (g := gb831) (o := .cells #[.int .i64 a0_0, .string a0_1, .string a0_2, .int .i64 a0_3, .int .i64 a0_4, .slice A0_5 l0_5.length c0_5] 49 (0, 0)) (by (with_reducible repeat (first | refine blk_drewN ?_ _ | refine blk_drew ?_ | refine blk_alloc ?_ _)); exact BK831.out) hb)
     have n1_ := Aside0.mk (below_step (Gtr.bw HB.out) hb)
     clear BK831
     clear HB
     have BK831 := n0_
     have HB := n1_
     clear n0_ n1_
     (try clear hb);(try clear hb2);(try clear hk);(try clear hi)
     refine hK.out _ _ ⟨(blk_cell BK831.out 0).trans rfl, (blk_cell BK831.out 1).trans rfl, (blk_cell BK831.out 2).trans rfl, (blk_cell BK831.out 3).trans rfl, (blk_cell BK831.out 4).trans rfl, (blk_cell BK831.out 5).trans rfl⟩ (fun hHeld => ?_)
     clear hK K
     refine norm_ (a' := ?_) ?_ ?_
     rotate_left
     ·show Act.put _ (some 18) _ = _
      simp only [Gtr.ps]
      rfl
     refine pure_ (i := 14) (N := some 19) (v := ?_) (a' := ?_) (Gtr.bb 27 32767) rfl rfl (any_of HT_.out (by kernel_rfl)) (fun _ _ _ h => h) (Or.inl ⟨by rfl, ?_⟩) ?_ ?_
     rotate_left
     ·intro w'
      go_simp
      with_reducible rfl
     rotate_left
     ·simp only [Gtr.ps]
      rfl
     refine pure_ (i := 15) (N := some 20) (v := ?_) (a' := ?_) (Gtr.bb 27 65535) rfl rfl (any_of HT_.out (by kernel_rfl)) (fun _ _ _ h => h) (Or.inl ⟨by rfl, ?_⟩) ?_ ?_
     rotate_left
     ·intro w'
      go_simp
      with_reducible rfl
     rotate_left
     ·simp only [Gtr.ps]
      rfl
     refine pure_ (i := 16) (N := some 21) (v := ?_) (a' := ?_) (Gtr.bb 27 131071) rfl rfl (any_of HT_.out (by kernel_rfl)) (fun _ _ _ h => h) (Or.inl ⟨by rfl, ?_⟩) ?_ ?_
     rotate_left
     ·intro w'
      go_simp
      with_reducible rfl
     rotate_left
     ·simp only [Gtr.ps]
      rfl
     refine pure_ (i := 17) (N := some 22) (v := ?_) (a' := ?_) (Gtr.bb 27 262143) rfl rfl (any_of HT_.out (by kernel_rfl)) (fun _ _ _ h => h) (Or.inl ⟨by rfl, ?_⟩) ?_ ?_
     rotate_left
     ·intro w'
      go_simp
      with_reducible rfl
     rotate_left
     ·simp only [Gtr.ps]
      rfl
     refine pure_ (i := 18) (N := some 23) (v := undef) (a' := ?_) (Gtr.bb 27 524287) rfl rfl (any_of HT_.out (by kernel_rfl)) (fun _ _ _ h => h) (Or.inr ⟨by rfl, rfl⟩) ?_ ?_
     rotate_left
     ·simp only [Gtr.ps]
      rfl
     refine pure_ (i := 19) (N := some 24) (v := undef) (a' := ?_) (Gtr.bb 27 1048575) rfl rfl (any_of HT_.out (by kernel_rfl)) (fun _ _ _ h => h) (Or.inr ⟨by rfl, rfl⟩) ?_ ?_
     rotate_left
     ·simp only [Gtr.ps]
      rfl
     refine pure_ (i := 20) (N := some 25) (v := undef) (a' := ?_) (Gtr.bb 27 2097151) rfl rfl (any_of HT_.out (by kernel_rfl)) (fun _ _ _ h => h) (Or.inr ⟨by rfl, rfl⟩) ?_ ?_
     rotate_left
     ·simp only [Gtr.ps]
      rfl
     refine pure_ (i := 21) (N := some 26) (v := ?_) (a' := ?_) (Gtr.bb 27 4194303) rfl rfl (any_of HT_.out (by kernel_rfl)) (fun _ _ _ h => h) (Or.inl ⟨by rfl, ?_⟩) ?_ ?_
     rotate_left
     ·intro w'
      go_simp
      with_reducible rfl
     rotate_left
     ·simp only [Gtr.ps]
      rfl
     refine pure_ (i := 22) (N := some 27) (v := ?_) (a' := ?_) (Gtr.bb 27 8388607) rfl rfl (any_of HT_.out (by kernel_rfl)) (fun _ _ _ h => h) (Or.inl ⟨by rfl, ?_⟩) ?_ ?_
     rotate_left
     ·intro w'
      go_simp
      with_reducible rfl
     rotate_left
     ·simp only [Gtr.ps]
      rfl
     refine pure_ (i := 23) (N := some 28) (v := undef) (a' := ?_) (Gtr.bb 27 16777215) rfl rfl (any_of HT_.out (by kernel_rfl)) (fun _ _ _ h => h) (Or.inr ⟨by rfl, rfl⟩) ?_ ?_
     rotate_left
     ·simp only [Gtr.ps]
      rfl
     refine pure_ (i := 24) (N := some 29) (v := undef) (a' := ?_) (Gtr.bb 27 33554431) rfl rfl (any_of HT_.out (by kernel_rfl)) (fun _ _ _ h => h) (Or.inr ⟨by rfl, rfl⟩) ?_ ?_
     rotate_left
     ·simp only [Gtr.ps]
      rfl
     refine pure_ (i := 25) (N := some 30) (v := undef) (a' := ?_) (Gtr.bb 27 67108863) rfl rfl (any_of HT_.out (by kernel_rfl)) (fun _ _ _ h => h) (Or.inr ⟨by rfl, rfl⟩) ?_ ?_
     rotate_left
     ·simp only [Gtr.ps]
      rfl
     refine pure_ (i := 26) (N := some 31) (v := ?_) (a' := ?_) (Gtr.bb 27 134217727) rfl rfl (any_of HT_.out (by kernel_rfl)) (fun _ _ _ h => h) (Or.inl ⟨by rfl, ?_⟩) ?_ ?_
     rotate_left
     ·intro w'
      go_simp
      with_reducible rfl
     rotate_left
     ·simp only [Gtr.ps]
      rfl
     refine done_ (done_of HT_.out (by kernel_rfl)) ?_
     try go_wp2
     go_meet
     case rel => exact ⟨_, (true), (by first | rfl | (simp; done) | (simp [*]; done)), H', ⟨by first | omega | exact Nat.le_refl _⟩, ⟨by (with_reducible repeat (first | refine blk_drewN ?_ _ | refine blk_drew ?_ | refine blk_alloc ?_ _)); exact BK831.out⟩, ⟨(Gtr.bw HB.out)⟩⟩
  ·replace c5 := Bool.eq_false_iff.mpr c5
   subst c5
   have H1 : (spec_GoodJob.j0 k true a0_0 a0_1 a0_2 a0_3 a0_4 l0_5) = some r := by rw [if_neg (show ¬ (false = true) by decide)] at H; exact H
   clear H
   have H := H1
   clear H1
   have H' := Aside0.mk H
   clear H
   try go_wp2
   have n0_ := Aside0.mk (blk_drew BK831.out)
   have n1_ := Aside0.mk (below_drew1 HB.out)
   clear BK831
   clear HB
   have BK831 := n0_
   have HB := n1_
   clear n0_ n1_
   refine start_ (n := 27) (S := fun w' => w'.cell? ⟨gb831, 0, none⟩ = some (.int .i64 a0_0) ∧ w'.cell? ⟨gb831, 1, none⟩ = some (.string a0_1) ∧ w'.cell? ⟨gb831, 2, none⟩ = some (.string a0_2) ∧ w'.cell? ⟨gb831, 3, none⟩ = some (.int .i64 a0_3) ∧ w'.cell? ⟨gb831, 4, none⟩ = some (.int .i64 a0_4) ∧ w'.cell? ⟨gb831, 5, none⟩ = some (.slice A0_5 l0_5.length c0_5)) (ds := []) (Gtr.bb 27 0) (by kernel_rfl) rfl rfl ⟨(blk_cell BK831.out 0).trans rfl, (blk_cell BK831.out 1).trans rfl, (blk_cell BK831.out 2).trans rfl, (blk_cell BK831.out 3).trans rfl, (blk_cell BK831.out 4).trans rfl, (blk_cell BK831.out 5).trans rfl⟩ (fun hHeld => ?_); refine with_tabW spec_GoodJob.tab1 spec_GoodJob.bits1 (fun HT_ HW_ => ?_)
   generalize w3.drew = w29 at BK831 HB hHeld ⊢
   refine pure_ (i := 0) (N := some 5) (v := ?_) (a' := ?_) (Gtr.bb 27 1) rfl rfl (any_of HT_.out (by kernel_rfl)) (fun _ _ _ h => h) (Or.inl ⟨by rfl, ?_⟩) ?_ ?_
   rotate_left
   ·intro w'
    go_simp
    with_reducible rfl
   rotate_left
   ·simp only [Gtr.ps]
    rfl
   refine take_ (i := 1) (N := some 6) (v := ?_) (a' := ?_) (Gtr.bb 27 3) rfl rfl (take_ofW HT_.out HW_.out (by kernel_rfl)) (fun _ _ _ h => h) (Or.inl ⟨by rfl, ?_⟩) hHeld ?_ ?_
   rotate_left
   ·rintro w' ⟨s0, s1, s2, s3, s4, s5⟩
    go_simp
    with_reducible rfl
   rotate_left
   ·simp only [Gtr.ps]
    rfl
   refine one_ (i := 2) (N := some 7) (Gtr.bb 27 7) rfl rfl (one_of HT_.out (by kernel_rfl)) (by decide) (fun K hK => ?_)
   refine goes_ Tryz.func108 (by kernel_rfl) rfl #[.int .i64 a0_0, .int .i64 1, .int .i64 6] (by rfl) rfl rfl (by (try simp only [List.map_toArray, List.map_cons, List.map_nil]); first | done | rfl | (simp only [List.length_drop, List.length_take]; rfl)) ?_
   with_reducible refine (spec_l1In.calls a0_0 1 6 false _ A4.out).mono ?_
   rintro e w' ⟨rfl, ⟨nd, rfl⟩⟩
   refine ⟨_, rfl, ?_⟩
   refine hK.out _ _ ⟨(blk_cell BK831.out 0).trans rfl, (blk_cell BK831.out 1).trans rfl, (blk_cell BK831.out 2).trans rfl, (blk_cell BK831.out 3).trans rfl, (blk_cell BK831.out 4).trans rfl, (blk_cell BK831.out 5).trans rfl⟩ (fun hHeld => ?_)
   clear hK K
   refine norm_ (a' := ?_) ?_ ?_
   rotate_left
   ·show Act.put _ (some 7) _ = _
    simp only [Gtr.ps]
    rfl
   refine pure_ (i := 3) (N := some 8) (v := ?_) (a' := ?_) (Gtr.bb 27 15) rfl rfl (any_of HT_.out (by kernel_rfl)) (fun _ _ _ h => h) (Or.inl ⟨by rfl, ?_⟩) ?_ ?_
   rotate_left
   ·intro w'
    go_simp
    with_reducible rfl
   rotate_left
   ·simp only [Gtr.ps]
    rfl
   refine pure_ (i := 4) (N := some 9) (v := ?_) (a' := ?_) (Gtr.bb 27 31) rfl rfl (any_of HT_.out (by kernel_rfl)) (fun _ _ _ h => h) (Or.inl ⟨by rfl, ?_⟩) ?_ ?_
   rotate_left
   ·intro w'
    go_simp
    with_reducible rfl
   rotate_left
   ·simp only [Gtr.ps]
    rfl
   refine pure_ (i := 5) (N := some 10) (v := undef) (a' := ?_) (Gtr.bb 27 63) rfl rfl (any_of HT_.out (by kernel_rfl)) (fun _ _ _ h => h) (Or.inr ⟨by rfl, rfl⟩) ?_ ?_
   rotate_left
   ·simp only [Gtr.ps]
    rfl
   refine pure_ (i := 6) (N := some 11) (v := undef) (a' := ?_) (Gtr.bb 27 127) rfl rfl (any_of HT_.out (by kernel_rfl)) (fun _ _ _ h => h) (Or.inr ⟨by rfl, rfl⟩) ?_ ?_
   rotate_left
   ·simp only [Gtr.ps]
    rfl
   refine pure_ (i := 7) (N := some 12) (v := undef) (a' := ?_) (Gtr.bb 27 255) rfl rfl (any_of HT_.out (by kernel_rfl)) (fun _ _ _ h => h) (Or.inr ⟨by rfl, rfl⟩) ?_ ?_
   rotate_left
   ·simp only [Gtr.ps]
    rfl
   refine pure_ (i := 8) (N := some 13) (v := undef) (a' := ?_) (Gtr.bb 27 511) rfl rfl (any_of HT_.out (by kernel_rfl)) (fun _ _ _ h => h) (Or.inr ⟨by rfl, rfl⟩) ?_ ?_
   rotate_left
   ·simp only [Gtr.ps]
    rfl
   refine pure_ (i := 9) (N := some 14) (v := undef) (a' := ?_) (Gtr.bb 27 1023) rfl rfl (any_of HT_.out (by kernel_rfl)) (fun _ _ _ h => h) (Or.inr ⟨by rfl, rfl⟩) ?_ ?_
   rotate_left
   ·simp only [Gtr.ps]
    rfl
   refine pure_ (i := 10) (N := some 15) (v := undef) (a' := ?_) (Gtr.bb 27 2047) rfl rfl (any_of HT_.out (by kernel_rfl)) (fun _ _ _ h => h) (Or.inr ⟨by rfl, rfl⟩) ?_ ?_
   rotate_left
   ·simp only [Gtr.ps]
    rfl
   refine pure_ (i := 11) (N := some 16) (v := undef) (a' := ?_) (Gtr.bb 27 4095) rfl rfl (any_of HT_.out (by kernel_rfl)) (fun _ _ _ h => h) (Or.inr ⟨by rfl, rfl⟩) ?_ ?_
   rotate_left
   ·simp only [Gtr.ps]
    rfl
   refine pure_ (i := 12) (N := some 17) (v := undef) (a' := ?_) (Gtr.bb 27 8191) rfl rfl (any_of HT_.out (by kernel_rfl)) (fun _ _ _ h => h) (Or.inr ⟨by rfl, rfl⟩) ?_ ?_
   rotate_left
   ·simp only [Gtr.ps]
    rfl
   refine pure_ (i := 13) (N := some 18) (v := undef) (a' := ?_) (Gtr.bb 27 16383) rfl rfl (any_of HT_.out (by kernel_rfl)) (fun _ _ _ h => h) (Or.inr ⟨by rfl, rfl⟩) ?_ ?_
   rotate_left
   ·simp only [Gtr.ps]
    rfl
   refine pure_ (i := 14) (N := some 19) (v := undef) (a' := ?_) (Gtr.bb 27 32767) rfl rfl (any_of HT_.out (by kernel_rfl)) (fun _ _ _ h => h) (Or.inr ⟨by rfl, rfl⟩) ?_ ?_
   rotate_left
   ·simp only [Gtr.ps]
    rfl
   refine pure_ (i := 15) (N := some 20) (v := undef) (a' := ?_) (Gtr.bb 27 65535) rfl rfl (any_of HT_.out (by kernel_rfl)) (fun _ _ _ h => h) (Or.inr ⟨by rfl, rfl⟩) ?_ ?_
   rotate_left
   ·simp only [Gtr.ps]
    rfl
   refine pure_ (i := 16) (N := some 21) (v := ?_) (a' := ?_) (Gtr.bb 27 131071) rfl rfl (any_of HT_.out (by kernel_rfl)) (fun _ _ _ h => h) (Or.inl ⟨by rfl, ?_⟩) ?_ ?_
   rotate_left
   ·intro w'
    go_simp
    with_reducible rfl
   rotate_left
   ·simp only [Gtr.ps]
    rfl
   refine pure_ (i := 17) (N := some 22) (v := ?_) (a' := ?_) (Gtr.bb 27 262143) rfl rfl (any_of HT_.out (by kernel_rfl)) (fun _ _ _ h => h) (Or.inl ⟨by rfl, ?_⟩) ?_ ?_
   rotate_left
   ·intro w'
    go_simp
    with_reducible rfl
   rotate_left
   ·simp only [Gtr.ps]
    rfl
   refine pure_ (i := 18) (N := some 23) (v := undef) (a' := ?_) (Gtr.bb 27 524287) rfl rfl (any_of HT_.out (by kernel_rfl)) (fun _ _ _ h => h) (Or.inr ⟨by rfl, rfl⟩) ?_ ?_
   rotate_left
   ·simp only [Gtr.ps]
    rfl
   refine pure_ (i := 19) (N := some 24) (v := undef) (a' := ?_) (Gtr.bb 27 1048575) rfl rfl (any_of HT_.out (by kernel_rfl)) (fun _ _ _ h => h) (Or.inr ⟨by rfl, rfl⟩) ?_ ?_
   rotate_left
   ·simp only [Gtr.ps]
    rfl
   refine pure_ (i := 20) (N := some 25) (v := undef) (a' := ?_) (Gtr.bb 27 2097151) rfl rfl (any_of HT_.out (by kernel_rfl)) (fun _ _ _ h => h) (Or.inr ⟨by rfl, rfl⟩) ?_ ?_
   rotate_left
   ·simp only [Gtr.ps]
    rfl
   refine pure_ (i := 21) (N := some 26) (v := ?_) (a' := ?_) (Gtr.bb 27 4194303) rfl rfl (any_of HT_.out (by kernel_rfl)) (fun _ _ _ h => h) (Or.inl ⟨by rfl, ?_⟩) ?_ ?_
   rotate_left
   ·intro w'
    go_simp
    with_reducible rfl
   rotate_left
   ·simp only [Gtr.ps]
    rfl
   refine pure_ (i := 22) (N := some 27) (v := ?_) (a' := ?_) (Gtr.bb 27 8388607) rfl rfl (any_of HT_.out (by kernel_rfl)) (fun _ _ _ h => h) (Or.inl ⟨by rfl, ?_⟩) ?_ ?_
   rotate_left
   ·intro w'
    go_simp
    with_reducible rfl
   rotate_left
   ·simp only [Gtr.ps]
    rfl
   refine pure_ (i := 23) (N := some 28) (v := undef) (a' := ?_) (Gtr.bb 27 16777215) rfl rfl (any_of HT_.out (by kernel_rfl)) (fun _ _ _ h => h) (Or.inr ⟨by rfl, rfl⟩) ?_ ?_
   rotate_left
   ·simp only [Gtr.ps]
    rfl
   refine pure_ (i := 24) (N := some 29) (v := undef) (a' := ?_) (Gtr.bb 27 33554431) rfl rfl (any_of HT_.out (by kernel_rfl)) (fun _ _ _ h => h) (Or.inr ⟨by rfl, rfl⟩) ?_ ?_
   rotate_left
   ·simp only [Gtr.ps]
    rfl
   refine pure_ (i := 25) (N := some 30) (v := undef) (a' := ?_) (Gtr.bb 27 67108863) rfl rfl (any_of HT_.out (by kernel_rfl)) (fun _ _ _ h => h) (Or.inr ⟨by rfl, rfl⟩) ?_ ?_
   rotate_left
   ·simp only [Gtr.ps]
    rfl
   refine pure_ (i := 26) (N := some 31) (v := ?_) (a' := ?_) (Gtr.bb 27 134217727) rfl rfl (any_of HT_.out (by kernel_rfl)) (fun _ _ _ h => h) (Or.inl ⟨by rfl, ?_⟩) ?_ ?_
   rotate_left
   ·intro w'
    go_simp
    with_reducible rfl
   rotate_left
   ·simp only [Gtr.ps]
    rfl
   refine done_ (done_of HT_.out (by kernel_rfl)) ?_
   try go_wp2
   go_meet
   case rel => exact ⟨_, (true), (by first | rfl | (simp; done) | (simp [*]; done)), H', ⟨by first | omega | exact Nat.le_refl _⟩, ⟨by (with_reducible repeat (first | refine blk_drewN ?_ _ | refine blk_drew ?_ | refine blk_alloc ?_ _)); exact BK831.out⟩, ⟨(Gtr.bw HB.out)⟩⟩
 case rest =>
  clear HC2
  (try clear c1);(try clear p2);(try clear c5);(try clear c9);(try clear c10);(try clear c16);(try clear c16b0);(try clear c16b1)
  obtain ⟨kq, x31_1, rfl, HA, HJ1, BK831, HB⟩ := hcut
  cases kq with
  | zero => exact absurd HA.out (by simp [spec_GoodJob.j0])
  | succ kj1 =>
   have H := HA.out
   clear HA
   simp only [spec_GoodJob.j0] at H
   by_cases c30 : x31_1 = true
   ·subst c30
    have H1 := H
    rw [if_pos rfl] at H1
    clear H
    have H := H1
    clear H1
    obtain rfl := Option.some.inj H
    go_wp2
    go_ret
    exact ⟨by first | rfl | (simp [errW_none, errW_some] <;> rfl) | (simp [*, errW_none, errW_some] <;> rfl), (Gtr.bw HB.out)⟩
   ·replace c30 := Bool.eq_false_iff.mpr c30
    subst c30
    have H1 : (spec_GoodJob.l0 kj1 l0_5 (l0_5.length : Int) 0 a0_0 a0_1 a0_2 a0_3 a0_4 l0_5) = some r := by rw [if_neg (show ¬ (false = true) by decide)] at H; exact H
    clear H
    have H := H1
    clear H1
    have H' := Aside0.mk H
    clear H
    have hcz31_0 : wc.cell? ⟨gb831, 0, none⟩ = some (.int .i64 a0_0) := (blk_cell BK831.out 0).trans rfl
    have hcz31_1 : wc.cell? ⟨gb831, 1, none⟩ = some (.string a0_1) := (blk_cell BK831.out 1).trans rfl
    have hcz31_2 : wc.cell? ⟨gb831, 2, none⟩ = some (.string a0_2) := (blk_cell BK831.out 2).trans rfl
    have hcz31_3 : wc.cell? ⟨gb831, 3, none⟩ = some (.int .i64 a0_3) := (blk_cell BK831.out 3).trans rfl
    have hcz31_4 : wc.cell? ⟨gb831, 4, none⟩ = some (.int .i64 a0_4) := (blk_cell BK831.out 4).trans rfl
    have hcz31_5 : wc.cell? ⟨gb831, 5, none⟩ = some (.slice A0_5 l0_5.length c0_5) := (blk_cell BK831.out 5).trans rfl
    have hfz31_0 := blk_frozen BK831.out 0
    have hfz31_1 := blk_frozen BK831.out 1
    have hfz31_2 := blk_frozen BK831.out 2
    have hfz31_3 := blk_frozen BK831.out 3
    have hfz31_4 := blk_frozen BK831.out 4
    have hfz31_5 := blk_frozen BK831.out 5
    go_wp2
    go_loopg [35] kj1 (fun kq v35 w' => ∃ (x35_2 : Int), v35 = .int .i64 x35_2 ∧ Aside0 (spec_GoodJob.l0 kq l0_5 (l0_5.length : Int) x35_2 a0_0 a0_1 a0_2 a0_3 a0_4 l0_5 = some r) ∧ Aside0 (kq ≤ kj1) ∧ Aside0 (w'.heap[gb831]? = some (.cells #[.int .i64 a0_0, .string a0_1, .string a0_2, .int .i64 a0_3, .int .i64 a0_4, (.slice A0_5 l0_5.length c0_5)] 49 (0, 0))) ∧ Aside0 (Below w.heap.size w w'))
    case atStart => exact ⟨(0), (by first | rfl | (simp; done) | (simp [*]; done)), H', ⟨Nat.le_refl _⟩, ⟨by (with_reducible repeat (first | refine blk_drewN ?_ _ | refine blk_drew ?_ | refine blk_alloc ?_ _)); exact BK831.out⟩, ⟨(Gtr.bw HB.out)⟩⟩
    case round =>
     clear H'
     (try clear c1);(try clear p2);(try clear c3);(try clear c5);(try clear c9);(try clear c10);(try clear c16);(try clear c16b0);(try clear c16b1);(try clear c30);(try clear hcz31_0);(try clear hcz31_1);(try clear hcz31_2);(try clear hcz31_3);(try clear hcz31_4);(try clear hcz31_5);(try clear hfz31_0);(try clear hfz31_1);(try clear hfz31_2);(try clear hfz31_3);(try clear hfz31_4);(try clear hfz31_5);(try clear p2)
     obtain ⟨x35_2, rfl, HA, HK2, BK831, HB⟩ := hrel
     cases gk with
     | zero => exact absurd HA.out (by simp [spec_GoodJob.l0])
     | succ k2 =>
      have H := HA.out
      clear HA
      simp only [spec_GoodJob.l0] at H
      by_cases c32 : x35_2 < (l0_5.length : Int)
      ·rw [if_pos c32] at H
       have c32b0 : decide (x35_2 < (l0_5.length : Int)) = true := decide_eq_true c32
       clear c32
       by_cases c33 : 0 ≤ x35_2
       ·rw [if_pos c33] at H
        have c33b0 : decide (0 ≤ x35_2) = true := decide_eq_true c33
        clear c33
        by_cases c34 : x35_2 < (l0_5.length : Int)
        ·rw [if_pos c34] at H
         have c34b0 : decide (x35_2 < (l0_5.length : Int)) = true := decide_eq_true c34
         clear c34
         replace H := Option.bind_eq_some_iff.mp H
         obtain ⟨t839, A350, H⟩ := H
         try dsimp only at H
         have A35 := Aside0.mk A350
         clear A350
         by_cases c36 : t839 = true
         ·subst c36
          have H1 := H
          rw [if_pos rfl] at H1
          clear H
          have H := H1
          clear H1
          have H' := Aside0.mk H
          clear H
          have p838 : 0 ≤ (x35_2 : Int) := of_decide_eq_true (by first | (with_reducible assumption) | assumption)
          have q838 : x35_2 < (l0_5.length : Int) := of_decide_eq_true (by first | (with_reducible assumption) | assumption)
          obtain ⟨ad838, e838, hx838_0⟩ := Kd.at_string HR0_5.out x35_2 p838 q838
          cases e838
          replace hx838_0 := (HB.out.cell (World.block_lt_of_cell? w _ hx838_0)).trans hx838_0
          replace p838 := eq_true p838
          replace q838 := eq_true q838
          go_wp2_with (first | ((with_reducible refine gate_callee (f := 110) rfl ?_); refine goesL_ (some 40) rfl rfl Tryz.func110 (by kernel_rfl) rfl #[.string (rdOf ByteArray.empty l0_5 x35_2)] rfl (by (try simp only [List.map_toArray, List.map_cons, List.map_nil]); first | done | rfl | (simp only [List.length_drop, List.length_take]; rfl)) ?_; (with_reducible refine (spec_l2Whole.calls k2 (rdOf ByteArray.empty l0_5 x35_2) true _ A35.out).mono ?_); rintro e w37 ⟨rfl, hb⟩; refine ⟨_, rfl, ?_⟩; have n0_ := Aside0.mk (blk_below (g := gb831) (o := .cells #[.int .i64 a0_0, .string a0_1, .string a0_2, .int .i64 a0_3, .int .i64 a0_4, .slice (some ad838) l0_5.length c0_5] 49 (0, 0)) (by (with_reducible repeat (first | refine blk_drewN ?_ _ | refine blk_drew ?_ | refine blk_alloc ?_ _)); exact BK831.out) hb); have n1_ := Aside0.mk (below_step (Gtr.bw HB.out) hb); clear BK831; clear HB; have BK831 := n0_; have HB := n1_; clear n0_ n1_; (try clear hb); (try clear hb2); (try clear hk); (try clear hi)))
          go_roundg k2
          case measure => have := HJ1.out; have := HK2.out; omega
          case rel => exact ⟨(wrap64 (x35_2 + 1)), (by first | rfl | (simp; done) | (simp [*]; done)), H', ⟨by have := HJ1.out; have := HK2.out; omega⟩, ⟨by (with_reducible repeat (first | refine blk_drewN ?_ _ | refine blk_drew ?_ | refine blk_alloc ?_ _)); exact BK831.out⟩, ⟨(Gtr.bw HB.out)⟩⟩
         ·replace c36 := Bool.eq_false_iff.mpr c36
          subst c36
          have H1 : (some false) = some r := by rw [if_neg (show ¬ (false = true) by decide)] at H; exact H
          clear H
          have H := H1
          clear H1
          obtain rfl := Option.some.inj H
          have p838 : 0 ≤ (x35_2 : Int) := of_decide_eq_true (by first | (with_reducible assumption) | assumption)
          have q838 : x35_2 < (l0_5.length : Int) := of_decide_eq_true (by first | (with_reducible assumption) | assumption)
          obtain ⟨ad838, e838, hx838_0⟩ := Kd.at_string HR0_5.out x35_2 p838 q838
          cases e838
          replace hx838_0 := (HB.out.cell (World.block_lt_of_cell? w _ hx838_0)).trans hx838_0
          replace p838 := eq_true p838
          replace q838 := eq_true q838
          go_wp2_with (first | ((with_reducible refine gate_callee (f := 110) rfl ?_); refine goesL_ (some 40) rfl rfl Tryz.func110 (by kernel_rfl) rfl #[.string (rdOf ByteArray.empty l0_5 x35_2)] rfl (by (try simp only [List.map_toArray, List.map_cons, List.map_nil]); first | done | rfl | (simp only [List.length_drop, List.length_take]; rfl)) ?_; (with_reducible refine (spec_l2Whole.calls k2 (rdOf ByteArray.empty l0_5 x35_2) false _ A35.out).mono ?_); rintro e w38 ⟨rfl, hb⟩; refine ⟨_, rfl, ?_⟩; have n0_ := Aside0.mk (blk_below (g := gb831) (o := .cells #[.int .i64 a0_0, .string a0_1, .string a0_2, .int .i64 a0_3, .int .i64 a0_4, .slice (some ad838) l0_5.length c0_5] 49 (0, 0)) (by (with_reducible repeat (first | refine blk_drewN ?_ _ | refine blk_drew ?_ | refine blk_alloc ?_ _)); exact BK831.out) hb); have n1_ := Aside0.mk (below_step (Gtr.bw HB.out) hb); clear BK831; clear HB; have BK831 := n0_; have HB := n1_; clear n0_ n1_; (try clear hb); (try clear hb2); (try clear hk); (try clear hi)))
          go_ret
          exact ⟨by first | rfl | (simp [errW_none, errW_some] <;> rfl) | (simp [*, errW_none, errW_some] <;> rfl), (Gtr.bw HB.out)⟩
        ·rw [if_neg c34] at H
         exact absurd H (by simp)
       ·rw [if_neg c33] at H
        exact absurd H (by simp)
      ·rw [if_neg c32] at H
       have c32b0 : decide (x35_2 < (l0_5.length : Int)) = false := decide_eq_false c32
       clear c32
       by_cases c39 : a0_0 = 1
       ·rw [if_pos c39] at H
        have c39b0 : (a0_0 == 1) = true := beq_iff_eq.mpr c39
        have c39b1 : (a0_0 != 1) = false := bne_eq_false_iff_eq.mpr c39
        clear c39
        obtain rfl := Option.some.inj H
        have hcz40_0 : wr.cell? ⟨gb831, 0, none⟩ = some (.int .i64 a0_0) := (blk_cell BK831.out 0).trans rfl
        have hcz40_1 : wr.cell? ⟨gb831, 1, none⟩ = some (.string a0_1) := (blk_cell BK831.out 1).trans rfl
        have hcz40_2 : wr.cell? ⟨gb831, 2, none⟩ = some (.string a0_2) := (blk_cell BK831.out 2).trans rfl
        have hcz40_3 : wr.cell? ⟨gb831, 3, none⟩ = some (.int .i64 a0_3) := (blk_cell BK831.out 3).trans rfl
        have hcz40_4 : wr.cell? ⟨gb831, 4, none⟩ = some (.int .i64 a0_4) := (blk_cell BK831.out 4).trans rfl
        have hcz40_5 : wr.cell? ⟨gb831, 5, none⟩ = some (.slice A0_5 l0_5.length c0_5) := (blk_cell BK831.out 5).trans rfl
        have hfz40_0 := blk_frozen BK831.out 0
        have hfz40_1 := blk_frozen BK831.out 1
        have hfz40_2 := blk_frozen BK831.out 2
        have hfz40_3 := blk_frozen BK831.out 3
        have hfz40_4 := blk_frozen BK831.out 4
        have hfz40_5 := blk_frozen BK831.out 5
        go_wp2
        go_ret
        exact ⟨by first | rfl | (simp [errW_none, errW_some] <;> rfl) | (simp [*, errW_none, errW_some] <;> rfl), (Gtr.bw HB.out)⟩
       ·rw [if_neg c39] at H
        have c39b0 : (a0_0 == 1) = false := beq_eq_false_iff_ne.mpr c39
        have c39b1 : (a0_0 != 1) = true := bne_iff_ne.mpr c39
        by_cases c41 : a0_0 = 6
        ·rw [if_pos c41] at H
         have c41b0 : (a0_0 == 6) = true := beq_iff_eq.mpr c41
         have c41b1 : (a0_0 != 6) = false := bne_eq_false_iff_eq.mpr c41
         clear c41
         obtain rfl := Option.some.inj H
         have hcz42_0 : wr.cell? ⟨gb831, 0, none⟩ = some (.int .i64 a0_0) := (blk_cell BK831.out 0).trans rfl
         have hcz42_1 : wr.cell? ⟨gb831, 1, none⟩ = some (.string a0_1) := (blk_cell BK831.out 1).trans rfl
         have hcz42_2 : wr.cell? ⟨gb831, 2, none⟩ = some (.string a0_2) := (blk_cell BK831.out 2).trans rfl
         have hcz42_3 : wr.cell? ⟨gb831, 3, none⟩ = some (.int .i64 a0_3) := (blk_cell BK831.out 3).trans rfl
         have hcz42_4 : wr.cell? ⟨gb831, 4, none⟩ = some (.int .i64 a0_4) := (blk_cell BK831.out 4).trans rfl
         have hcz42_5 : wr.cell? ⟨gb831, 5, none⟩ = some (.slice A0_5 l0_5.length c0_5) := (blk_cell BK831.out 5).trans rfl
         have hfz42_0 := blk_frozen BK831.out 0
         have hfz42_1 := blk_frozen BK831.out 1
         have hfz42_2 := blk_frozen BK831.out 2
         have hfz42_3 := blk_frozen BK831.out 3
         have hfz42_4 := blk_frozen BK831.out 4
         have hfz42_5 := blk_frozen BK831.out 5
         go_wp2
         go_ret
         exact ⟨by first | rfl | (simp [errW_none, errW_some] <;> rfl) | (simp [*, errW_none, errW_some] <;> rfl), (Gtr.bw HB.out)⟩
        ·rw [if_neg c41] at H
         have c41b0 : (a0_0 == 6) = false := beq_eq_false_iff_ne.mpr c41
         have c41b1 : (a0_0 != 6) = true := bne_iff_ne.mpr c41
         replace H := Option.bind_eq_some_iff.mp H
         obtain ⟨t840, A430, H⟩ := H
         try dsimp only at H
         have A43 := Aside0.mk A430
         clear A430
         obtain rfl := Option.some.inj H
         have hcz44_0 : wr.cell? ⟨gb831, 0, none⟩ = some (.int .i64 a0_0) := (blk_cell BK831.out 0).trans rfl
         have hcz44_1 : wr.cell? ⟨gb831, 1, none⟩ = some (.string a0_1) := (blk_cell BK831.out 1).trans rfl
         have hcz44_2 : wr.cell? ⟨gb831, 2, none⟩ = some (.string a0_2) := (blk_cell BK831.out 2).trans rfl
         have hcz44_3 : wr.cell? ⟨gb831, 3, none⟩ = some (.int .i64 a0_3) := (blk_cell BK831.out 3).trans rfl
         have hcz44_4 : wr.cell? ⟨gb831, 4, none⟩ = some (.int .i64 a0_4) := (blk_cell BK831.out 4).trans rfl
         have hcz44_5 : wr.cell? ⟨gb831, 5, none⟩ = some (.slice A0_5 l0_5.length c0_5) := (blk_cell BK831.out 5).trans rfl
         have hfz44_0 := blk_frozen BK831.out 0
         have hfz44_1 := blk_frozen BK831.out 1
         have hfz44_2 := blk_frozen BK831.out 2
         have hfz44_3 := blk_frozen BK831.out 3
         have hfz44_4 := blk_frozen BK831.out 4
         have hfz44_5 := blk_frozen BK831.out 5
         go_wp2_with (first | ((with_reducible refine gate_callee (f := 108) rfl ?_); refine goesL_ (some 60) rfl rfl Tryz.func108 (by kernel_rfl) rfl #[.int .i64 (l0_5.length : Int), .int .i64 1, .int .i64 10] rfl (by (try simp only [List.map_toArray, List.map_cons, List.map_nil]); first | done | rfl | (simp only [List.length_drop, List.length_take]; rfl)) ?_; (with_reducible refine (spec_l1In.calls (l0_5.length : Int) 1 10 t840 _ A43.out).mono ?_); rintro e w' ⟨rfl, ⟨nd, rfl⟩⟩; refine ⟨_, rfl, ?_⟩))
         go_ret
         exact ⟨by first | rfl | (simp [errW_none, errW_some] <;> rfl) | (simp [*, errW_none, errW_some] <;> rfl), (Gtr.bw HB.out)⟩
end Go.Proofs.YtibfocaldcjiiaaGreatDoor.Q

-- Printed by a program of this session (wip/tools/myprint.py) that runs the kit's print, hand-proved functions among the others.
namespace Go.Proofs.YtibfocaldcjiiaaGreatDoor.Q
open Go.RowKit Go.Proofs.YtibfocaldcjiiaaGreatDoorW.PrintWords Go.Proofs.YtibfocaldcjiiaaGreatDoorW.PrintLast Go.Proofs.YtibfocaldcjiiaaGreatDoorW.PrintMore
attribute [local go_sem] max2_int min2_int max_two min_two max_three min_three max_four min_four   -- for this text's walks alone
set_option linter.unusedVariables false
set_option linter.unusedSimpArgs false

/-! ### spec_l15Kinds: function 93 -/
def spec_l15Kinds.f  : Option (List ByteArray) := some (([(⟨#[]⟩ : ByteArray), (⟨#[99, 112]⟩ : ByteArray), (⟨#[114, 109]⟩ : ByteArray), (⟨#[100, 117]⟩ : ByteArray), (⟨#[99, 104, 111, 119, 110]⟩ : ByteArray), (⟨#[99, 104, 109, 111, 100]⟩ : ByteArray), (⟨#[102, 105, 110, 100]⟩ : ByteArray)] : List ByteArray))
set_option maxHeartbeats 8000000 in
set_option maxRecDepth 100000 in
theorem spec_l15Kinds.calls  (r : List ByteArray) (w : World) (h : spec_l15Kinds.f  = some r) :
  Calls Tryz.prog 93 #[] w fun e w' => ∃ v0_ : Value, e = .returned (v0_) ∧ Kd.R Kd.string 9 w' w.heap.size (fun _ => True) v0_ r ∧ Below w.heap.size w w' := by
 have HB := Aside0.mk (Below.refl w.heap.size w)
 have H : (some (([(⟨#[]⟩ : ByteArray), (⟨#[99, 112]⟩ : ByteArray), (⟨#[114, 109]⟩ : ByteArray), (⟨#[100, 117]⟩ : ByteArray), (⟨#[99, 104, 111, 119, 110]⟩ : ByteArray), (⟨#[99, 104, 109, 111, 100]⟩ : ByteArray), (⟨#[102, 105, 110, 100]⟩ : ByteArray)] : List ByteArray))) = some r := h
 clear h
 obtain ⟨y843, hy843⟩ : ∃ y_ : List ByteArray, y_ = (([(⟨#[]⟩ : ByteArray), (⟨#[99, 112]⟩ : ByteArray), (⟨#[114, 109]⟩ : ByteArray), (⟨#[100, 117]⟩ : ByteArray), (⟨#[99, 104, 111, 119, 110]⟩ : ByteArray), (⟨#[99, 104, 109, 111, 100]⟩ : ByteArray), (⟨#[102, 105, 110, 100]⟩ : ByteArray)] : List ByteArray)) := ⟨_, rfl⟩
 replace H : (some y843) = some r := by first | (rw [hy843]; with_reducible exact H) | (have H2_ := (Option.bind_some _ _).symm.trans H; rw [hy843]; with_reducible exact H2_) | (have H2_ := (Option.bind_some _ _).symm.trans H; with_reducible exact H2_) | with_reducible exact H | (rw [hy843]; exact H) | exact H
 have Ny843 := Aside0.mk hy843
 clear hy843
 obtain rfl := Option.some.inj H
 go_enter Tryz.func93, Tryz.ntmps93
 go_wp2_with (first | ((with_reducible refine gate_dst (N := 1) rfl ?_); refine Kd.R_lit Kd.string _ 9 ?hg (N := 1) ?hd (xs := ([(⟨#[]⟩ : ByteArray), (⟨#[99, 112]⟩ : ByteArray), (⟨#[114, 109]⟩ : ByteArray), (⟨#[100, 117]⟩ : ByteArray), (⟨#[99, 104, 111, 119, 110]⟩ : ByteArray), (⟨#[99, 104, 109, 111, 100]⟩ : ByteArray), (⟨#[102, 105, 110, 100]⟩ : ByteArray)] : List ByteArray)) (inner := [.string (⟨#[]⟩ : ByteArray), .string (⟨#[99, 112]⟩ : ByteArray), .string (⟨#[114, 109]⟩ : ByteArray), .string (⟨#[100, 117]⟩ : ByteArray), .string (⟨#[99, 104, 111, 119, 110]⟩ : ByteArray), .string (⟨#[99, 104, 109, 111, 100]⟩ : ByteArray), .string (⟨#[102, 105, 110, 100]⟩ : ByteArray)]) (ok := fun _ => True) (okp := fun _ => True) ?hr ?hp (fun _ hk => hk) trivial (Below.refl _ _) (Nat.le_refl _) (by simp) ?_; (case hd => rfl); (case hg => rfl); (case hr => first | (go_simp; done) | (go_simp; rfl)); (case hp => exact (Reps.one (show Kd.M Kd.string _ _ _ (⟨#[]⟩ : ByteArray) [.string (⟨#[]⟩ : ByteArray)] from rfl) (Reps.one (show Kd.M Kd.string _ _ _ (⟨#[99, 112]⟩ : ByteArray) [.string (⟨#[99, 112]⟩ : ByteArray)] from rfl) (Reps.one (show Kd.M Kd.string _ _ _ (⟨#[114, 109]⟩ : ByteArray) [.string (⟨#[114, 109]⟩ : ByteArray)] from rfl) (Reps.one (show Kd.M Kd.string _ _ _ (⟨#[100, 117]⟩ : ByteArray) [.string (⟨#[100, 117]⟩ : ByteArray)] from rfl) (Reps.one (show Kd.M Kd.string _ _ _ (⟨#[99, 104, 111, 119, 110]⟩ : ByteArray) [.string (⟨#[99, 104, 111, 119, 110]⟩ : ByteArray)] from rfl) (Reps.one (show Kd.M Kd.string _ _ _ (⟨#[99, 104, 109, 111, 100]⟩ : ByteArray) [.string (⟨#[99, 104, 109, 111, 100]⟩ : ByteArray)] from rfl) (Reps.one (show Kd.M Kd.string _ _ _ (⟨#[102, 105, 110, 100]⟩ : ByteArray) [.string (⟨#[102, 105, 110, 100]⟩ : ByteArray)] from rfl) (Reps.none _ _))))))))); intro v844 w1 ho2 hb hg_ hnew_; clear hg_ hnew_; (first | rw [← Ny843.out] at ho2 | (simp only [Int.reduceToNat] at ho2; rw [← Ny843.out] at ho2)); have n0_ := Aside0.mk (Kd.R_lower ho2 (below_size (Gtr.bw HB.out))); have n1_ := Aside0.mk (below_step (Gtr.bw HB.out) hb); clear HB; have HO845 := n0_; have HB := n1_; clear n0_ n1_; clear hb ho2))
 go_ret
 exact ⟨_, by first | rfl | (simp [errW_none, errW_some] <;> rfl) | (simp [*, errW_none, errW_some] <;> rfl), by (with_reducible repeat (first | apply Kd.R_alloc | apply Kd.R_drewN | apply Kd.R_drew)); exact HO845.out, (Gtr.bw HB.out)⟩
end Go.Proofs.YtibfocaldcjiiaaGreatDoor.Q

-- Printed by a program of this session (wip/tools/myprint.py) that runs the kit's print, hand-proved functions among the others.
namespace Go.Proofs.YtibfocaldcjiiaaGreatDoor.Q
open Go.RowKit Go.Proofs.YtibfocaldcjiiaaGreatDoorW.PrintWords Go.Proofs.YtibfocaldcjiiaaGreatDoorW.PrintLast Go.Proofs.YtibfocaldcjiiaaGreatDoorW.PrintMore
attribute [local go_sem] max2_int min2_int max_two min_two max_three min_three max_four min_four   -- for this text's walks alone
set_option linter.unusedVariables false
set_option linter.unusedSimpArgs false

/-! ### spec_l1Read: function 166 -/
mutual
def spec_l1Read.j0 : Nat → ByteArray → Bool → Option (Int)
 | 0, _, _ => none
 | k + 1, x0, x18 => if x18 = true then (some (-1)) else (spec_l1Read.l0 k x0 0 0)
def spec_l1Read.l0 : Nat → ByteArray → Int → Int → Option (Int)
 | 0, _, _, _ => none
 | k + 1, x0, x3, x4 => if x4 < (x0.size : Int) then (if 0 ≤ x4 then (if (bt x0 x4) < 48 then (some (-1)) else (if (bt x0 x4) > 57 then (some (-1)) else (spec_l1Read.l0 k x0 (wrap64 ((wrap64 (10 * x3)) + (((bt x0 x4) - 48) % 256))) (wrap64 (x4 + 1))))) else (none)) else (some x3)
end
def spec_l1Read.f (k : Nat) (a0 : ByteArray) : Option (Int) := (spec_l1In.f (a0.size : Int) 1 6).bind fun t841 => (if t841 = true then (if 0 < (a0.size : Int) then (if (bt a0 0) = 48 then (spec_l1Read.j0 k a0 (decide ((a0.size : Int) > 1))) else (spec_l1Read.j0 k a0 false)) else (none)) else (spec_l1Read.j0 k a0 true))
theorem spec_l1Read.mono_l : ∀ k, (∀ y0 y1, LeO (spec_l1Read.j0 k y0 y1) (spec_l1Read.j0 (k + 1) y0 y1)) ∧ (∀ y0 y1 y2, LeO (spec_l1Read.l0 k y0 y1 y2) (spec_l1Read.l0 (k + 1) y0 y1 y2))
 | 0 => ⟨fun _ _ r h => by simp [spec_l1Read.j0] at h, fun _ _ _ r h => by simp [spec_l1Read.l0] at h⟩
 | k + 1 => by
  obtain ⟨ih0, ih1⟩ := spec_l1Read.mono_l k
  refine ⟨?_, ?_⟩
  ·intro y0 y1
   unfold spec_l1Read.j0
   repeat' first
   | (with_reducible exact ih0 _ _)
   | (with_reducible exact ih1 _ _ _)
   | (with_reducible exact LeO.refl _)
   | (with_reducible exact LeO.none _)
   | (with_reducible refine LeO.ite ?_ ?_)
   | (with_reducible refine LeO.bind ?_ (fun _ => ?_))
   | exact ih0 _ _
   | exact ih1 _ _ _
   | exact LeO.none _
   | refine LeO.ite ?_ ?_
   | refine LeO.bind ?_ (fun _ => ?_)
  ·intro y0 y1 y2
   unfold spec_l1Read.l0
   repeat' first
   | (with_reducible exact ih0 _ _)
   | (with_reducible exact ih1 _ _ _)
   | (with_reducible exact LeO.refl _)
   | (with_reducible exact LeO.none _)
   | (with_reducible refine LeO.ite ?_ ?_)
   | (with_reducible refine LeO.bind ?_ (fun _ => ?_))
   | exact ih0 _ _
   | exact ih1 _ _ _
   | exact LeO.none _
   | refine LeO.ite ?_ ?_
   | refine LeO.bind ?_ (fun _ => ?_)
theorem spec_l1Read.mono : ∀ a0 k, LeO (spec_l1Read.f k a0) (spec_l1Read.f (k + 1) a0) := by
 intro a0 k
 obtain ⟨ih0, ih1⟩ := spec_l1Read.mono_l k
 unfold spec_l1Read.f
 repeat' first
   | (with_reducible exact ih0 _ _)
   | (with_reducible exact ih1 _ _ _)
   | (with_reducible exact LeO.refl _)
   | (with_reducible exact LeO.none _)
   | (with_reducible refine LeO.ite ?_ ?_)
   | (with_reducible refine LeO.bind ?_ (fun _ => ?_))
   | exact ih0 _ _
   | exact ih1 _ _ _
   | exact LeO.none _
   | refine LeO.ite ?_ ?_
   | refine LeO.bind ?_ (fun _ => ?_)
set_option maxHeartbeats 8000000 in
set_option maxRecDepth 100000 in
theorem spec_l1Read.calls (k : Nat) (a0 : ByteArray) (r : Int) (w : World) (h : spec_l1Read.f k a0 = some r) :
  Calls Tryz.prog 166 #[.string a0] w fun e w' => e = .returned (.int .i64 r) ∧ Drawn0 w w' := by
 have H : ((spec_l1In.f (a0.size : Int) 1 6).bind fun t841 => (if t841 = true then (if 0 < (a0.size : Int) then (if (bt a0 0) = 48 then (spec_l1Read.j0 k a0 (decide ((a0.size : Int) > 1))) else (spec_l1Read.j0 k a0 false)) else (none)) else (spec_l1Read.j0 k a0 true))) = some r := h
 clear h
 have HC2 := Aside0.mk H
 clear H
 go_enter Tryz.func166, Tryz.ntmps166
 go_upto_region 1 with (fail)
 go_cut [18] (fun v18 wc => ∃ (kq : Nat) (x18_1 : Bool), v18 = .bool x18_1 ∧ Aside0 (spec_l1Read.j0 kq a0 x18_1 = some r) ∧ Aside0 (kq ≤ k) ∧ Drawn0 w wc)
 case first =>
  have H := HC2.out
  clear HC2
  replace H := Option.bind_eq_some_iff.mp H
  obtain ⟨t841, A30, H⟩ := H
  try dsimp only at H
  have A3 := Aside0.mk A30
  clear A30
  by_cases c4 : t841 = true
  ·subst c4
   have H1 := H
   rw [if_pos rfl] at H1
   clear H
   have H := H1
   clear H1
   by_cases c5 : 0 < (a0.size : Int)
   ·rw [if_pos c5] at H
    have c5b0 : decide (0 < (a0.size : Int)) = true := decide_eq_true c5
    have c5b1 : decide (0 < a0.size) = true := decide_eq_true (by omega)
    clear c5
    (first | rw [c5b0] | (simp only [i64_w, i32_w]; rw [c5b0]) | skip)
    by_cases c7 : (bt a0 0) = 48
    ·rw [if_pos c7] at H
     have c7b0 : ((bt a0 0) == 48) = true := beq_iff_eq.mpr c7
     have c7b1 : ((bt a0 0) != 48) = false := bne_eq_false_iff_eq.mpr c7
     clear c7
     have H' := Aside0.mk H
     clear H
     go_wp2_with (first | ((with_reducible refine gate_callee (f := 108) rfl ?_); refine goesL_ (some 7) rfl rfl Tryz.func108 (by kernel_rfl) rfl #[.int .i64 (a0.size : Int), .int .i64 1, .int .i64 6] rfl (by (try simp only [List.map_toArray, List.map_cons, List.map_nil]); first | done | rfl | (simp only [List.length_drop, List.length_take]; rfl)) ?_; (with_reducible refine (spec_l1In.calls (a0.size : Int) 1 6 true _ A3.out).mono ?_); rintro e w' ⟨rfl, ⟨nd, rfl⟩⟩; refine ⟨_, rfl, ?_⟩; have p6 : 0 ≤ (0 : Int) := (by omega); have q6 : 0 < a0.size := (by have : (0 : Int) < (a0.size : Int) := of_decide_eq_true (by first | (with_reducible assumption) | assumption); omega); have hx6 : ∀ h : 0 < a0.size, ((a0[0]'h).toNat : Int) = bt a0 0 := bt_at a0 0; clear p6; have qi6 : (0 < (a0.size : Int)) = True := eq_true (of_decide_eq_true (by first | (with_reducible assumption) | assumption)); replace q6 := eq_true q6))
     go_meet
     case rel => exact ⟨_, (decide ((a0.size : Int) > 1)), (by first | rfl | (simp; done) | (simp [*]; done)), H', ⟨by first | omega | exact Nat.le_refl _⟩, by repeat (first | exact Drawn0.refl _ | apply Drawn0.step)⟩
    ·rw [if_neg c7] at H
     have c7b0 : ((bt a0 0) == 48) = false := beq_eq_false_iff_ne.mpr c7
     have c7b1 : ((bt a0 0) != 48) = true := bne_iff_ne.mpr c7
     have H' := Aside0.mk H
     clear H
     go_wp2_with (first | ((with_reducible refine gate_callee (f := 108) rfl ?_); refine goesL_ (some 7) rfl rfl Tryz.func108 (by kernel_rfl) rfl #[.int .i64 (a0.size : Int), .int .i64 1, .int .i64 6] rfl (by (try simp only [List.map_toArray, List.map_cons, List.map_nil]); first | done | rfl | (simp only [List.length_drop, List.length_take]; rfl)) ?_; (with_reducible refine (spec_l1In.calls (a0.size : Int) 1 6 true _ A3.out).mono ?_); rintro e w' ⟨rfl, ⟨nd, rfl⟩⟩; refine ⟨_, rfl, ?_⟩; have p6 : 0 ≤ (0 : Int) := (by omega); have q6 : 0 < a0.size := (by have : (0 : Int) < (a0.size : Int) := of_decide_eq_true (by first | (with_reducible assumption) | assumption); omega); have hx6 : ∀ h : 0 < a0.size, ((a0[0]'h).toNat : Int) = bt a0 0 := bt_at a0 0; clear p6; have qi6 : (0 < (a0.size : Int)) = True := eq_true (of_decide_eq_true (by first | (with_reducible assumption) | assumption)); replace q6 := eq_true q6))
     go_meet
     case rel => exact ⟨_, (false), (by first | rfl | (simp; done) | (simp [*]; done)), H', ⟨by first | omega | exact Nat.le_refl _⟩, by repeat (first | exact Drawn0.refl _ | apply Drawn0.step)⟩
   ·rw [if_neg c5] at H
    exact absurd H (by simp)
  ·replace c4 := Bool.eq_false_iff.mpr c4
   subst c4
   have H1 : (spec_l1Read.j0 k a0 true) = some r := by rw [if_neg (show ¬ (false = true) by decide)] at H; exact H
   clear H
   have H := H1
   clear H1
   have H' := Aside0.mk H
   clear H
   go_wp2_with (first | ((with_reducible refine gate_callee (f := 108) rfl ?_); refine goesL_ (some 7) rfl rfl Tryz.func108 (by kernel_rfl) rfl #[.int .i64 (a0.size : Int), .int .i64 1, .int .i64 6] rfl (by (try simp only [List.map_toArray, List.map_cons, List.map_nil]); first | done | rfl | (simp only [List.length_drop, List.length_take]; rfl)) ?_; (with_reducible refine (spec_l1In.calls (a0.size : Int) 1 6 false _ A3.out).mono ?_); rintro e w' ⟨rfl, ⟨nd, rfl⟩⟩; refine ⟨_, rfl, ?_⟩))
   go_meet
   case rel => exact ⟨_, (true), (by first | rfl | (simp; done) | (simp [*]; done)), H', ⟨by first | omega | exact Nat.le_refl _⟩, by repeat (first | exact Drawn0.refl _ | apply Drawn0.step)⟩
 case rest =>
  clear HC2
  (try clear c1);(try clear p2);(try clear c4);(try clear c5);(try clear c5b0);(try clear c5b1);(try clear p6);(try clear q6);(try clear hx6);(try clear qi6);(try clear c7);(try clear c7b0);(try clear c7b1);(try clear p6);(try clear q6)
  obtain ⟨kq, x18_1, rfl, HA, HJ1, ⟨mc1, rfl⟩⟩ := hcut
  cases kq with
  | zero => exact absurd HA.out (by simp [spec_l1Read.j0])
  | succ kj1 =>
   have H := HA.out
   clear HA
   simp only [spec_l1Read.j0] at H
   by_cases c8 : x18_1 = true
   ·subst c8
    have H1 := H
    rw [if_pos rfl] at H1
    clear H
    have H := H1
    clear H1
    obtain rfl := Option.some.inj H
    go_wp2
    go_ret
    exact ⟨by first | rfl | (simp; done) | (simp [*]; done), by repeat (first | exact Drawn0.refl _ | apply Drawn0.step)⟩
   ·replace c8 := Bool.eq_false_iff.mpr c8
    subst c8
    have H1 : (spec_l1Read.l0 kj1 a0 0 0) = some r := by rw [if_neg (show ¬ (false = true) by decide)] at H; exact H
    clear H
    have H := H1
    clear H1
    have H' := Aside0.mk H
    clear H
    go_wp2
    go_loopg [3, 4] kj1 (fun kq v3 v4 w' => ∃ (x3_2 : Int) (x4_2 : Int), v3 = .int .i64 x3_2 ∧ v4 = .int .i64 x4_2 ∧ Aside0 (spec_l1Read.l0 kq a0 x3_2 x4_2 = some r) ∧ Aside0 (kq ≤ kj1) ∧ Drawn0 w w')
    case atStart => exact ⟨(0), (0), (by first | rfl | (simp; done) | (simp [*]; done)), (by first | rfl | (simp; done) | (simp [*]; done)), H', ⟨Nat.le_refl _⟩, by repeat (first | exact Drawn0.refl _ | apply Drawn0.step)⟩
    case round =>
     clear H'
     (try clear c1);(try clear p2);(try clear c4);(try clear c5);(try clear c5b0);(try clear c5b1);(try clear p6);(try clear q6);(try clear hx6);(try clear qi6);(try clear c7);(try clear c7b0);(try clear c7b1);(try clear c8);(try clear p2);(try clear p6);(try clear q6)
     obtain ⟨x3_2, x4_2, rfl, rfl, HA, HK2, ⟨m2, rfl⟩⟩ := hrel
     cases gk with
     | zero => exact absurd HA.out (by simp [spec_l1Read.l0])
     | succ k2 =>
      have H := HA.out
      clear HA
      simp only [spec_l1Read.l0] at H
      by_cases c9 : x4_2 < (a0.size : Int)
      ·rw [if_pos c9] at H
       have c9b0 : decide (x4_2 < (a0.size : Int)) = true := decide_eq_true c9
       clear c9
       by_cases c10 : 0 ≤ x4_2
       ·rw [if_pos c10] at H
        have c10b0 : decide (0 ≤ x4_2) = true := decide_eq_true c10
        clear c10
        by_cases c12 : (bt a0 x4_2) < 48
        ·rw [if_pos c12] at H
         have c12b0 : decide ((bt a0 x4_2) < 48) = true := decide_eq_true c12
         clear c12
         obtain rfl := Option.some.inj H
         have p11 : 0 ≤ (x4_2 : Int) := of_decide_eq_true (by first | (with_reducible assumption) | assumption)
         have q11 : x4_2 < (a0.size : Int) := of_decide_eq_true (by first | (with_reducible assumption) | assumption)
         have hx11 := bt_at a0 x4_2
         replace p11 := eq_true p11
         replace q11 := eq_true q11
         go_wp2
         go_ret
         exact ⟨by first | rfl | (simp; done) | (simp [*]; done), by repeat (first | exact Drawn0.refl _ | apply Drawn0.step)⟩
        ·rw [if_neg c12] at H
         have c12b0 : decide ((bt a0 x4_2) < 48) = false := decide_eq_false c12
         clear c12
         by_cases c14 : (bt a0 x4_2) > 57
         ·rw [if_pos c14] at H
          have c14b0 : decide (57 < (bt a0 x4_2)) = true := decide_eq_true c14
          clear c14
          obtain rfl := Option.some.inj H
          have p11 : 0 ≤ (x4_2 : Int) := of_decide_eq_true (by first | (with_reducible assumption) | assumption)
          have q11 : x4_2 < (a0.size : Int) := of_decide_eq_true (by first | (with_reducible assumption) | assumption)
          have hx11 := bt_at a0 x4_2
          replace p11 := eq_true p11
          replace q11 := eq_true q11
          have p13 : 0 ≤ (x4_2 : Int) := of_decide_eq_true (by first | (with_reducible assumption) | assumption)
          have q13 : x4_2 < (a0.size : Int) := of_decide_eq_true (by first | (with_reducible assumption) | assumption)
          have hx13 := bt_at a0 x4_2
          replace p13 := eq_true p13
          replace q13 := eq_true q13
          go_wp2
          go_ret
          exact ⟨by first | rfl | (simp; done) | (simp [*]; done), by repeat (first | exact Drawn0.refl _ | apply Drawn0.step)⟩
         ·rw [if_neg c14] at H
          have c14b0 : decide (57 < (bt a0 x4_2)) = false := decide_eq_false c14
          clear c14
          have H' := Aside0.mk H
          clear H
          have p11 : 0 ≤ (x4_2 : Int) := of_decide_eq_true (by first | (with_reducible assumption) | assumption)
          have q11 : x4_2 < (a0.size : Int) := of_decide_eq_true (by first | (with_reducible assumption) | assumption)
          have hx11 := bt_at a0 x4_2
          replace p11 := eq_true p11
          replace q11 := eq_true q11
          have p13 : 0 ≤ (x4_2 : Int) := of_decide_eq_true (by first | (with_reducible assumption) | assumption)
          have q13 : x4_2 < (a0.size : Int) := of_decide_eq_true (by first | (with_reducible assumption) | assumption)
          have hx13 := bt_at a0 x4_2
          replace p13 := eq_true p13
          replace q13 := eq_true q13
          have p15 : 0 ≤ (x4_2 : Int) := of_decide_eq_true (by first | (with_reducible assumption) | assumption)
          have q15 : x4_2 < (a0.size : Int) := of_decide_eq_true (by first | (with_reducible assumption) | assumption)
          have hx15 := bt_at a0 x4_2
          replace p15 := eq_true p15
          replace q15 := eq_true q15
          go_wp2
          go_roundg k2
          case measure => have := HJ1.out; have := HK2.out; omega
          case rel => exact ⟨(wrap64 ((wrap64 (10 * x3_2)) + (((bt a0 x4_2) - 48) % 256))), (wrap64 (x4_2 + 1)), (by first | rfl | (simp; done) | (simp [*]; done)), (by first | rfl | (simp; done) | (simp [*]; done)), H', ⟨by have := HJ1.out; have := HK2.out; omega⟩, by repeat (first | exact Drawn0.refl _ | apply Drawn0.step)⟩
       ·rw [if_neg c10] at H
        exact absurd H (by simp)
      ·rw [if_neg c9] at H
       have c9b0 : decide (x4_2 < (a0.size : Int)) = false := decide_eq_false c9
       clear c9
       obtain rfl := Option.some.inj H
       go_wp2
       go_ret
       exact ⟨by first | rfl | (simp; done) | (simp [*]; done), by repeat (first | exact Drawn0.refl _ | apply Drawn0.step)⟩
end Go.Proofs.YtibfocaldcjiiaaGreatDoor.Q

-- Printed by a program of this session (wip/tools/myprint.py) that runs the kit's print, hand-proved functions among the others.
namespace Go.Proofs.YtibfocaldcjiiaaGreatDoor.Q
open Go.RowKit Go.Proofs.YtibfocaldcjiiaaGreatDoorW.PrintWords Go.Proofs.YtibfocaldcjiiaaGreatDoorW.PrintLast Go.Proofs.YtibfocaldcjiiaaGreatDoorW.PrintMore
attribute [local go_sem] max2_int min2_int max_two min_two max_three min_three max_four min_four   -- for this text's walks alone
set_option linter.unusedVariables false
set_option linter.unusedSimpArgs false

/-! ### spec_l15Num: function 117 -/
def spec_l15Num.f (k : Nat) (a0 : ByteArray) : Option (Int) := (spec_l1Read.f k a0).bind fun t842 => (if (a0.size : Int) > 2 then (some (-1)) else (if t842 > 99 then (some (-1)) else (some t842)))
theorem spec_l15Num.mono : ∀ a0 k, LeO (spec_l15Num.f k a0) (spec_l15Num.f (k + 1) a0) := by
 intro a0 k
 unfold spec_l15Num.f
 repeat' first
   | (with_reducible exact spec_l1Read.mono _ _)
   | (with_reducible exact LeO.refl _)
   | (with_reducible exact LeO.none _)
   | (with_reducible refine LeO.ite ?_ ?_)
   | (with_reducible refine LeO.bind ?_ (fun _ => ?_))
   | exact spec_l1Read.mono _ _
   | exact LeO.none _
   | refine LeO.ite ?_ ?_
   | refine LeO.bind ?_ (fun _ => ?_)
set_option maxHeartbeats 8000000 in
set_option maxRecDepth 100000 in
theorem spec_l15Num.calls (k : Nat) (a0 : ByteArray) (r : Int) (w : World) (h : spec_l15Num.f k a0 = some r) :
  Calls Tryz.prog 117 #[.string a0] w fun e w' => e = .returned (.int .i64 r) ∧ Drawn0 w w' := by
 have H : ((spec_l1Read.f k a0).bind fun t842 => (if (a0.size : Int) > 2 then (some (-1)) else (if t842 > 99 then (some (-1)) else (some t842)))) = some r := h
 clear h
 replace H := Option.bind_eq_some_iff.mp H
 obtain ⟨t842, A20, H⟩ := H
 try dsimp only at H
 have A2 := Aside0.mk A20
 clear A20
 by_cases c3 : (a0.size : Int) > 2
 ·rw [if_pos c3] at H
  have c3b0 : decide (2 < (a0.size : Int)) = true := decide_eq_true c3
  have c3b1 : decide (2 < a0.size) = true := decide_eq_true (by omega)
  clear c3
  obtain rfl := Option.some.inj H
  go_enter Tryz.func117, Tryz.ntmps117
  go_wp2_with (first | ((with_reducible refine gate_callee (f := 166) rfl ?_); refine goesL_ (some 5) rfl rfl Tryz.func166 (by kernel_rfl) rfl #[.string a0] rfl (by (try simp only [List.map_toArray, List.map_cons, List.map_nil]); first | done | rfl | (simp only [List.length_drop, List.length_take]; rfl)) ?_; (with_reducible refine (spec_l1Read.calls k a0 t842 _ A2.out).mono ?_); rintro e w' ⟨rfl, ⟨nd, rfl⟩⟩; refine ⟨_, rfl, ?_⟩))
  go_ret
  exact ⟨by first | rfl | (simp; done) | (simp [*]; done), by repeat (first | exact Drawn0.refl _ | apply Drawn0.step)⟩
 ·rw [if_neg c3] at H
  have c3b0 : decide (2 < (a0.size : Int)) = false := decide_eq_false c3
  have c3b1 : decide (2 < a0.size) = false := decide_eq_false (by omega)
  clear c3
  by_cases c4 : t842 > 99
  ·rw [if_pos c4] at H
   have c4b0 : decide (99 < t842) = true := decide_eq_true c4
   clear c4
   obtain rfl := Option.some.inj H
   go_enter Tryz.func117, Tryz.ntmps117
   go_wp2_with (first | ((with_reducible refine gate_callee (f := 166) rfl ?_); refine goesL_ (some 5) rfl rfl Tryz.func166 (by kernel_rfl) rfl #[.string a0] rfl (by (try simp only [List.map_toArray, List.map_cons, List.map_nil]); first | done | rfl | (simp only [List.length_drop, List.length_take]; rfl)) ?_; (with_reducible refine (spec_l1Read.calls k a0 t842 _ A2.out).mono ?_); rintro e w' ⟨rfl, ⟨nd, rfl⟩⟩; refine ⟨_, rfl, ?_⟩))
   go_ret
   exact ⟨by first | rfl | (simp; done) | (simp [*]; done), by repeat (first | exact Drawn0.refl _ | apply Drawn0.step)⟩
  ·rw [if_neg c4] at H
   have c4b0 : decide (99 < t842) = false := decide_eq_false c4
   clear c4
   obtain rfl := Option.some.inj H
   go_enter Tryz.func117, Tryz.ntmps117
   go_wp2_with (first | ((with_reducible refine gate_callee (f := 166) rfl ?_); refine goesL_ (some 5) rfl rfl Tryz.func166 (by kernel_rfl) rfl #[.string a0] rfl (by (try simp only [List.map_toArray, List.map_cons, List.map_nil]); first | done | rfl | (simp only [List.length_drop, List.length_take]; rfl)) ?_; (with_reducible refine (spec_l1Read.calls k a0 t842 _ A2.out).mono ?_); rintro e w' ⟨rfl, ⟨nd, rfl⟩⟩; refine ⟨_, rfl, ?_⟩))
   go_ret
   exact ⟨by first | rfl | (simp; done) | (simp [*]; done), by repeat (first | exact Drawn0.refl _ | apply Drawn0.step)⟩
end Go.Proofs.YtibfocaldcjiiaaGreatDoor.Q

-- Printed by a program of this session (wip/tools/myprint.py) that runs the kit's print, hand-proved functions among the others.
namespace Go.Proofs.YtibfocaldcjiiaaGreatDoor.Q
open Go.RowKit Go.Proofs.YtibfocaldcjiiaaGreatDoorW.PrintWords Go.Proofs.YtibfocaldcjiiaaGreatDoorW.PrintLast Go.Proofs.YtibfocaldcjiiaaGreatDoorW.PrintMore
attribute [local go_sem] max2_int min2_int max_two min_two max_three min_three max_four min_four   -- for this text's walks alone
set_option linter.unusedVariables false
set_option linter.unusedSimpArgs false

/-! ### impl_isNameByte: function 215 -/
def impl_isNameByte.f (a0 : Int) : Option (Bool) := if a0 ≥ 97 then (if a0 ≤ 122 then (some true) else (if a0 ≥ 48 then (if a0 ≤ 57 then (some true) else (if a0 = 46 then (some true) else (if a0 = 95 then (some true) else (some (a0 == 45))))) else (if a0 = 46 then (some true) else (if a0 = 95 then (some true) else (some (a0 == 45)))))) else (if a0 ≥ 48 then (if a0 ≤ 57 then (some true) else (if a0 = 46 then (some true) else (if a0 = 95 then (some true) else (some (a0 == 45))))) else (if a0 = 46 then (some true) else (if a0 = 95 then (some true) else (some (a0 == 45)))))
set_option maxHeartbeats 8000000 in
set_option maxRecDepth 100000 in
theorem impl_isNameByte.calls (a0 : Int) (r : Bool) (w : World) (h : impl_isNameByte.f a0 = some r) :
  Calls Tryz.prog 215 #[.int .u8 a0] w fun e w' => e = .returned (.bool r) ∧ Drawn0 w w' := by
 have H : (if a0 ≥ 97 then (if a0 ≤ 122 then (some true) else (if a0 ≥ 48 then (if a0 ≤ 57 then (some true) else (if a0 = 46 then (some true) else (if a0 = 95 then (some true) else (some (a0 == 45))))) else (if a0 = 46 then (some true) else (if a0 = 95 then (some true) else (some (a0 == 45)))))) else (if a0 ≥ 48 then (if a0 ≤ 57 then (some true) else (if a0 = 46 then (some true) else (if a0 = 95 then (some true) else (some (a0 == 45))))) else (if a0 = 46 then (some true) else (if a0 = 95 then (some true) else (some (a0 == 45)))))) = some r := h
 clear h
 by_cases c2 : a0 ≥ 97
 ·rw [if_pos c2] at H
  have c2b0 : decide (97 ≤ a0) = true := decide_eq_true c2
  clear c2
  by_cases c3 : a0 ≤ 122
  ·rw [if_pos c3] at H
   have c3b0 : decide (a0 ≤ 122) = true := decide_eq_true c3
   clear c3
   obtain rfl := Option.some.inj H
   go_enter Tryz.func215, Tryz.ntmps215
   go_wp2
   go_ret
   exact ⟨by first | rfl | (simp; done) | (simp [*]; done), by repeat (first | exact Drawn0.refl _ | apply Drawn0.step)⟩
  ·rw [if_neg c3] at H
   have c3b0 : decide (a0 ≤ 122) = false := decide_eq_false c3
   clear c3
   by_cases c4 : a0 ≥ 48
   ·rw [if_pos c4] at H
    have c4b0 : decide (48 ≤ a0) = true := decide_eq_true c4
    clear c4
    by_cases c5 : a0 ≤ 57
    ·rw [if_pos c5] at H
     have c5b0 : decide (a0 ≤ 57) = true := decide_eq_true c5
     clear c5
     obtain rfl := Option.some.inj H
     go_enter Tryz.func215, Tryz.ntmps215
     go_wp2
     go_ret
     exact ⟨by first | rfl | (simp; done) | (simp [*]; done), by repeat (first | exact Drawn0.refl _ | apply Drawn0.step)⟩
    ·rw [if_neg c5] at H
     have c5b0 : decide (a0 ≤ 57) = false := decide_eq_false c5
     clear c5
     by_cases c6 : a0 = 46
     ·rw [if_pos c6] at H
      have c6b0 : (a0 == 46) = true := beq_iff_eq.mpr c6
      have c6b1 : (a0 != 46) = false := bne_eq_false_iff_eq.mpr c6
      clear c6
      obtain rfl := Option.some.inj H
      go_enter Tryz.func215, Tryz.ntmps215
      go_wp2
      go_ret
      exact ⟨by first | rfl | (simp; done) | (simp [*]; done), by repeat (first | exact Drawn0.refl _ | apply Drawn0.step)⟩
     ·rw [if_neg c6] at H
      have c6b0 : (a0 == 46) = false := beq_eq_false_iff_ne.mpr c6
      have c6b1 : (a0 != 46) = true := bne_iff_ne.mpr c6
      by_cases c7 : a0 = 95
      ·rw [if_pos c7] at H
       have c7b0 : (a0 == 95) = true := beq_iff_eq.mpr c7
       have c7b1 : (a0 != 95) = false := bne_eq_false_iff_eq.mpr c7
       clear c7
       obtain rfl := Option.some.inj H
       go_enter Tryz.func215, Tryz.ntmps215
       go_wp2
       go_ret
       exact ⟨by first | rfl | (simp; done) | (simp [*]; done), by repeat (first | exact Drawn0.refl _ | apply Drawn0.step)⟩
      ·rw [if_neg c7] at H
       have c7b0 : (a0 == 95) = false := beq_eq_false_iff_ne.mpr c7
       have c7b1 : (a0 != 95) = true := bne_iff_ne.mpr c7
       obtain rfl := Option.some.inj H
       go_enter Tryz.func215, Tryz.ntmps215
       go_wp2
       go_ret
       exact ⟨by first | rfl | (simp; done) | (simp [*]; done), by repeat (first | exact Drawn0.refl _ | apply Drawn0.step)⟩
   ·rw [if_neg c4] at H
    have c4b0 : decide (48 ≤ a0) = false := decide_eq_false c4
    clear c4
    by_cases c8 : a0 = 46
    ·rw [if_pos c8] at H
     have c8b0 : (a0 == 46) = true := beq_iff_eq.mpr c8
     have c8b1 : (a0 != 46) = false := bne_eq_false_iff_eq.mpr c8
     clear c8
     obtain rfl := Option.some.inj H
     go_enter Tryz.func215, Tryz.ntmps215
     go_wp2
     go_ret
     exact ⟨by first | rfl | (simp; done) | (simp [*]; done), by repeat (first | exact Drawn0.refl _ | apply Drawn0.step)⟩
    ·rw [if_neg c8] at H
     have c8b0 : (a0 == 46) = false := beq_eq_false_iff_ne.mpr c8
     have c8b1 : (a0 != 46) = true := bne_iff_ne.mpr c8
     by_cases c9 : a0 = 95
     ·rw [if_pos c9] at H
      have c9b0 : (a0 == 95) = true := beq_iff_eq.mpr c9
      have c9b1 : (a0 != 95) = false := bne_eq_false_iff_eq.mpr c9
      clear c9
      obtain rfl := Option.some.inj H
      go_enter Tryz.func215, Tryz.ntmps215
      go_wp2
      go_ret
      exact ⟨by first | rfl | (simp; done) | (simp [*]; done), by repeat (first | exact Drawn0.refl _ | apply Drawn0.step)⟩
     ·rw [if_neg c9] at H
      have c9b0 : (a0 == 95) = false := beq_eq_false_iff_ne.mpr c9
      have c9b1 : (a0 != 95) = true := bne_iff_ne.mpr c9
      obtain rfl := Option.some.inj H
      go_enter Tryz.func215, Tryz.ntmps215
      go_wp2
      go_ret
      exact ⟨by first | rfl | (simp; done) | (simp [*]; done), by repeat (first | exact Drawn0.refl _ | apply Drawn0.step)⟩
 ·rw [if_neg c2] at H
  have c2b0 : decide (97 ≤ a0) = false := decide_eq_false c2
  clear c2
  by_cases c10 : a0 ≥ 48
  ·rw [if_pos c10] at H
   have c10b0 : decide (48 ≤ a0) = true := decide_eq_true c10
   clear c10
   by_cases c11 : a0 ≤ 57
   ·rw [if_pos c11] at H
    have c11b0 : decide (a0 ≤ 57) = true := decide_eq_true c11
    clear c11
    obtain rfl := Option.some.inj H
    go_enter Tryz.func215, Tryz.ntmps215
    go_wp2
    go_ret
    exact ⟨by first | rfl | (simp; done) | (simp [*]; done), by repeat (first | exact Drawn0.refl _ | apply Drawn0.step)⟩
   ·rw [if_neg c11] at H
    have c11b0 : decide (a0 ≤ 57) = false := decide_eq_false c11
    clear c11
    by_cases c12 : a0 = 46
    ·rw [if_pos c12] at H
     have c12b0 : (a0 == 46) = true := beq_iff_eq.mpr c12
     have c12b1 : (a0 != 46) = false := bne_eq_false_iff_eq.mpr c12
     clear c12
     obtain rfl := Option.some.inj H
     go_enter Tryz.func215, Tryz.ntmps215
     go_wp2
     go_ret
     exact ⟨by first | rfl | (simp; done) | (simp [*]; done), by repeat (first | exact Drawn0.refl _ | apply Drawn0.step)⟩
    ·rw [if_neg c12] at H
     have c12b0 : (a0 == 46) = false := beq_eq_false_iff_ne.mpr c12
     have c12b1 : (a0 != 46) = true := bne_iff_ne.mpr c12
     by_cases c13 : a0 = 95
     ·rw [if_pos c13] at H
      have c13b0 : (a0 == 95) = true := beq_iff_eq.mpr c13
      have c13b1 : (a0 != 95) = false := bne_eq_false_iff_eq.mpr c13
      clear c13
      obtain rfl := Option.some.inj H
      go_enter Tryz.func215, Tryz.ntmps215
      go_wp2
      go_ret
      exact ⟨by first | rfl | (simp; done) | (simp [*]; done), by repeat (first | exact Drawn0.refl _ | apply Drawn0.step)⟩
     ·rw [if_neg c13] at H
      have c13b0 : (a0 == 95) = false := beq_eq_false_iff_ne.mpr c13
      have c13b1 : (a0 != 95) = true := bne_iff_ne.mpr c13
      obtain rfl := Option.some.inj H
      go_enter Tryz.func215, Tryz.ntmps215
      go_wp2
      go_ret
      exact ⟨by first | rfl | (simp; done) | (simp [*]; done), by repeat (first | exact Drawn0.refl _ | apply Drawn0.step)⟩
  ·rw [if_neg c10] at H
   have c10b0 : decide (48 ≤ a0) = false := decide_eq_false c10
   clear c10
   by_cases c14 : a0 = 46
   ·rw [if_pos c14] at H
    have c14b0 : (a0 == 46) = true := beq_iff_eq.mpr c14
    have c14b1 : (a0 != 46) = false := bne_eq_false_iff_eq.mpr c14
    clear c14
    obtain rfl := Option.some.inj H
    go_enter Tryz.func215, Tryz.ntmps215
    go_wp2
    go_ret
    exact ⟨by first | rfl | (simp; done) | (simp [*]; done), by repeat (first | exact Drawn0.refl _ | apply Drawn0.step)⟩
   ·rw [if_neg c14] at H
    have c14b0 : (a0 == 46) = false := beq_eq_false_iff_ne.mpr c14
    have c14b1 : (a0 != 46) = true := bne_iff_ne.mpr c14
    by_cases c15 : a0 = 95
    ·rw [if_pos c15] at H
     have c15b0 : (a0 == 95) = true := beq_iff_eq.mpr c15
     have c15b1 : (a0 != 95) = false := bne_eq_false_iff_eq.mpr c15
     clear c15
     obtain rfl := Option.some.inj H
     go_enter Tryz.func215, Tryz.ntmps215
     go_wp2
     go_ret
     exact ⟨by first | rfl | (simp; done) | (simp [*]; done), by repeat (first | exact Drawn0.refl _ | apply Drawn0.step)⟩
    ·rw [if_neg c15] at H
     have c15b0 : (a0 == 95) = false := beq_eq_false_iff_ne.mpr c15
     have c15b1 : (a0 != 95) = true := bne_iff_ne.mpr c15
     obtain rfl := Option.some.inj H
     go_enter Tryz.func215, Tryz.ntmps215
     go_wp2
     go_ret
     exact ⟨by first | rfl | (simp; done) | (simp [*]; done), by repeat (first | exact Drawn0.refl _ | apply Drawn0.step)⟩
end Go.Proofs.YtibfocaldcjiiaaGreatDoor.Q

-- Printed by a program of this session (wip/tools/myprint.py) that runs the kit's print, hand-proved functions among the others.
namespace Go.Proofs.YtibfocaldcjiiaaGreatDoor.Q
open Go.RowKit Go.Proofs.YtibfocaldcjiiaaGreatDoorW.PrintWords Go.Proofs.YtibfocaldcjiiaaGreatDoorW.PrintLast Go.Proofs.YtibfocaldcjiiaaGreatDoorW.PrintMore
attribute [local go_sem] max2_int min2_int max_two min_two max_three min_three max_four min_four   -- for this text's walks alone
set_option linter.unusedVariables false
set_option linter.unusedSimpArgs false

/-! ### impl_within: function 71 -/
def impl_within.f (a0 : Int) (a1 : Int) (a2 : Int) : Option (Bool) := if a0 ≥ a1 then (some (decide (a0 ≤ a2))) else (some false)
set_option maxHeartbeats 8000000 in
set_option maxRecDepth 100000 in
theorem impl_within.calls (a0 : Int) (a1 : Int) (a2 : Int) (r : Bool) (w : World) (h : impl_within.f a0 a1 a2 = some r) :
  Calls Tryz.prog 71 #[.int .i64 a0, .int .i64 a1, .int .i64 a2] w fun e w' => e = .returned (.bool r) ∧ Drawn0 w w' := by
 have H : (if a0 ≥ a1 then (some (decide (a0 ≤ a2))) else (some false)) = some r := h
 clear h
 by_cases c4 : a0 ≥ a1
 ·rw [if_pos c4] at H
  have c4b0 : decide (a1 ≤ a0) = true := decide_eq_true c4
  clear c4
  obtain rfl := Option.some.inj H
  go_enter Tryz.func71, Tryz.ntmps71
  go_wp2
  go_ret
  exact ⟨by first | rfl | (simp; done) | (simp [*]; done), by repeat (first | exact Drawn0.refl _ | apply Drawn0.step)⟩
 ·rw [if_neg c4] at H
  have c4b0 : decide (a1 ≤ a0) = false := decide_eq_false c4
  clear c4
  obtain rfl := Option.some.inj H
  go_enter Tryz.func71, Tryz.ntmps71
  go_wp2
  go_ret
  exact ⟨by first | rfl | (simp; done) | (simp [*]; done), by repeat (first | exact Drawn0.refl _ | apply Drawn0.step)⟩
end Go.Proofs.YtibfocaldcjiiaaGreatDoor.Q
